/-
  Names for the nodes of the code of some functions (projections of their bodies), the step of each node, and the facts of types that they use.
-/
import Derived.Test.YtkmompbfcgjgmaaKp
namespace Go.Proofs.Ytkmompbfcgjgmaa.nt
open Go.GE
set_option maxRecDepth 100000
variable (E : Ev) (cx : Cx) (st : St) (f nt b : Nat) (ro : Option Nat)
noncomputable def n3_0 : Code := bodyOf Try.f3
noncomputable def n3_1 : Code := cl n3_0
noncomputable def q3_1 : List Oper := opsOf n3_1
noncomputable def n3_2 : Code := cr n3_0
noncomputable def n3_3 : Code := cl n3_2
noncomputable def n3_4 : Code := cl n3_3
noncomputable def q3_4 : List Oper := opsOf n3_4
noncomputable def n3_5 : Code := cr n3_3
noncomputable def n3_6 : Code := cl n3_5
noncomputable def n3_7 : Code := cl n3_6
noncomputable def q3_7 : List Oper := opsOf n3_7
noncomputable def n3_8 : Code := cr n3_6
noncomputable def n3_9 : Code := cr n3_5
noncomputable def n3_10 : Code := cr n3_2
noncomputable def n3_11 : Code := cl n3_10
noncomputable def q3_11 : List Oper := opsOf n3_11
noncomputable def n3_12 : Code := cr n3_10
noncomputable def n3_13 : Code := cl n3_12
noncomputable def q3_13 : List Oper := opsOf n3_13
noncomputable def n3_14 : Code := cr n3_12
noncomputable def n3_15 : Code := cl n3_14
noncomputable def q3_15 : List Oper := opsOf n3_15
noncomputable def n3_16 : Code := cr n3_14
noncomputable def n3_17 : Code := cl n3_16
noncomputable def q3_17 : List Oper := opsOf n3_17
noncomputable def n3_18 : Code := cr n3_16
noncomputable def n3_19 : Code := cl n3_18
noncomputable def q3_19 : List Oper := opsOf n3_19
noncomputable def n3_20 : Code := cr n3_18
noncomputable def n3_21 : Code := cl n3_20
noncomputable def q3_21 : List Oper := opsOf n3_21
noncomputable def n3_22 : Code := cr n3_20
noncomputable def n3_23 : Code := cl n3_22
noncomputable def q3_23 : List Oper := opsOf n3_23
noncomputable def n3_24 : Code := cr n3_22
theorem body3 : Try.f3.body = some n3_0 := by kernel_rfl
theorem run3 (E : Ev) (args : List Value) (h : List Blk) (hl : args.length ≤ 91) : runB Try.prog E 3 args h = endS Try.prog [.tmp 4] h.length (codeB Try.prog E ⟨3, 91, h.length, none⟩ n3_0 ⟨enumT 0 args, h, []⟩) := GE.run_step Try.func3 body3 (by kernel_rfl) (by decide) (by kernel_rfl) hl
theorem n3_1s : codeB Try.prog E ⟨f, 91, b, ro⟩ n3_1 st = plainS (runOps Try.prog E b q3_1 (ops [false] Try.f3) st) := GE.region_step (id := 0) (GE.reg_of (by kernel_rfl)) (by kernel_rfl)
theorem n3_4s : codeB Try.prog E ⟨f, 91, b, ro⟩ n3_4 st = plainS (runOps Try.prog E b q3_4 (ops [true, false, false] Try.f3) st) := GE.region_step (id := 1) (GE.reg_of (by kernel_rfl)) (by kernel_rfl)
theorem n3_7s : codeB Try.prog E ⟨f, 91, b, ro⟩ n3_7 st = plainS (runOps Try.prog E b q3_7 (ops [true, false, true, false, false] Try.f3) st) := GE.region_step (id := 2) (GE.reg_of (by kernel_rfl)) (by kernel_rfl)
theorem n3_8s : codeB Try.prog LL ⟨3, 91, b, ro⟩ n3_8 st = normS b ⟨[4], []⟩ .ret st := GE.ret_step (by kernel_rfl) (by kernel_rfl)
theorem n3_6s : codeB Try.prog E cx n3_6 st = thenS (codeB Try.prog E cx n3_7 st) (codeB Try.prog E cx n3_8) := GE.seq_step (by kernel_rfl)
theorem n3_9s : codeB Try.prog E cx n3_9 st = some (.normal, st) := GE.skip_step (by kernel_rfl)
theorem n3_5s : codeB Try.prog E cx n3_5 st = condS (codeB Try.prog E cx n3_6) (codeB Try.prog E cx n3_9) (lk st.σ 19) st := GE.cond_step (c := .tmp 19) (by kernel_rfl)
theorem n3_3s : codeB Try.prog E cx n3_3 st = thenS (codeB Try.prog E cx n3_4 st) (codeB Try.prog E cx n3_5) := GE.seq_step (by kernel_rfl)
theorem n3_11s : codeB Try.prog E ⟨f, 91, b, ro⟩ n3_11 st = plainS (runOps Try.prog E b q3_11 (ops [true, true, false] Try.f3) st) := GE.region_step (id := 3) (GE.reg_of (by kernel_rfl)) (by kernel_rfl)
theorem n3_13s : codeB Try.prog E ⟨f, 91, b, ro⟩ n3_13 st = plainS (runOps Try.prog E b q3_13 (ops [true, true, true, false] Try.f3) st) := GE.region_step (id := 4) (GE.reg_of (by kernel_rfl)) (by kernel_rfl)
theorem n3_15s : codeB Try.prog E ⟨f, 91, b, ro⟩ n3_15 st = plainS (runOps Try.prog E b q3_15 (ops [true, true, true, true, false] Try.f3) st) := GE.region_step (id := 5) (GE.reg_of (by kernel_rfl)) (by kernel_rfl)
theorem n3_17s : codeB Try.prog E ⟨f, 91, b, ro⟩ n3_17 st = plainS (runOps Try.prog E b q3_17 (ops [true, true, true, true, true, false] Try.f3) st) := GE.region_step (id := 6) (GE.reg_of (by kernel_rfl)) (by kernel_rfl)
theorem n3_19s : codeB Try.prog E ⟨f, 91, b, ro⟩ n3_19 st = plainS (runOps Try.prog E b q3_19 (ops [true, true, true, true, true, true, false] Try.f3) st) := GE.region_step (id := 7) (GE.reg_of (by kernel_rfl)) (by kernel_rfl)
theorem n3_21s : codeB Try.prog E ⟨f, 91, b, ro⟩ n3_21 st = plainS (runOps Try.prog E b q3_21 (ops [true, true, true, true, true, true, true, false] Try.f3) st) := GE.region_step (id := 8) (GE.reg_of (by kernel_rfl)) (by kernel_rfl)
theorem q3_23g3 : gd q3_23 3 = some 56 := by kernel_rfl
theorem q3_23g8 : gd q3_23 8 = some 61 := by kernel_rfl
theorem q3_23g13 : gd q3_23 13 = some 66 := by kernel_rfl
theorem q3_23g18 : gd q3_23 18 = some 71 := by kernel_rfl
theorem q3_23g23 : gd q3_23 23 = some 76 := by kernel_rfl
theorem q3_23g28 : gd q3_23 28 = some 81 := by kernel_rfl
theorem q3_23g35 : gd q3_23 35 = some 88 := by kernel_rfl
theorem n3_23s : codeB Try.prog E ⟨f, 91, b, ro⟩ n3_23 st = plainS (runOps Try.prog E b q3_23 (ops [true, true, true, true, true, true, true, true, false] Try.f3) st) := GE.region_step (id := 9) (GE.reg_of (by kernel_rfl)) (by kernel_rfl)
theorem n3_24s : codeB Try.prog LL ⟨3, 91, b, ro⟩ n3_24 st = normS b ⟨[4], []⟩ .ret st := GE.ret_step (by kernel_rfl) (by kernel_rfl)
theorem n3_22s : codeB Try.prog E cx n3_22 st = thenS (codeB Try.prog E cx n3_23 st) (codeB Try.prog E cx n3_24) := GE.seq_step (by kernel_rfl)
theorem n3_20s : codeB Try.prog E cx n3_20 st = thenS (codeB Try.prog E cx n3_21 st) (codeB Try.prog E cx n3_22) := GE.seq_step (by kernel_rfl)
theorem n3_18s : codeB Try.prog E cx n3_18 st = thenS (codeB Try.prog E cx n3_19 st) (codeB Try.prog E cx n3_20) := GE.seq_step (by kernel_rfl)
theorem n3_16s : codeB Try.prog E cx n3_16 st = thenS (codeB Try.prog E cx n3_17 st) (codeB Try.prog E cx n3_18) := GE.seq_step (by kernel_rfl)
theorem n3_14s : codeB Try.prog E cx n3_14 st = thenS (codeB Try.prog E cx n3_15 st) (codeB Try.prog E cx n3_16) := GE.seq_step (by kernel_rfl)
theorem n3_12s : codeB Try.prog E cx n3_12 st = thenS (codeB Try.prog E cx n3_13 st) (codeB Try.prog E cx n3_14) := GE.seq_step (by kernel_rfl)
theorem n3_10s : codeB Try.prog E cx n3_10 st = thenS (codeB Try.prog E cx n3_11 st) (codeB Try.prog E cx n3_12) := GE.seq_step (by kernel_rfl)
theorem n3_2s : codeB Try.prog E cx n3_2 st = thenS (codeB Try.prog E cx n3_3 st) (codeB Try.prog E cx n3_10) := GE.seq_step (by kernel_rfl)
theorem n3_0s : codeB Try.prog E cx n3_0 st = thenS (codeB Try.prog E cx n3_1 st) (codeB Try.prog E cx n3_2) := GE.seq_step (by kernel_rfl)
noncomputable def n13_0 : Code := bodyOf Try.f13
noncomputable def n13_1 : Code := cl n13_0
noncomputable def q13_1 : List Oper := opsOf n13_1
noncomputable def n13_2 : Code := cr n13_0
noncomputable def n13_3 : Code := cl n13_2
noncomputable def q13_3 : List Oper := opsOf n13_3
noncomputable def n13_4 : Code := cr n13_2
noncomputable def n13_5 : Code := cl n13_4
noncomputable def n13_6 : Code := cl n13_5
noncomputable def n13_7 : Code := cl n13_6
noncomputable def q13_7 : List Oper := opsOf n13_7
noncomputable def n13_8 : Code := cr n13_6
noncomputable def n13_9 : Code := cl n13_8
noncomputable def n13_10 : Code := cl n13_9
noncomputable def q13_10 : List Oper := opsOf n13_10
noncomputable def n13_11 : Code := cr n13_9
noncomputable def n13_12 : Code := cr n13_8
noncomputable def n13_13 : Code := cl n13_12
noncomputable def q13_13 : List Oper := opsOf n13_13
noncomputable def n13_14 : Code := cr n13_12
noncomputable def n13_15 : Code := cl n13_14
noncomputable def n13_16 : Code := cl n13_15
noncomputable def q13_16 : List Oper := opsOf n13_16
noncomputable def n13_17 : Code := cr n13_15
noncomputable def n13_18 : Code := cr n13_14
noncomputable def n13_19 : Code := cr n13_4
noncomputable def n13_20 : Code := cl n13_19
noncomputable def q13_20 : List Oper := opsOf n13_20
noncomputable def n13_21 : Code := cr n13_19
theorem body13 : Try.f13.body = some n13_0 := by kernel_rfl
theorem run13 (E : Ev) (args : List Value) (h : List Blk) (hl : args.length ≤ 20) : runB Try.prog E 13 args h = endS Try.prog [.tmp 4, .tmp 5] h.length (codeB Try.prog E ⟨13, 20, h.length, none⟩ n13_0 ⟨enumT 0 args, h, []⟩) := GE.run_step Try.func13 body13 (by kernel_rfl) (by decide) (by kernel_rfl) hl
theorem n13_1s : codeB Try.prog E ⟨f, 20, b, ro⟩ n13_1 st = plainS (runOps Try.prog E b q13_1 (ops [false] Try.f13) st) := GE.region_step (id := 0) (GE.reg_of (by kernel_rfl)) (by kernel_rfl)
theorem n13_3s : codeB Try.prog E ⟨f, 20, b, ro⟩ n13_3 st = plainS (runOps Try.prog E b q13_3 (ops [true, false] Try.f13) st) := GE.region_step (id := 1) (GE.reg_of (by kernel_rfl)) (by kernel_rfl)
theorem n13_7s : codeB Try.prog E ⟨f, 20, b, ro⟩ n13_7 st = plainS (runOps Try.prog E b q13_7 (ops [true, true, false, false, false] Try.f13) st) := GE.region_step (id := 2) (GE.reg_of (by kernel_rfl)) (by kernel_rfl)
theorem n13_10s : codeB Try.prog E ⟨f, 20, b, ro⟩ n13_10 st = plainS (runOps Try.prog E b q13_10 (ops [true, true, false, false, true, false, false] Try.f13) st) := GE.region_step (id := 3) (GE.reg_of (by kernel_rfl)) (by kernel_rfl)
theorem n13_11s : codeB Try.prog LL ⟨13, 20, b, ro⟩ n13_11 st = normS b ⟨[4, 5], []⟩ .ret st := GE.ret_step (by kernel_rfl) (by kernel_rfl)
theorem n13_9s : codeB Try.prog E cx n13_9 st = thenS (codeB Try.prog E cx n13_10 st) (codeB Try.prog E cx n13_11) := GE.seq_step (by kernel_rfl)
theorem n13_13s : codeB Try.prog E ⟨f, 20, b, ro⟩ n13_13 st = plainS (runOps Try.prog E b q13_13 (ops [true, true, false, false, true, true, false] Try.f13) st) := GE.region_step (id := 4) (GE.reg_of (by kernel_rfl)) (by kernel_rfl)
theorem n13_16s : codeB Try.prog E ⟨f, 20, b, ro⟩ n13_16 st = plainS (runOps Try.prog E b q13_16 (ops [true, true, false, false, true, true, true, false, false] Try.f13) st) := GE.region_step (id := 5) (GE.reg_of (by kernel_rfl)) (by kernel_rfl)
theorem n13_17s : codeB Try.prog LL ⟨13, 20, b, ro⟩ n13_17 st = normS b ⟨[4, 5], []⟩ .ret st := GE.ret_step (by kernel_rfl) (by kernel_rfl)
theorem n13_15s : codeB Try.prog E cx n13_15 st = thenS (codeB Try.prog E cx n13_16 st) (codeB Try.prog E cx n13_17) := GE.seq_step (by kernel_rfl)
theorem n13_18s : codeB Try.prog E cx n13_18 st = some (.normal, st) := GE.skip_step (by kernel_rfl)
theorem n13_14s : codeB Try.prog E cx n13_14 st = condS (codeB Try.prog E cx n13_15) (codeB Try.prog E cx n13_18) (lk st.σ 13) st := GE.cond_step (c := .tmp 13) (by kernel_rfl)
theorem n13_12s : codeB Try.prog E cx n13_12 st = thenS (codeB Try.prog E cx n13_13 st) (codeB Try.prog E cx n13_14) := GE.seq_step (by kernel_rfl)
theorem n13_8s : codeB Try.prog E cx n13_8 st = condS (codeB Try.prog E cx n13_9) (codeB Try.prog E cx n13_12) (lk st.σ 9) st := GE.cond_step (c := .tmp 9) (by kernel_rfl)
theorem n13_6s : codeB Try.prog E cx n13_6 st = thenS (codeB Try.prog E cx n13_7 st) (codeB Try.prog E cx n13_8) := GE.seq_step (by kernel_rfl)
theorem n13_5s : codeB Try.prog E cx n13_5 st = blockS 0 (codeB Try.prog E cx n13_6 st) st := GE.block_step (by kernel_rfl)
theorem n13_20s : codeB Try.prog E ⟨f, 20, b, ro⟩ n13_20 st = plainS (runOps Try.prog E b q13_20 (ops [true, true, true, false] Try.f13) st) := GE.region_step (id := 6) (GE.reg_of (by kernel_rfl)) (by kernel_rfl)
theorem n13_21s : codeB Try.prog LL ⟨13, 20, b, ro⟩ n13_21 st = normS b ⟨[4, 5], []⟩ .ret st := GE.ret_step (by kernel_rfl) (by kernel_rfl)
theorem n13_19s : codeB Try.prog E cx n13_19 st = thenS (codeB Try.prog E cx n13_20 st) (codeB Try.prog E cx n13_21) := GE.seq_step (by kernel_rfl)
theorem n13_4s : codeB Try.prog E cx n13_4 st = thenS (codeB Try.prog E cx n13_5 st) (codeB Try.prog E cx n13_19) := GE.seq_step (by kernel_rfl)
theorem n13_2s : codeB Try.prog E cx n13_2 st = thenS (codeB Try.prog E cx n13_3 st) (codeB Try.prog E cx n13_4) := GE.seq_step (by kernel_rfl)
theorem n13_0s : codeB Try.prog E cx n13_0 st = thenS (codeB Try.prog E cx n13_1 st) (codeB Try.prog E cx n13_2) := GE.seq_step (by kernel_rfl)
noncomputable def n14_0 : Code := bodyOf Try.f14
noncomputable def n14_1 : Code := cl n14_0
noncomputable def q14_1 : List Oper := opsOf n14_1
noncomputable def n14_2 : Code := cr n14_0
noncomputable def n14_3 : Code := cl n14_2
noncomputable def q14_3 : List Oper := opsOf n14_3
noncomputable def n14_4 : Code := cr n14_2
noncomputable def n14_5 : Code := cl n14_4
noncomputable def n14_6 : Code := cl n14_5
noncomputable def q14_6 : List Oper := opsOf n14_6
noncomputable def n14_7 : Code := cr n14_5
noncomputable def n14_8 : Code := cl n14_7
noncomputable def q14_8 : List Oper := opsOf n14_8
noncomputable def n14_9 : Code := cr n14_7
noncomputable def n14_10 : Code := cr n14_4
noncomputable def n14_11 : Code := cl n14_10
noncomputable def n14_12 : Code := cl n14_11
noncomputable def q14_12 : List Oper := opsOf n14_12
noncomputable def n14_13 : Code := cr n14_11
noncomputable def n14_14 : Code := cl n14_13
noncomputable def n14_15 : Code := cl n14_14
noncomputable def q14_15 : List Oper := opsOf n14_15
noncomputable def n14_16 : Code := cr n14_14
noncomputable def n14_17 : Code := cr n14_13
noncomputable def n14_18 : Code := cr n14_10
noncomputable def n14_19 : Code := cl n14_18
noncomputable def q14_19 : List Oper := opsOf n14_19
noncomputable def n14_20 : Code := cr n14_18
theorem body14 : Try.f14.body = some n14_0 := by kernel_rfl
theorem run14 (E : Ev) (args : List Value) (h : List Blk) (hl : args.length ≤ 22) : runB Try.prog E 14 args h = endS Try.prog [.tmp 4, .tmp 5] h.length (codeB Try.prog E ⟨14, 22, h.length, none⟩ n14_0 ⟨enumT 0 args, h, []⟩) := GE.run_step Try.func14 body14 (by kernel_rfl) (by decide) (by kernel_rfl) hl
theorem n14_1s : codeB Try.prog E ⟨f, 22, b, ro⟩ n14_1 st = plainS (runOps Try.prog E b q14_1 (ops [false] Try.f14) st) := GE.region_step (id := 0) (GE.reg_of (by kernel_rfl)) (by kernel_rfl)
theorem n14_3s : codeB Try.prog E ⟨f, 22, b, ro⟩ n14_3 st = plainS (runOps Try.prog E b q14_3 (ops [true, false] Try.f14) st) := GE.region_step (id := 1) (GE.reg_of (by kernel_rfl)) (by kernel_rfl)
theorem q14_6g2 : gd q14_6 2 = some 11 := by kernel_rfl
theorem n14_6s : codeB Try.prog E ⟨f, 22, b, ro⟩ n14_6 st = plainS (runOps Try.prog E b q14_6 (ops [true, true, false, false] Try.f14) st) := GE.region_step (id := 2) (GE.reg_of (by kernel_rfl)) (by kernel_rfl)
theorem n14_8s : codeB Try.prog E ⟨f, 22, b, ro⟩ n14_8 st = plainS (runOps Try.prog E b q14_8 (ops [true, true, false, true, false] Try.f14) st) := GE.region_step (id := 3) (GE.reg_of (by kernel_rfl)) (by kernel_rfl)
theorem n14_9s : codeB Try.prog E cx n14_9 st = some (.normal, st) := GE.skip_step (by kernel_rfl)
theorem n14_7s : codeB Try.prog E cx n14_7 st = condS (codeB Try.prog E cx n14_8) (codeB Try.prog E cx n14_9) (lk st.σ 15) st := GE.cond_step (c := .tmp 15) (by kernel_rfl)
theorem n14_5s : codeB Try.prog E cx n14_5 st = thenS (codeB Try.prog E cx n14_6 st) (codeB Try.prog E cx n14_7) := GE.seq_step (by kernel_rfl)
theorem n14_12s : codeB Try.prog E ⟨f, 22, b, ro⟩ n14_12 st = plainS (runOps Try.prog E b q14_12 (ops [true, true, true, false, false] Try.f14) st) := GE.region_step (id := 4) (GE.reg_of (by kernel_rfl)) (by kernel_rfl)
theorem n14_15s : codeB Try.prog E ⟨f, 22, b, ro⟩ n14_15 st = plainS (runOps Try.prog E b q14_15 (ops [true, true, true, false, true, false, false] Try.f14) st) := GE.region_step (id := 5) (GE.reg_of (by kernel_rfl)) (by kernel_rfl)
theorem n14_16s : codeB Try.prog LL ⟨14, 22, b, ro⟩ n14_16 st = normS b ⟨[4, 5], []⟩ .ret st := GE.ret_step (by kernel_rfl) (by kernel_rfl)
theorem n14_14s : codeB Try.prog E cx n14_14 st = thenS (codeB Try.prog E cx n14_15 st) (codeB Try.prog E cx n14_16) := GE.seq_step (by kernel_rfl)
theorem n14_17s : codeB Try.prog E cx n14_17 st = some (.normal, st) := GE.skip_step (by kernel_rfl)
theorem n14_13s : codeB Try.prog E cx n14_13 st = condS (codeB Try.prog E cx n14_14) (codeB Try.prog E cx n14_17) (lk st.σ 17) st := GE.cond_step (c := .tmp 17) (by kernel_rfl)
theorem n14_11s : codeB Try.prog E cx n14_11 st = thenS (codeB Try.prog E cx n14_12 st) (codeB Try.prog E cx n14_13) := GE.seq_step (by kernel_rfl)
theorem n14_19s : codeB Try.prog E ⟨f, 22, b, ro⟩ n14_19 st = plainS (runOps Try.prog E b q14_19 (ops [true, true, true, true, false] Try.f14) st) := GE.region_step (id := 6) (GE.reg_of (by kernel_rfl)) (by kernel_rfl)
theorem n14_20s : codeB Try.prog LL ⟨14, 22, b, ro⟩ n14_20 st = normS b ⟨[4, 5], []⟩ .ret st := GE.ret_step (by kernel_rfl) (by kernel_rfl)
theorem n14_18s : codeB Try.prog E cx n14_18 st = thenS (codeB Try.prog E cx n14_19 st) (codeB Try.prog E cx n14_20) := GE.seq_step (by kernel_rfl)
theorem n14_10s : codeB Try.prog E cx n14_10 st = thenS (codeB Try.prog E cx n14_11 st) (codeB Try.prog E cx n14_18) := GE.seq_step (by kernel_rfl)
theorem n14_4s : codeB Try.prog E cx n14_4 st = thenS (codeB Try.prog E cx n14_5 st) (codeB Try.prog E cx n14_10) := GE.seq_step (by kernel_rfl)
theorem n14_2s : codeB Try.prog E cx n14_2 st = thenS (codeB Try.prog E cx n14_3 st) (codeB Try.prog E cx n14_4) := GE.seq_step (by kernel_rfl)
theorem n14_0s : codeB Try.prog E cx n14_0 st = thenS (codeB Try.prog E cx n14_1 st) (codeB Try.prog E cx n14_2) := GE.seq_step (by kernel_rfl)
noncomputable def n15_0 : Code := bodyOf Try.f15
noncomputable def n15_1 : Code := cl n15_0
noncomputable def q15_1 : List Oper := opsOf n15_1
noncomputable def n15_2 : Code := cr n15_0
noncomputable def n15_3 : Code := cl n15_2
noncomputable def n15_4 : Code := cl n15_3
noncomputable def q15_4 : List Oper := opsOf n15_4
noncomputable def n15_5 : Code := cr n15_3
noncomputable def n15_6 : Code := cl n15_5
noncomputable def q15_6 : List Oper := opsOf n15_6
noncomputable def n15_7 : Code := cr n15_5
noncomputable def n15_8 : Code := cl n15_7
noncomputable def n15_9 : Code := cl n15_8
noncomputable def q15_9 : List Oper := opsOf n15_9
noncomputable def n15_10 : Code := cr n15_8
noncomputable def n15_11 : Code := cr n15_7
noncomputable def n15_12 : Code := cr n15_2
noncomputable def n15_13 : Code := cl n15_12
noncomputable def q15_13 : List Oper := opsOf n15_13
noncomputable def n15_14 : Code := cr n15_12
theorem body15 : Try.f15.body = some n15_0 := by kernel_rfl
theorem run15 (E : Ev) (args : List Value) (h : List Blk) (hl : args.length ≤ 12) : runB Try.prog E 15 args h = endS Try.prog [.tmp 2, .tmp 3] h.length (codeB Try.prog E ⟨15, 12, h.length, none⟩ n15_0 ⟨enumT 0 args, h, []⟩) := GE.run_step Try.func15 body15 (by kernel_rfl) (by decide) (by kernel_rfl) hl
theorem n15_1s : codeB Try.prog E ⟨f, 12, b, ro⟩ n15_1 st = plainS (runOps Try.prog E b q15_1 (ops [false] Try.f15) st) := GE.region_step (id := 0) (GE.reg_of (by kernel_rfl)) (by kernel_rfl)
theorem n15_4s : codeB Try.prog E ⟨f, 12, b, ro⟩ n15_4 st = plainS (runOps Try.prog E b q15_4 (ops [true, false, false] Try.f15) st) := GE.region_step (id := 1) (GE.reg_of (by kernel_rfl)) (by kernel_rfl)
theorem n15_6s : codeB Try.prog E ⟨f, 12, b, ro⟩ n15_6 st = plainS (runOps Try.prog E b q15_6 (ops [true, false, true, false] Try.f15) st) := GE.region_step (id := 2) (GE.reg_of (by kernel_rfl)) (by kernel_rfl)
theorem n15_9s : codeB Try.prog E ⟨f, 12, b, ro⟩ n15_9 st = plainS (runOps Try.prog E b q15_9 (ops [true, false, true, true, false, false] Try.f15) st) := GE.region_step (id := 3) (GE.reg_of (by kernel_rfl)) (by kernel_rfl)
theorem n15_10s : codeB Try.prog LL ⟨15, 12, b, ro⟩ n15_10 st = normS b ⟨[2, 3], [⟨2, 0, 1, true⟩]⟩ .ret st := GE.ret_step (by kernel_rfl) (by kernel_rfl)
theorem n15_8s : codeB Try.prog E cx n15_8 st = thenS (codeB Try.prog E cx n15_9 st) (codeB Try.prog E cx n15_10) := GE.seq_step (by kernel_rfl)
theorem n15_11s : codeB Try.prog E cx n15_11 st = some (.normal, st) := GE.skip_step (by kernel_rfl)
theorem n15_7s : codeB Try.prog E cx n15_7 st = condS (codeB Try.prog E cx n15_8) (codeB Try.prog E cx n15_11) (lk st.σ 8) st := GE.cond_step (c := .tmp 8) (by kernel_rfl)
theorem n15_5s : codeB Try.prog E cx n15_5 st = thenS (codeB Try.prog E cx n15_6 st) (codeB Try.prog E cx n15_7) := GE.seq_step (by kernel_rfl)
theorem n15_3s : codeB Try.prog E cx n15_3 st = thenS (codeB Try.prog E cx n15_4 st) (codeB Try.prog E cx n15_5) := GE.seq_step (by kernel_rfl)
theorem n15_13s : codeB Try.prog E ⟨f, 12, b, ro⟩ n15_13 st = plainS (runOps Try.prog E b q15_13 (ops [true, true, false] Try.f15) st) := GE.region_step (id := 4) (GE.reg_of (by kernel_rfl)) (by kernel_rfl)
theorem n15_14s : codeB Try.prog LL ⟨15, 12, b, ro⟩ n15_14 st = normS b ⟨[2, 3], [⟨2, 0, 1, true⟩]⟩ .ret st := GE.ret_step (by kernel_rfl) (by kernel_rfl)
theorem n15_12s : codeB Try.prog E cx n15_12 st = thenS (codeB Try.prog E cx n15_13 st) (codeB Try.prog E cx n15_14) := GE.seq_step (by kernel_rfl)
theorem n15_2s : codeB Try.prog E cx n15_2 st = thenS (codeB Try.prog E cx n15_3 st) (codeB Try.prog E cx n15_12) := GE.seq_step (by kernel_rfl)
theorem n15_0s : codeB Try.prog E cx n15_0 st = thenS (codeB Try.prog E cx n15_1 st) (codeB Try.prog E cx n15_2) := GE.seq_step (by kernel_rfl)
noncomputable def n16_0 : Code := bodyOf Try.f16
noncomputable def n16_1 : Code := cl n16_0
noncomputable def q16_1 : List Oper := opsOf n16_1
noncomputable def n16_2 : Code := cr n16_0
noncomputable def n16_3 : Code := cl n16_2
noncomputable def q16_3 : List Oper := opsOf n16_3
noncomputable def n16_4 : Code := cr n16_2
noncomputable def n16_5 : Code := cl n16_4
noncomputable def n16_6 : Code := cl n16_5
noncomputable def q16_6 : List Oper := opsOf n16_6
noncomputable def n16_7 : Code := cr n16_5
noncomputable def n16_8 : Code := cl n16_7
noncomputable def n16_9 : Code := cl n16_8
noncomputable def q16_9 : List Oper := opsOf n16_9
noncomputable def n16_10 : Code := cr n16_8
noncomputable def n16_11 : Code := cr n16_7
noncomputable def n16_12 : Code := cr n16_4
noncomputable def n16_13 : Code := cl n16_12
noncomputable def q16_13 : List Oper := opsOf n16_13
noncomputable def n16_14 : Code := cr n16_12
theorem body16 : Try.f16.body = some n16_0 := by kernel_rfl
theorem run16 (E : Ev) (args : List Value) (h : List Blk) (hl : args.length ≤ 12) : runB Try.prog E 16 args h = endS Try.prog [.tmp 2, .tmp 3] h.length (codeB Try.prog E ⟨16, 12, h.length, none⟩ n16_0 ⟨enumT 0 args, h, []⟩) := GE.run_step Try.func16 body16 (by kernel_rfl) (by decide) (by kernel_rfl) hl
theorem n16_1s : codeB Try.prog E ⟨f, 12, b, ro⟩ n16_1 st = plainS (runOps Try.prog E b q16_1 (ops [false] Try.f16) st) := GE.region_step (id := 0) (GE.reg_of (by kernel_rfl)) (by kernel_rfl)
theorem n16_3s : codeB Try.prog E ⟨f, 12, b, ro⟩ n16_3 st = plainS (runOps Try.prog E b q16_3 (ops [true, false] Try.f16) st) := GE.region_step (id := 1) (GE.reg_of (by kernel_rfl)) (by kernel_rfl)
theorem n16_6s : codeB Try.prog E ⟨f, 12, b, ro⟩ n16_6 st = plainS (runOps Try.prog E b q16_6 (ops [true, true, false, false] Try.f16) st) := GE.region_step (id := 2) (GE.reg_of (by kernel_rfl)) (by kernel_rfl)
theorem n16_9s : codeB Try.prog E ⟨f, 12, b, ro⟩ n16_9 st = plainS (runOps Try.prog E b q16_9 (ops [true, true, false, true, false, false] Try.f16) st) := GE.region_step (id := 3) (GE.reg_of (by kernel_rfl)) (by kernel_rfl)
theorem n16_10s : codeB Try.prog LL ⟨16, 12, b, ro⟩ n16_10 st = normS b ⟨[2, 3], [⟨2, 0, 1, true⟩]⟩ .ret st := GE.ret_step (by kernel_rfl) (by kernel_rfl)
theorem n16_8s : codeB Try.prog E cx n16_8 st = thenS (codeB Try.prog E cx n16_9 st) (codeB Try.prog E cx n16_10) := GE.seq_step (by kernel_rfl)
theorem n16_11s : codeB Try.prog E cx n16_11 st = some (.normal, st) := GE.skip_step (by kernel_rfl)
theorem n16_7s : codeB Try.prog E cx n16_7 st = condS (codeB Try.prog E cx n16_8) (codeB Try.prog E cx n16_11) (lk st.σ 8) st := GE.cond_step (c := .tmp 8) (by kernel_rfl)
theorem n16_5s : codeB Try.prog E cx n16_5 st = thenS (codeB Try.prog E cx n16_6 st) (codeB Try.prog E cx n16_7) := GE.seq_step (by kernel_rfl)
theorem n16_13s : codeB Try.prog E ⟨f, 12, b, ro⟩ n16_13 st = plainS (runOps Try.prog E b q16_13 (ops [true, true, true, false] Try.f16) st) := GE.region_step (id := 4) (GE.reg_of (by kernel_rfl)) (by kernel_rfl)
theorem n16_14s : codeB Try.prog LL ⟨16, 12, b, ro⟩ n16_14 st = normS b ⟨[2, 3], [⟨2, 0, 1, true⟩]⟩ .ret st := GE.ret_step (by kernel_rfl) (by kernel_rfl)
theorem n16_12s : codeB Try.prog E cx n16_12 st = thenS (codeB Try.prog E cx n16_13 st) (codeB Try.prog E cx n16_14) := GE.seq_step (by kernel_rfl)
theorem n16_4s : codeB Try.prog E cx n16_4 st = thenS (codeB Try.prog E cx n16_5 st) (codeB Try.prog E cx n16_12) := GE.seq_step (by kernel_rfl)
theorem n16_2s : codeB Try.prog E cx n16_2 st = thenS (codeB Try.prog E cx n16_3 st) (codeB Try.prog E cx n16_4) := GE.seq_step (by kernel_rfl)
theorem n16_0s : codeB Try.prog E cx n16_0 st = thenS (codeB Try.prog E cx n16_1 st) (codeB Try.prog E cx n16_2) := GE.seq_step (by kernel_rfl)
noncomputable def n17_0 : Code := bodyOf Try.f17
noncomputable def n17_1 : Code := cl n17_0
noncomputable def q17_1 : List Oper := opsOf n17_1
noncomputable def n17_2 : Code := cr n17_0
noncomputable def n17_3 : Code := cl n17_2
noncomputable def n17_4 : Code := cl n17_3
noncomputable def q17_4 : List Oper := opsOf n17_4
noncomputable def n17_5 : Code := cr n17_3
noncomputable def n17_6 : Code := cl n17_5
noncomputable def q17_6 : List Oper := opsOf n17_6
noncomputable def n17_7 : Code := cr n17_5
noncomputable def n17_8 : Code := cl n17_7
noncomputable def n17_9 : Code := cl n17_8
noncomputable def q17_9 : List Oper := opsOf n17_9
noncomputable def n17_10 : Code := cr n17_8
noncomputable def n17_11 : Code := cr n17_7
noncomputable def n17_12 : Code := cr n17_2
noncomputable def n17_13 : Code := cl n17_12
noncomputable def q17_13 : List Oper := opsOf n17_13
noncomputable def n17_14 : Code := cr n17_12
noncomputable def n17_15 : Code := cl n17_14
noncomputable def n17_16 : Code := cl n17_15
noncomputable def q17_16 : List Oper := opsOf n17_16
noncomputable def n17_17 : Code := cr n17_15
noncomputable def n17_18 : Code := cl n17_17
noncomputable def n17_19 : Code := cl n17_18
noncomputable def n17_20 : Code := cl n17_19
noncomputable def q17_20 : List Oper := opsOf n17_20
noncomputable def n17_21 : Code := cr n17_19
noncomputable def n17_22 : Code := cl n17_21
noncomputable def n17_23 : Code := cl n17_22
noncomputable def n17_24 : Code := cr n17_22
noncomputable def n17_25 : Code := cr n17_21
noncomputable def n17_26 : Code := cl n17_25
noncomputable def n17_27 : Code := cl n17_26
noncomputable def n17_28 : Code := cl n17_27
noncomputable def q17_28 : List Oper := opsOf n17_28
noncomputable def n17_29 : Code := cr n17_27
noncomputable def q17_29 : List Oper := opsOf n17_29
noncomputable def n17_30 : Code := cr n17_25
noncomputable def q17_30 : List Oper := opsOf n17_30
noncomputable def n17_31 : Code := cr n17_14
noncomputable def n17_32 : Code := cl n17_31
noncomputable def q17_32 : List Oper := opsOf n17_32
noncomputable def n17_33 : Code := cr n17_31
theorem body17 : Try.f17.body = some n17_0 := by kernel_rfl
theorem run17 (E : Ev) (args : List Value) (h : List Blk) (hl : args.length ≤ 26) : runB Try.prog E 17 args h = endS Try.prog [.tmp 2, .tmp 3] h.length (codeB Try.prog E ⟨17, 26, h.length, none⟩ n17_0 ⟨enumT 0 args, h, []⟩) := GE.run_step Try.func17 body17 (by kernel_rfl) (by decide) (by kernel_rfl) hl
theorem n17_1s : codeB Try.prog E ⟨f, 26, b, ro⟩ n17_1 st = plainS (runOps Try.prog E b q17_1 (ops [false] Try.f17) st) := GE.region_step (id := 0) (GE.reg_of (by kernel_rfl)) (by kernel_rfl)
theorem n17_4s : codeB Try.prog E ⟨f, 26, b, ro⟩ n17_4 st = plainS (runOps Try.prog E b q17_4 (ops [true, false, false] Try.f17) st) := GE.region_step (id := 1) (GE.reg_of (by kernel_rfl)) (by kernel_rfl)
theorem n17_6s : codeB Try.prog E ⟨f, 26, b, ro⟩ n17_6 st = plainS (runOps Try.prog E b q17_6 (ops [true, false, true, false] Try.f17) st) := GE.region_step (id := 2) (GE.reg_of (by kernel_rfl)) (by kernel_rfl)
theorem n17_9s : codeB Try.prog E ⟨f, 26, b, ro⟩ n17_9 st = plainS (runOps Try.prog E b q17_9 (ops [true, false, true, true, false, false] Try.f17) st) := GE.region_step (id := 3) (GE.reg_of (by kernel_rfl)) (by kernel_rfl)
theorem n17_10s : codeB Try.prog LL ⟨17, 26, b, ro⟩ n17_10 st = normS b ⟨[2, 3], [⟨2, 0, 1, false⟩]⟩ .ret st := GE.ret_step (by kernel_rfl) (by kernel_rfl)
theorem n17_8s : codeB Try.prog E cx n17_8 st = thenS (codeB Try.prog E cx n17_9 st) (codeB Try.prog E cx n17_10) := GE.seq_step (by kernel_rfl)
theorem n17_11s : codeB Try.prog E cx n17_11 st = some (.normal, st) := GE.skip_step (by kernel_rfl)
theorem n17_7s : codeB Try.prog E cx n17_7 st = condS (codeB Try.prog E cx n17_8) (codeB Try.prog E cx n17_11) (lk st.σ 11) st := GE.cond_step (c := .tmp 11) (by kernel_rfl)
theorem n17_5s : codeB Try.prog E cx n17_5 st = thenS (codeB Try.prog E cx n17_6 st) (codeB Try.prog E cx n17_7) := GE.seq_step (by kernel_rfl)
theorem n17_3s : codeB Try.prog E cx n17_3 st = thenS (codeB Try.prog E cx n17_4 st) (codeB Try.prog E cx n17_5) := GE.seq_step (by kernel_rfl)
theorem n17_13s : codeB Try.prog E ⟨f, 26, b, ro⟩ n17_13 st = plainS (runOps Try.prog E b q17_13 (ops [true, true, false] Try.f17) st) := GE.region_step (id := 4) (GE.reg_of (by kernel_rfl)) (by kernel_rfl)
theorem n17_16s : codeB Try.prog E ⟨f, 26, b, ro⟩ n17_16 st = plainS (runOps Try.prog E b q17_16 (ops [true, true, true, false, false] Try.f17) st) := GE.region_step (id := 5) (GE.reg_of (by kernel_rfl)) (by kernel_rfl)
theorem n17_20s : codeB Try.prog E ⟨f, 26, b, ro⟩ n17_20 st = plainS (runOps Try.prog E b q17_20 (ops [true, true, true, false, true, false, false, false] Try.f17) st) := GE.region_step (id := 6) (GE.reg_of (by kernel_rfl)) (by kernel_rfl)
theorem n17_23s : codeB Try.prog E cx n17_23 st = some (.normal, st) := GE.skip_step (by kernel_rfl)
theorem n17_24s : codeB Try.prog LL ⟨17, 26, b, ro⟩ n17_24 st = normS b ⟨[5], [⟨5, 0, 1, false⟩]⟩ (.exit 0) st := GE.exit_step (by kernel_rfl) (by kernel_rfl)
theorem n17_22s : codeB Try.prog E cx n17_22 st = condS (codeB Try.prog E cx n17_23) (codeB Try.prog E cx n17_24) (lk st.σ 17) st := GE.cond_step (c := .tmp 17) (by kernel_rfl)
theorem n17_28s : codeB Try.prog E ⟨f, 26, b, ro⟩ n17_28 st = plainS (runOps Try.prog E b q17_28 (ops [true, true, true, false, true, false, false, true, true, false, false, false] Try.f17) st) := GE.region_step (id := 7) (GE.reg_of (by kernel_rfl)) (by kernel_rfl)
theorem n17_29s : codeB Try.prog E ⟨f, 26, b, ro⟩ n17_29 st = plainS (runOps Try.prog E b q17_29 (ops [true, true, true, false, true, false, false, true, true, false, false, true] Try.f17) st) := GE.region_step (id := 8) (GE.reg_of (by kernel_rfl)) (by kernel_rfl)
theorem n17_27s : codeB Try.prog E cx n17_27 st = thenS (codeB Try.prog E cx n17_28 st) (codeB Try.prog E cx n17_29) := GE.seq_step (by kernel_rfl)
theorem n17_26s : codeB Try.prog E cx n17_26 st = blockS 1 (codeB Try.prog E cx n17_27 st) st := GE.block_step (by kernel_rfl)
theorem n17_30s : codeB Try.prog E ⟨f, 26, b, ro⟩ n17_30 st = plainS (runOps Try.prog E b q17_30 (ops [true, true, true, false, true, false, false, true, true, true] Try.f17) st) := GE.region_step (id := 9) (GE.reg_of (by kernel_rfl)) (by kernel_rfl)
theorem n17_25s : codeB Try.prog E cx n17_25 st = thenS (codeB Try.prog E cx n17_26 st) (codeB Try.prog E cx n17_30) := GE.seq_step (by kernel_rfl)
theorem n17_21s : codeB Try.prog E cx n17_21 st = thenS (codeB Try.prog E cx n17_22 st) (codeB Try.prog E cx n17_25) := GE.seq_step (by kernel_rfl)
theorem n17_19s : codeB Try.prog E cx n17_19 st = thenS (codeB Try.prog E cx n17_20 st) (codeB Try.prog E cx n17_21) := GE.seq_step (by kernel_rfl)
theorem n17_18k : LL.kp (⟨17, 26, b, ro⟩ : Cx).fn (4 * rid n17_19 + 3) = some ⟨[5, 14, 15, 16], [⟨5, 0, 1, false⟩, ⟨14, 0, 1, false⟩]⟩ := by kernel_rfl
theorem n17_18s : codeB Try.prog LL ⟨17, 26, b, ro⟩ n17_18 st = headS b ⟨[5, 14, 15, 16], [⟨5, 0, 1, false⟩, ⟨14, 0, 1, false⟩]⟩ st (lpB Try.prog LL ⟨17, 26, b, ro⟩ n17_18 n17_19) := GE.lpB_step (by kernel_rfl) (n17_18k b ro)
theorem n17_18g : LL.code ⟨17, 26, b, ro⟩ n17_18 st = headS b ⟨[5, 14, 15, 16], [⟨5, 0, 1, false⟩, ⟨14, 0, 1, false⟩]⟩ st (lpB Try.prog LL ⟨17, 26, b, ro⟩ n17_18 n17_19) := GE.lpB_again (by kernel_rfl) (n17_18k b ro)
theorem n17_17s : codeB Try.prog E cx n17_17 st = blockS 0 (codeB Try.prog E cx n17_18 st) st := GE.block_step (by kernel_rfl)
theorem n17_15s : codeB Try.prog E cx n17_15 st = thenS (codeB Try.prog E cx n17_16 st) (codeB Try.prog E cx n17_17) := GE.seq_step (by kernel_rfl)
theorem n17_32s : codeB Try.prog E ⟨f, 26, b, ro⟩ n17_32 st = plainS (runOps Try.prog E b q17_32 (ops [true, true, true, true, false] Try.f17) st) := GE.region_step (id := 10) (GE.reg_of (by kernel_rfl)) (by kernel_rfl)
theorem n17_33s : codeB Try.prog LL ⟨17, 26, b, ro⟩ n17_33 st = normS b ⟨[2, 3], [⟨2, 0, 1, false⟩]⟩ .ret st := GE.ret_step (by kernel_rfl) (by kernel_rfl)
theorem n17_31s : codeB Try.prog E cx n17_31 st = thenS (codeB Try.prog E cx n17_32 st) (codeB Try.prog E cx n17_33) := GE.seq_step (by kernel_rfl)
theorem n17_14s : codeB Try.prog E cx n17_14 st = thenS (codeB Try.prog E cx n17_15 st) (codeB Try.prog E cx n17_31) := GE.seq_step (by kernel_rfl)
theorem n17_12s : codeB Try.prog E cx n17_12 st = thenS (codeB Try.prog E cx n17_13 st) (codeB Try.prog E cx n17_14) := GE.seq_step (by kernel_rfl)
theorem n17_2s : codeB Try.prog E cx n17_2 st = thenS (codeB Try.prog E cx n17_3 st) (codeB Try.prog E cx n17_12) := GE.seq_step (by kernel_rfl)
theorem n17_0s : codeB Try.prog E cx n17_0 st = thenS (codeB Try.prog E cx n17_1 st) (codeB Try.prog E cx n17_2) := GE.seq_step (by kernel_rfl)
noncomputable def n18_0 : Code := bodyOf Try.f18
noncomputable def n18_1 : Code := cl n18_0
noncomputable def q18_1 : List Oper := opsOf n18_1
noncomputable def n18_2 : Code := cr n18_0
noncomputable def n18_3 : Code := cl n18_2
noncomputable def q18_3 : List Oper := opsOf n18_3
noncomputable def n18_4 : Code := cr n18_2
noncomputable def n18_5 : Code := cl n18_4
noncomputable def n18_6 : Code := cl n18_5
noncomputable def q18_6 : List Oper := opsOf n18_6
noncomputable def n18_7 : Code := cr n18_5
noncomputable def n18_8 : Code := cl n18_7
noncomputable def n18_9 : Code := cl n18_8
noncomputable def q18_9 : List Oper := opsOf n18_9
noncomputable def n18_10 : Code := cr n18_8
noncomputable def n18_11 : Code := cr n18_7
noncomputable def n18_12 : Code := cr n18_4
noncomputable def n18_13 : Code := cl n18_12
noncomputable def q18_13 : List Oper := opsOf n18_13
noncomputable def n18_14 : Code := cr n18_12
theorem body18 : Try.f18.body = some n18_0 := by kernel_rfl
theorem run18 (E : Ev) (args : List Value) (h : List Blk) (hl : args.length ≤ 12) : runB Try.prog E 18 args h = endS Try.prog [.tmp 2, .tmp 3] h.length (codeB Try.prog E ⟨18, 12, h.length, none⟩ n18_0 ⟨enumT 0 args, h, []⟩) := GE.run_step Try.func18 body18 (by kernel_rfl) (by decide) (by kernel_rfl) hl
theorem n18_1s : codeB Try.prog E ⟨f, 12, b, ro⟩ n18_1 st = plainS (runOps Try.prog E b q18_1 (ops [false] Try.f18) st) := GE.region_step (id := 0) (GE.reg_of (by kernel_rfl)) (by kernel_rfl)
theorem n18_3s : codeB Try.prog E ⟨f, 12, b, ro⟩ n18_3 st = plainS (runOps Try.prog E b q18_3 (ops [true, false] Try.f18) st) := GE.region_step (id := 1) (GE.reg_of (by kernel_rfl)) (by kernel_rfl)
theorem n18_6s : codeB Try.prog E ⟨f, 12, b, ro⟩ n18_6 st = plainS (runOps Try.prog E b q18_6 (ops [true, true, false, false] Try.f18) st) := GE.region_step (id := 2) (GE.reg_of (by kernel_rfl)) (by kernel_rfl)
theorem n18_9s : codeB Try.prog E ⟨f, 12, b, ro⟩ n18_9 st = plainS (runOps Try.prog E b q18_9 (ops [true, true, false, true, false, false] Try.f18) st) := GE.region_step (id := 3) (GE.reg_of (by kernel_rfl)) (by kernel_rfl)
theorem n18_10s : codeB Try.prog LL ⟨18, 12, b, ro⟩ n18_10 st = normS b ⟨[2, 3], [⟨2, 0, 1, false⟩]⟩ .ret st := GE.ret_step (by kernel_rfl) (by kernel_rfl)
theorem n18_8s : codeB Try.prog E cx n18_8 st = thenS (codeB Try.prog E cx n18_9 st) (codeB Try.prog E cx n18_10) := GE.seq_step (by kernel_rfl)
theorem n18_11s : codeB Try.prog E cx n18_11 st = some (.normal, st) := GE.skip_step (by kernel_rfl)
theorem n18_7s : codeB Try.prog E cx n18_7 st = condS (codeB Try.prog E cx n18_8) (codeB Try.prog E cx n18_11) (lk st.σ 8) st := GE.cond_step (c := .tmp 8) (by kernel_rfl)
theorem n18_5s : codeB Try.prog E cx n18_5 st = thenS (codeB Try.prog E cx n18_6 st) (codeB Try.prog E cx n18_7) := GE.seq_step (by kernel_rfl)
theorem n18_13s : codeB Try.prog E ⟨f, 12, b, ro⟩ n18_13 st = plainS (runOps Try.prog E b q18_13 (ops [true, true, true, false] Try.f18) st) := GE.region_step (id := 4) (GE.reg_of (by kernel_rfl)) (by kernel_rfl)
theorem n18_14s : codeB Try.prog LL ⟨18, 12, b, ro⟩ n18_14 st = normS b ⟨[2, 3], [⟨2, 0, 1, false⟩]⟩ .ret st := GE.ret_step (by kernel_rfl) (by kernel_rfl)
theorem n18_12s : codeB Try.prog E cx n18_12 st = thenS (codeB Try.prog E cx n18_13 st) (codeB Try.prog E cx n18_14) := GE.seq_step (by kernel_rfl)
theorem n18_4s : codeB Try.prog E cx n18_4 st = thenS (codeB Try.prog E cx n18_5 st) (codeB Try.prog E cx n18_12) := GE.seq_step (by kernel_rfl)
theorem n18_2s : codeB Try.prog E cx n18_2 st = thenS (codeB Try.prog E cx n18_3 st) (codeB Try.prog E cx n18_4) := GE.seq_step (by kernel_rfl)
theorem n18_0s : codeB Try.prog E cx n18_0 st = thenS (codeB Try.prog E cx n18_1 st) (codeB Try.prog E cx n18_2) := GE.seq_step (by kernel_rfl)
noncomputable def n19_0 : Code := bodyOf Try.f19
noncomputable def n19_1 : Code := cl n19_0
noncomputable def q19_1 : List Oper := opsOf n19_1
noncomputable def n19_2 : Code := cr n19_0
noncomputable def n19_3 : Code := cl n19_2
noncomputable def n19_4 : Code := cl n19_3
noncomputable def q19_4 : List Oper := opsOf n19_4
noncomputable def n19_5 : Code := cr n19_3
noncomputable def n19_6 : Code := cl n19_5
noncomputable def n19_7 : Code := cl n19_6
noncomputable def q19_7 : List Oper := opsOf n19_7
noncomputable def n19_8 : Code := cr n19_6
noncomputable def n19_9 : Code := cr n19_5
noncomputable def n19_10 : Code := cr n19_2
noncomputable def n19_11 : Code := cl n19_10
noncomputable def n19_12 : Code := cl n19_11
noncomputable def q19_12 : List Oper := opsOf n19_12
noncomputable def n19_13 : Code := cr n19_11
noncomputable def n19_14 : Code := cl n19_13
noncomputable def n19_15 : Code := cl n19_14
noncomputable def n19_16 : Code := cl n19_15
noncomputable def n19_17 : Code := cl n19_16
noncomputable def q19_17 : List Oper := opsOf n19_17
noncomputable def n19_18 : Code := cr n19_16
noncomputable def n19_19 : Code := cl n19_18
noncomputable def n19_20 : Code := cr n19_18
noncomputable def n19_21 : Code := cr n19_15
noncomputable def n19_22 : Code := cl n19_21
noncomputable def n19_23 : Code := cl n19_22
noncomputable def n19_24 : Code := cl n19_23
noncomputable def q19_24 : List Oper := opsOf n19_24
noncomputable def n19_25 : Code := cr n19_23
noncomputable def n19_26 : Code := cl n19_25
noncomputable def n19_27 : Code := cl n19_26
noncomputable def q19_27 : List Oper := opsOf n19_27
noncomputable def n19_28 : Code := cr n19_26
noncomputable def n19_29 : Code := cr n19_25
noncomputable def n19_30 : Code := cr n19_21
noncomputable def q19_30 : List Oper := opsOf n19_30
noncomputable def n19_31 : Code := cr n19_10
noncomputable def n19_32 : Code := cl n19_31
noncomputable def q19_32 : List Oper := opsOf n19_32
noncomputable def n19_33 : Code := cr n19_31
theorem body19 : Try.f19.body = some n19_0 := by kernel_rfl
theorem run19 (E : Ev) (args : List Value) (h : List Blk) (hl : args.length ≤ 26) : runB Try.prog E 19 args h = endS Try.prog [.tmp 4] h.length (codeB Try.prog E ⟨19, 26, h.length, none⟩ n19_0 ⟨enumT 0 args, h, []⟩) := GE.run_step Try.func19 body19 (by kernel_rfl) (by decide) (by kernel_rfl) hl
theorem n19_1s : codeB Try.prog E ⟨f, 26, b, ro⟩ n19_1 st = plainS (runOps Try.prog E b q19_1 (ops [false] Try.f19) st) := GE.region_step (id := 0) (GE.reg_of (by kernel_rfl)) (by kernel_rfl)
theorem n19_4s : codeB Try.prog E ⟨f, 26, b, ro⟩ n19_4 st = plainS (runOps Try.prog E b q19_4 (ops [true, false, false] Try.f19) st) := GE.region_step (id := 1) (GE.reg_of (by kernel_rfl)) (by kernel_rfl)
theorem n19_7s : codeB Try.prog E ⟨f, 26, b, ro⟩ n19_7 st = plainS (runOps Try.prog E b q19_7 (ops [true, false, true, false, false] Try.f19) st) := GE.region_step (id := 2) (GE.reg_of (by kernel_rfl)) (by kernel_rfl)
theorem n19_8s : codeB Try.prog LL ⟨19, 26, b, ro⟩ n19_8 st = normS b ⟨[4], []⟩ .ret st := GE.ret_step (by kernel_rfl) (by kernel_rfl)
theorem n19_6s : codeB Try.prog E cx n19_6 st = thenS (codeB Try.prog E cx n19_7 st) (codeB Try.prog E cx n19_8) := GE.seq_step (by kernel_rfl)
theorem n19_9s : codeB Try.prog E cx n19_9 st = some (.normal, st) := GE.skip_step (by kernel_rfl)
theorem n19_5s : codeB Try.prog E cx n19_5 st = condS (codeB Try.prog E cx n19_6) (codeB Try.prog E cx n19_9) (lk st.σ 10) st := GE.cond_step (c := .tmp 10) (by kernel_rfl)
theorem n19_3s : codeB Try.prog E cx n19_3 st = thenS (codeB Try.prog E cx n19_4 st) (codeB Try.prog E cx n19_5) := GE.seq_step (by kernel_rfl)
theorem n19_12s : codeB Try.prog E ⟨f, 26, b, ro⟩ n19_12 st = plainS (runOps Try.prog E b q19_12 (ops [true, true, false, false] Try.f19) st) := GE.region_step (id := 3) (GE.reg_of (by kernel_rfl)) (by kernel_rfl)
theorem n19_17s : codeB Try.prog E ⟨f, 26, b, ro⟩ n19_17 st = plainS (runOps Try.prog E b q19_17 (ops [true, true, false, true, false, false, false, false] Try.f19) st) := GE.region_step (id := 4) (GE.reg_of (by kernel_rfl)) (by kernel_rfl)
theorem n19_19s : codeB Try.prog E cx n19_19 st = some (.normal, st) := GE.skip_step (by kernel_rfl)
theorem n19_20s : codeB Try.prog LL ⟨19, 26, b, ro⟩ n19_20 st = normS b ⟨[], []⟩ (.exit 0) st := GE.exit_step (by kernel_rfl) (by kernel_rfl)
theorem n19_18s : codeB Try.prog E cx n19_18 st = condS (codeB Try.prog E cx n19_19) (codeB Try.prog E cx n19_20) (lk st.σ 14) st := GE.cond_step (c := .tmp 14) (by kernel_rfl)
theorem n19_16s : codeB Try.prog E cx n19_16 st = thenS (codeB Try.prog E cx n19_17 st) (codeB Try.prog E cx n19_18) := GE.seq_step (by kernel_rfl)
theorem n19_24s : codeB Try.prog E ⟨f, 26, b, ro⟩ n19_24 st = drawS [0, 0, 3, 7, 0, 0, 48, 112, 255] (runOpsF Try.prog E b q19_24 (ops [true, true, false, true, false, false, true, false, false, false] Try.f19) st) := GE.draw_step (id := 6) (GE.reg_of (by kernel_rfl)) (by kernel_rfl) (by kernel_rfl) (by kernel_rfl)
theorem n19_27s : codeB Try.prog E ⟨f, 26, b, ro⟩ n19_27 st = plainS (runOps Try.prog E b q19_27 (ops [true, true, false, true, false, false, true, false, false, true, false, false] Try.f19) st) := GE.region_step (id := 7) (GE.reg_of (by kernel_rfl)) (by kernel_rfl)
theorem n19_28s : codeB Try.prog LL ⟨19, 26, b, ro⟩ n19_28 st = normS b ⟨[4], []⟩ .ret st := GE.ret_step (by kernel_rfl) (by kernel_rfl)
theorem n19_26s : codeB Try.prog E cx n19_26 st = thenS (codeB Try.prog E cx n19_27 st) (codeB Try.prog E cx n19_28) := GE.seq_step (by kernel_rfl)
theorem n19_29s : codeB Try.prog E cx n19_29 st = some (.normal, st) := GE.skip_step (by kernel_rfl)
theorem n19_25s : codeB Try.prog E cx n19_25 st = condS (codeB Try.prog E cx n19_26) (codeB Try.prog E cx n19_29) (lk st.σ 25) st := GE.cond_step (c := .tmp 25) (by kernel_rfl)
theorem n19_23s : codeB Try.prog E cx n19_23 st = thenS (codeB Try.prog E cx n19_24 st) (codeB Try.prog E cx n19_25) := GE.seq_step (by kernel_rfl)
theorem n19_22s : codeB Try.prog E cx n19_22 st = blockS 1 (codeB Try.prog E cx n19_23 st) st := GE.block_step (by kernel_rfl)
theorem n19_30s : codeB Try.prog E ⟨f, 26, b, ro⟩ n19_30 st = plainS (runOps Try.prog E b q19_30 (ops [true, true, false, true, false, false, true, true] Try.f19) st) := GE.region_step (id := 5) (GE.reg_of (by kernel_rfl)) (by kernel_rfl)
theorem n19_21s : codeB Try.prog E cx n19_21 st = thenS (codeB Try.prog E cx n19_22 st) (codeB Try.prog E cx n19_30) := GE.seq_step (by kernel_rfl)
theorem n19_15s : codeB Try.prog E cx n19_15 st = thenS (codeB Try.prog E cx n19_16 st) (codeB Try.prog E cx n19_21) := GE.seq_step (by kernel_rfl)
theorem n19_14k : LL.kp (⟨19, 26, b, ro⟩ : Cx).fn (4 * rid n19_15 + 3) = some ⟨[0, 1, 5], [⟨0, 0, 1, true⟩, ⟨1, 0, 1, true⟩]⟩ := by kernel_rfl
theorem n19_14s : codeB Try.prog LL ⟨19, 26, b, ro⟩ n19_14 st = headS b ⟨[0, 1, 5], [⟨0, 0, 1, true⟩, ⟨1, 0, 1, true⟩]⟩ st (lpB Try.prog LL ⟨19, 26, b, ro⟩ n19_14 n19_15) := GE.lpB_step (by kernel_rfl) (n19_14k b ro)
theorem n19_14g : LL.code ⟨19, 26, b, ro⟩ n19_14 st = headS b ⟨[0, 1, 5], [⟨0, 0, 1, true⟩, ⟨1, 0, 1, true⟩]⟩ st (lpB Try.prog LL ⟨19, 26, b, ro⟩ n19_14 n19_15) := GE.lpB_again (by kernel_rfl) (n19_14k b ro)
theorem n19_13s : codeB Try.prog E cx n19_13 st = blockS 0 (codeB Try.prog E cx n19_14 st) st := GE.block_step (by kernel_rfl)
theorem n19_11s : codeB Try.prog E cx n19_11 st = thenS (codeB Try.prog E cx n19_12 st) (codeB Try.prog E cx n19_13) := GE.seq_step (by kernel_rfl)
theorem n19_32s : codeB Try.prog E ⟨f, 26, b, ro⟩ n19_32 st = plainS (runOps Try.prog E b q19_32 (ops [true, true, true, false] Try.f19) st) := GE.region_step (id := 8) (GE.reg_of (by kernel_rfl)) (by kernel_rfl)
theorem n19_33s : codeB Try.prog LL ⟨19, 26, b, ro⟩ n19_33 st = normS b ⟨[4], []⟩ .ret st := GE.ret_step (by kernel_rfl) (by kernel_rfl)
theorem n19_31s : codeB Try.prog E cx n19_31 st = thenS (codeB Try.prog E cx n19_32 st) (codeB Try.prog E cx n19_33) := GE.seq_step (by kernel_rfl)
theorem n19_10s : codeB Try.prog E cx n19_10 st = thenS (codeB Try.prog E cx n19_11 st) (codeB Try.prog E cx n19_31) := GE.seq_step (by kernel_rfl)
theorem n19_2s : codeB Try.prog E cx n19_2 st = thenS (codeB Try.prog E cx n19_3 st) (codeB Try.prog E cx n19_10) := GE.seq_step (by kernel_rfl)
theorem n19_0s : codeB Try.prog E cx n19_0 st = thenS (codeB Try.prog E cx n19_1 st) (codeB Try.prog E cx n19_2) := GE.seq_step (by kernel_rfl)
noncomputable def n20_0 : Code := bodyOf Try.f20
noncomputable def n20_1 : Code := cl n20_0
noncomputable def q20_1 : List Oper := opsOf n20_1
noncomputable def n20_2 : Code := cr n20_0
noncomputable def n20_3 : Code := cl n20_2
noncomputable def n20_4 : Code := cl n20_3
noncomputable def q20_4 : List Oper := opsOf n20_4
noncomputable def n20_5 : Code := cr n20_3
noncomputable def n20_6 : Code := cl n20_5
noncomputable def n20_7 : Code := cl n20_6
noncomputable def q20_7 : List Oper := opsOf n20_7
noncomputable def n20_8 : Code := cr n20_6
noncomputable def n20_9 : Code := cr n20_5
noncomputable def n20_10 : Code := cr n20_2
noncomputable def n20_11 : Code := cl n20_10
noncomputable def n20_12 : Code := cl n20_11
noncomputable def q20_12 : List Oper := opsOf n20_12
noncomputable def n20_13 : Code := cr n20_11
noncomputable def n20_14 : Code := cl n20_13
noncomputable def n20_15 : Code := cl n20_14
noncomputable def n20_16 : Code := cl n20_15
noncomputable def n20_17 : Code := cl n20_16
noncomputable def q20_17 : List Oper := opsOf n20_17
noncomputable def n20_18 : Code := cr n20_16
noncomputable def n20_19 : Code := cl n20_18
noncomputable def n20_20 : Code := cr n20_18
noncomputable def n20_21 : Code := cr n20_15
noncomputable def n20_22 : Code := cl n20_21
noncomputable def n20_23 : Code := cl n20_22
noncomputable def n20_24 : Code := cl n20_23
noncomputable def q20_24 : List Oper := opsOf n20_24
noncomputable def n20_25 : Code := cr n20_23
noncomputable def n20_26 : Code := cl n20_25
noncomputable def n20_27 : Code := cl n20_26
noncomputable def q20_27 : List Oper := opsOf n20_27
noncomputable def n20_28 : Code := cr n20_26
noncomputable def n20_29 : Code := cr n20_25
noncomputable def n20_30 : Code := cr n20_21
noncomputable def q20_30 : List Oper := opsOf n20_30
noncomputable def n20_31 : Code := cr n20_10
noncomputable def n20_32 : Code := cl n20_31
noncomputable def q20_32 : List Oper := opsOf n20_32
noncomputable def n20_33 : Code := cr n20_31
theorem body20 : Try.f20.body = some n20_0 := by kernel_rfl
theorem run20 (E : Ev) (args : List Value) (h : List Blk) (hl : args.length ≤ 27) : runB Try.prog E 20 args h = endS Try.prog [.tmp 4] h.length (codeB Try.prog E ⟨20, 27, h.length, none⟩ n20_0 ⟨enumT 0 args, h, []⟩) := GE.run_step Try.func20 body20 (by kernel_rfl) (by decide) (by kernel_rfl) hl
theorem n20_1s : codeB Try.prog E ⟨f, 27, b, ro⟩ n20_1 st = plainS (runOps Try.prog E b q20_1 (ops [false] Try.f20) st) := GE.region_step (id := 0) (GE.reg_of (by kernel_rfl)) (by kernel_rfl)
theorem n20_4s : codeB Try.prog E ⟨f, 27, b, ro⟩ n20_4 st = plainS (runOps Try.prog E b q20_4 (ops [true, false, false] Try.f20) st) := GE.region_step (id := 1) (GE.reg_of (by kernel_rfl)) (by kernel_rfl)
theorem n20_7s : codeB Try.prog E ⟨f, 27, b, ro⟩ n20_7 st = plainS (runOps Try.prog E b q20_7 (ops [true, false, true, false, false] Try.f20) st) := GE.region_step (id := 2) (GE.reg_of (by kernel_rfl)) (by kernel_rfl)
theorem n20_8s : codeB Try.prog LL ⟨20, 27, b, ro⟩ n20_8 st = normS b ⟨[4], []⟩ .ret st := GE.ret_step (by kernel_rfl) (by kernel_rfl)
theorem n20_6s : codeB Try.prog E cx n20_6 st = thenS (codeB Try.prog E cx n20_7 st) (codeB Try.prog E cx n20_8) := GE.seq_step (by kernel_rfl)
theorem n20_9s : codeB Try.prog E cx n20_9 st = some (.normal, st) := GE.skip_step (by kernel_rfl)
theorem n20_5s : codeB Try.prog E cx n20_5 st = condS (codeB Try.prog E cx n20_6) (codeB Try.prog E cx n20_9) (lk st.σ 10) st := GE.cond_step (c := .tmp 10) (by kernel_rfl)
theorem n20_3s : codeB Try.prog E cx n20_3 st = thenS (codeB Try.prog E cx n20_4 st) (codeB Try.prog E cx n20_5) := GE.seq_step (by kernel_rfl)
theorem n20_12s : codeB Try.prog E ⟨f, 27, b, ro⟩ n20_12 st = plainS (runOps Try.prog E b q20_12 (ops [true, true, false, false] Try.f20) st) := GE.region_step (id := 3) (GE.reg_of (by kernel_rfl)) (by kernel_rfl)
theorem n20_17s : codeB Try.prog E ⟨f, 27, b, ro⟩ n20_17 st = plainS (runOps Try.prog E b q20_17 (ops [true, true, false, true, false, false, false, false] Try.f20) st) := GE.region_step (id := 4) (GE.reg_of (by kernel_rfl)) (by kernel_rfl)
theorem n20_19s : codeB Try.prog E cx n20_19 st = some (.normal, st) := GE.skip_step (by kernel_rfl)
theorem n20_20s : codeB Try.prog LL ⟨20, 27, b, ro⟩ n20_20 st = normS b ⟨[], []⟩ (.exit 0) st := GE.exit_step (by kernel_rfl) (by kernel_rfl)
theorem n20_18s : codeB Try.prog E cx n20_18 st = condS (codeB Try.prog E cx n20_19) (codeB Try.prog E cx n20_20) (lk st.σ 14) st := GE.cond_step (c := .tmp 14) (by kernel_rfl)
theorem n20_16s : codeB Try.prog E cx n20_16 st = thenS (codeB Try.prog E cx n20_17 st) (codeB Try.prog E cx n20_18) := GE.seq_step (by kernel_rfl)
theorem n20_24s : codeB Try.prog E ⟨f, 27, b, ro⟩ n20_24 st = drawS [0, 0, 3, 7, 0, 0, 48, 112, 255, 511] (runOpsF Try.prog E b q20_24 (ops [true, true, false, true, false, false, true, false, false, false] Try.f20) st) := GE.draw_step (id := 6) (GE.reg_of (by kernel_rfl)) (by kernel_rfl) (by kernel_rfl) (by kernel_rfl)
theorem n20_27s : codeB Try.prog E ⟨f, 27, b, ro⟩ n20_27 st = plainS (runOps Try.prog E b q20_27 (ops [true, true, false, true, false, false, true, false, false, true, false, false] Try.f20) st) := GE.region_step (id := 7) (GE.reg_of (by kernel_rfl)) (by kernel_rfl)
theorem n20_28s : codeB Try.prog LL ⟨20, 27, b, ro⟩ n20_28 st = normS b ⟨[4], []⟩ .ret st := GE.ret_step (by kernel_rfl) (by kernel_rfl)
theorem n20_26s : codeB Try.prog E cx n20_26 st = thenS (codeB Try.prog E cx n20_27 st) (codeB Try.prog E cx n20_28) := GE.seq_step (by kernel_rfl)
theorem n20_29s : codeB Try.prog E cx n20_29 st = some (.normal, st) := GE.skip_step (by kernel_rfl)
theorem n20_25s : codeB Try.prog E cx n20_25 st = condS (codeB Try.prog E cx n20_26) (codeB Try.prog E cx n20_29) (lk st.σ 26) st := GE.cond_step (c := .tmp 26) (by kernel_rfl)
theorem n20_23s : codeB Try.prog E cx n20_23 st = thenS (codeB Try.prog E cx n20_24 st) (codeB Try.prog E cx n20_25) := GE.seq_step (by kernel_rfl)
theorem n20_22s : codeB Try.prog E cx n20_22 st = blockS 1 (codeB Try.prog E cx n20_23 st) st := GE.block_step (by kernel_rfl)
theorem n20_30s : codeB Try.prog E ⟨f, 27, b, ro⟩ n20_30 st = plainS (runOps Try.prog E b q20_30 (ops [true, true, false, true, false, false, true, true] Try.f20) st) := GE.region_step (id := 5) (GE.reg_of (by kernel_rfl)) (by kernel_rfl)
theorem n20_21s : codeB Try.prog E cx n20_21 st = thenS (codeB Try.prog E cx n20_22 st) (codeB Try.prog E cx n20_30) := GE.seq_step (by kernel_rfl)
theorem n20_15s : codeB Try.prog E cx n20_15 st = thenS (codeB Try.prog E cx n20_16 st) (codeB Try.prog E cx n20_21) := GE.seq_step (by kernel_rfl)
theorem n20_14k : LL.kp (⟨20, 27, b, ro⟩ : Cx).fn (4 * rid n20_15 + 3) = some ⟨[0, 1, 5], [⟨0, 0, 1, false⟩, ⟨1, 0, 1, false⟩]⟩ := by kernel_rfl
theorem n20_14s : codeB Try.prog LL ⟨20, 27, b, ro⟩ n20_14 st = headS b ⟨[0, 1, 5], [⟨0, 0, 1, false⟩, ⟨1, 0, 1, false⟩]⟩ st (lpB Try.prog LL ⟨20, 27, b, ro⟩ n20_14 n20_15) := GE.lpB_step (by kernel_rfl) (n20_14k b ro)
theorem n20_14g : LL.code ⟨20, 27, b, ro⟩ n20_14 st = headS b ⟨[0, 1, 5], [⟨0, 0, 1, false⟩, ⟨1, 0, 1, false⟩]⟩ st (lpB Try.prog LL ⟨20, 27, b, ro⟩ n20_14 n20_15) := GE.lpB_again (by kernel_rfl) (n20_14k b ro)
theorem n20_13s : codeB Try.prog E cx n20_13 st = blockS 0 (codeB Try.prog E cx n20_14 st) st := GE.block_step (by kernel_rfl)
theorem n20_11s : codeB Try.prog E cx n20_11 st = thenS (codeB Try.prog E cx n20_12 st) (codeB Try.prog E cx n20_13) := GE.seq_step (by kernel_rfl)
theorem n20_32s : codeB Try.prog E ⟨f, 27, b, ro⟩ n20_32 st = plainS (runOps Try.prog E b q20_32 (ops [true, true, true, false] Try.f20) st) := GE.region_step (id := 8) (GE.reg_of (by kernel_rfl)) (by kernel_rfl)
theorem n20_33s : codeB Try.prog LL ⟨20, 27, b, ro⟩ n20_33 st = normS b ⟨[4], []⟩ .ret st := GE.ret_step (by kernel_rfl) (by kernel_rfl)
theorem n20_31s : codeB Try.prog E cx n20_31 st = thenS (codeB Try.prog E cx n20_32 st) (codeB Try.prog E cx n20_33) := GE.seq_step (by kernel_rfl)
theorem n20_10s : codeB Try.prog E cx n20_10 st = thenS (codeB Try.prog E cx n20_11 st) (codeB Try.prog E cx n20_31) := GE.seq_step (by kernel_rfl)
theorem n20_2s : codeB Try.prog E cx n20_2 st = thenS (codeB Try.prog E cx n20_3 st) (codeB Try.prog E cx n20_10) := GE.seq_step (by kernel_rfl)
theorem n20_0s : codeB Try.prog E cx n20_0 st = thenS (codeB Try.prog E cx n20_1 st) (codeB Try.prog E cx n20_2) := GE.seq_step (by kernel_rfl)
noncomputable def n21_0 : Code := bodyOf Try.f21
noncomputable def n21_1 : Code := cl n21_0
noncomputable def q21_1 : List Oper := opsOf n21_1
noncomputable def n21_2 : Code := cr n21_0
noncomputable def n21_3 : Code := cl n21_2
noncomputable def n21_4 : Code := cl n21_3
noncomputable def n21_5 : Code := cl n21_4
noncomputable def q21_5 : List Oper := opsOf n21_5
noncomputable def n21_6 : Code := cr n21_4
noncomputable def n21_7 : Code := cl n21_6
noncomputable def n21_8 : Code := cl n21_7
noncomputable def q21_8 : List Oper := opsOf n21_8
noncomputable def n21_9 : Code := cr n21_7
noncomputable def n21_10 : Code := cr n21_6
noncomputable def n21_11 : Code := cl n21_10
noncomputable def q21_11 : List Oper := opsOf n21_11
noncomputable def n21_12 : Code := cr n21_10
noncomputable def n21_13 : Code := cl n21_12
noncomputable def n21_14 : Code := cl n21_13
noncomputable def q21_14 : List Oper := opsOf n21_14
noncomputable def n21_15 : Code := cr n21_13
noncomputable def n21_16 : Code := cr n21_12
noncomputable def n21_17 : Code := cl n21_16
noncomputable def q21_17 : List Oper := opsOf n21_17
noncomputable def n21_18 : Code := cr n21_16
noncomputable def n21_19 : Code := cl n21_18
noncomputable def n21_20 : Code := cl n21_19
noncomputable def q21_20 : List Oper := opsOf n21_20
noncomputable def n21_21 : Code := cr n21_19
noncomputable def n21_22 : Code := cr n21_18
noncomputable def n21_23 : Code := cl n21_22
noncomputable def q21_23 : List Oper := opsOf n21_23
noncomputable def n21_24 : Code := cr n21_22
noncomputable def n21_25 : Code := cl n21_24
noncomputable def n21_26 : Code := cl n21_25
noncomputable def q21_26 : List Oper := opsOf n21_26
noncomputable def n21_27 : Code := cr n21_25
noncomputable def n21_28 : Code := cr n21_24
noncomputable def n21_29 : Code := cr n21_2
noncomputable def n21_30 : Code := cl n21_29
noncomputable def q21_30 : List Oper := opsOf n21_30
noncomputable def n21_31 : Code := cr n21_29
theorem body21 : Try.f21.body = some n21_0 := by kernel_rfl
theorem run21 (E : Ev) (args : List Value) (h : List Blk) (hl : args.length ≤ 27) : runB Try.prog E 21 args h = endS Try.prog [.tmp 2] h.length (codeB Try.prog E ⟨21, 27, h.length, none⟩ n21_0 ⟨enumT 0 args, h, []⟩) := GE.run_step Try.func21 body21 (by kernel_rfl) (by decide) (by kernel_rfl) hl
theorem n21_1s : codeB Try.prog E ⟨f, 27, b, ro⟩ n21_1 st = plainS (runOps Try.prog E b q21_1 (ops [false] Try.f21) st) := GE.region_step (id := 0) (GE.reg_of (by kernel_rfl)) (by kernel_rfl)
theorem n21_5s : codeB Try.prog E ⟨f, 27, b, ro⟩ n21_5 st = plainS (runOps Try.prog E b q21_5 (ops [true, false, false, false] Try.f21) st) := GE.region_step (id := 1) (GE.reg_of (by kernel_rfl)) (by kernel_rfl)
theorem n21_8s : codeB Try.prog E ⟨f, 27, b, ro⟩ n21_8 st = plainS (runOps Try.prog E b q21_8 (ops [true, false, false, true, false, false] Try.f21) st) := GE.region_step (id := 2) (GE.reg_of (by kernel_rfl)) (by kernel_rfl)
theorem n21_9s : codeB Try.prog LL ⟨21, 27, b, ro⟩ n21_9 st = normS b ⟨[2], []⟩ .ret st := GE.ret_step (by kernel_rfl) (by kernel_rfl)
theorem n21_7s : codeB Try.prog E cx n21_7 st = thenS (codeB Try.prog E cx n21_8 st) (codeB Try.prog E cx n21_9) := GE.seq_step (by kernel_rfl)
theorem n21_11s : codeB Try.prog E ⟨f, 27, b, ro⟩ n21_11 st = plainS (runOps Try.prog E b q21_11 (ops [true, false, false, true, true, false] Try.f21) st) := GE.region_step (id := 3) (GE.reg_of (by kernel_rfl)) (by kernel_rfl)
theorem n21_14s : codeB Try.prog E ⟨f, 27, b, ro⟩ n21_14 st = plainS (runOps Try.prog E b q21_14 (ops [true, false, false, true, true, true, false, false] Try.f21) st) := GE.region_step (id := 4) (GE.reg_of (by kernel_rfl)) (by kernel_rfl)
theorem n21_15s : codeB Try.prog LL ⟨21, 27, b, ro⟩ n21_15 st = normS b ⟨[2], []⟩ .ret st := GE.ret_step (by kernel_rfl) (by kernel_rfl)
theorem n21_13s : codeB Try.prog E cx n21_13 st = thenS (codeB Try.prog E cx n21_14 st) (codeB Try.prog E cx n21_15) := GE.seq_step (by kernel_rfl)
theorem n21_17s : codeB Try.prog E ⟨f, 27, b, ro⟩ n21_17 st = plainS (runOps Try.prog E b q21_17 (ops [true, false, false, true, true, true, true, false] Try.f21) st) := GE.region_step (id := 5) (GE.reg_of (by kernel_rfl)) (by kernel_rfl)
theorem n21_20s : codeB Try.prog E ⟨f, 27, b, ro⟩ n21_20 st = plainS (runOps Try.prog E b q21_20 (ops [true, false, false, true, true, true, true, true, false, false] Try.f21) st) := GE.region_step (id := 6) (GE.reg_of (by kernel_rfl)) (by kernel_rfl)
theorem n21_21s : codeB Try.prog LL ⟨21, 27, b, ro⟩ n21_21 st = normS b ⟨[2], []⟩ .ret st := GE.ret_step (by kernel_rfl) (by kernel_rfl)
theorem n21_19s : codeB Try.prog E cx n21_19 st = thenS (codeB Try.prog E cx n21_20 st) (codeB Try.prog E cx n21_21) := GE.seq_step (by kernel_rfl)
theorem q21_23g3 : gd q21_23 3 = some 18 := by kernel_rfl
theorem n21_23s : codeB Try.prog E ⟨f, 27, b, ro⟩ n21_23 st = plainS (runOps Try.prog E b q21_23 (ops [true, false, false, true, true, true, true, true, true, false] Try.f21) st) := GE.region_step (id := 7) (GE.reg_of (by kernel_rfl)) (by kernel_rfl)
theorem n21_26s : codeB Try.prog E ⟨f, 27, b, ro⟩ n21_26 st = plainS (runOps Try.prog E b q21_26 (ops [true, false, false, true, true, true, true, true, true, true, false, false] Try.f21) st) := GE.region_step (id := 8) (GE.reg_of (by kernel_rfl)) (by kernel_rfl)
theorem n21_27s : codeB Try.prog LL ⟨21, 27, b, ro⟩ n21_27 st = normS b ⟨[2], []⟩ .ret st := GE.ret_step (by kernel_rfl) (by kernel_rfl)
theorem n21_25s : codeB Try.prog E cx n21_25 st = thenS (codeB Try.prog E cx n21_26 st) (codeB Try.prog E cx n21_27) := GE.seq_step (by kernel_rfl)
theorem n21_28s : codeB Try.prog E cx n21_28 st = some (.normal, st) := GE.skip_step (by kernel_rfl)
theorem n21_24s : codeB Try.prog E cx n21_24 st = condS (codeB Try.prog E cx n21_25) (codeB Try.prog E cx n21_28) (lk st.σ 14) st := GE.cond_step (c := .tmp 14) (by kernel_rfl)
theorem n21_22s : codeB Try.prog E cx n21_22 st = thenS (codeB Try.prog E cx n21_23 st) (codeB Try.prog E cx n21_24) := GE.seq_step (by kernel_rfl)
theorem n21_18s : codeB Try.prog E cx n21_18 st = condS (codeB Try.prog E cx n21_19) (codeB Try.prog E cx n21_22) (lk st.σ 11) st := GE.cond_step (c := .tmp 11) (by kernel_rfl)
theorem n21_16s : codeB Try.prog E cx n21_16 st = thenS (codeB Try.prog E cx n21_17 st) (codeB Try.prog E cx n21_18) := GE.seq_step (by kernel_rfl)
theorem n21_12s : codeB Try.prog E cx n21_12 st = condS (codeB Try.prog E cx n21_13) (codeB Try.prog E cx n21_16) (lk st.σ 7) st := GE.cond_step (c := .tmp 7) (by kernel_rfl)
theorem n21_10s : codeB Try.prog E cx n21_10 st = thenS (codeB Try.prog E cx n21_11 st) (codeB Try.prog E cx n21_12) := GE.seq_step (by kernel_rfl)
theorem n21_6s : codeB Try.prog E cx n21_6 st = condS (codeB Try.prog E cx n21_7) (codeB Try.prog E cx n21_10) (lk st.σ 3) st := GE.cond_step (c := .tmp 3) (by kernel_rfl)
theorem n21_4s : codeB Try.prog E cx n21_4 st = thenS (codeB Try.prog E cx n21_5 st) (codeB Try.prog E cx n21_6) := GE.seq_step (by kernel_rfl)
theorem n21_3s : codeB Try.prog E cx n21_3 st = blockS 0 (codeB Try.prog E cx n21_4 st) st := GE.block_step (by kernel_rfl)
theorem n21_30s : codeB Try.prog E ⟨f, 27, b, ro⟩ n21_30 st = plainS (runOps Try.prog E b q21_30 (ops [true, true, false] Try.f21) st) := GE.region_step (id := 9) (GE.reg_of (by kernel_rfl)) (by kernel_rfl)
theorem n21_31s : codeB Try.prog LL ⟨21, 27, b, ro⟩ n21_31 st = normS b ⟨[2], []⟩ .ret st := GE.ret_step (by kernel_rfl) (by kernel_rfl)
theorem n21_29s : codeB Try.prog E cx n21_29 st = thenS (codeB Try.prog E cx n21_30 st) (codeB Try.prog E cx n21_31) := GE.seq_step (by kernel_rfl)
theorem n21_2s : codeB Try.prog E cx n21_2 st = thenS (codeB Try.prog E cx n21_3 st) (codeB Try.prog E cx n21_29) := GE.seq_step (by kernel_rfl)
theorem n21_0s : codeB Try.prog E cx n21_0 st = thenS (codeB Try.prog E cx n21_1 st) (codeB Try.prog E cx n21_2) := GE.seq_step (by kernel_rfl)
noncomputable def n22_0 : Code := bodyOf Try.f22
noncomputable def n22_1 : Code := cl n22_0
noncomputable def q22_1 : List Oper := opsOf n22_1
noncomputable def n22_2 : Code := cr n22_0
noncomputable def n22_3 : Code := cl n22_2
noncomputable def n22_4 : Code := cl n22_3
noncomputable def q22_4 : List Oper := opsOf n22_4
noncomputable def n22_5 : Code := cr n22_3
noncomputable def n22_6 : Code := cl n22_5
noncomputable def n22_7 : Code := cl n22_6
noncomputable def q22_7 : List Oper := opsOf n22_7
noncomputable def n22_8 : Code := cr n22_6
noncomputable def n22_9 : Code := cr n22_5
noncomputable def n22_10 : Code := cr n22_2
noncomputable def n22_11 : Code := cl n22_10
noncomputable def n22_12 : Code := cl n22_11
noncomputable def q22_12 : List Oper := opsOf n22_12
noncomputable def n22_13 : Code := cr n22_11
noncomputable def n22_14 : Code := cl n22_13
noncomputable def n22_15 : Code := cl n22_14
noncomputable def q22_15 : List Oper := opsOf n22_15
noncomputable def n22_16 : Code := cr n22_14
noncomputable def n22_17 : Code := cr n22_13
noncomputable def n22_18 : Code := cr n22_10
noncomputable def n22_19 : Code := cl n22_18
noncomputable def n22_20 : Code := cl n22_19
noncomputable def q22_20 : List Oper := opsOf n22_20
noncomputable def n22_21 : Code := cr n22_19
noncomputable def n22_22 : Code := cl n22_21
noncomputable def n22_23 : Code := cl n22_22
noncomputable def n22_24 : Code := cl n22_23
noncomputable def n22_25 : Code := cl n22_24
noncomputable def q22_25 : List Oper := opsOf n22_25
noncomputable def n22_26 : Code := cr n22_24
noncomputable def n22_27 : Code := cl n22_26
noncomputable def n22_28 : Code := cr n22_26
noncomputable def n22_29 : Code := cr n22_23
noncomputable def n22_30 : Code := cl n22_29
noncomputable def n22_31 : Code := cl n22_30
noncomputable def n22_32 : Code := cl n22_31
noncomputable def q22_32 : List Oper := opsOf n22_32
noncomputable def n22_33 : Code := cr n22_31
noncomputable def n22_34 : Code := cl n22_33
noncomputable def n22_35 : Code := cl n22_34
noncomputable def q22_35 : List Oper := opsOf n22_35
noncomputable def n22_36 : Code := cr n22_34
noncomputable def n22_37 : Code := cr n22_33
noncomputable def n22_38 : Code := cr n22_29
noncomputable def q22_38 : List Oper := opsOf n22_38
noncomputable def n22_39 : Code := cr n22_18
noncomputable def n22_40 : Code := cl n22_39
noncomputable def n22_41 : Code := cl n22_40
noncomputable def q22_41 : List Oper := opsOf n22_41
noncomputable def n22_42 : Code := cr n22_40
noncomputable def n22_43 : Code := cl n22_42
noncomputable def n22_44 : Code := cl n22_43
noncomputable def q22_44 : List Oper := opsOf n22_44
noncomputable def n22_45 : Code := cr n22_43
noncomputable def n22_46 : Code := cr n22_42
noncomputable def n22_47 : Code := cr n22_39
noncomputable def n22_48 : Code := cl n22_47
noncomputable def q22_48 : List Oper := opsOf n22_48
noncomputable def n22_49 : Code := cr n22_47
theorem body22 : Try.f22.body = some n22_0 := by kernel_rfl
theorem run22 (E : Ev) (args : List Value) (h : List Blk) (hl : args.length ≤ 34) : runB Try.prog E 22 args h = endS Try.prog [.tmp 2] h.length (codeB Try.prog E ⟨22, 34, h.length, none⟩ n22_0 ⟨enumT 0 args, h, []⟩) := GE.run_step Try.func22 body22 (by kernel_rfl) (by decide) (by kernel_rfl) hl
theorem n22_1s : codeB Try.prog E ⟨f, 34, b, ro⟩ n22_1 st = plainS (runOps Try.prog E b q22_1 (ops [false] Try.f22) st) := GE.region_step (id := 0) (GE.reg_of (by kernel_rfl)) (by kernel_rfl)
theorem n22_4s : codeB Try.prog E ⟨f, 34, b, ro⟩ n22_4 st = plainS (runOps Try.prog E b q22_4 (ops [true, false, false] Try.f22) st) := GE.region_step (id := 1) (GE.reg_of (by kernel_rfl)) (by kernel_rfl)
theorem n22_7s : codeB Try.prog E ⟨f, 34, b, ro⟩ n22_7 st = plainS (runOps Try.prog E b q22_7 (ops [true, false, true, false, false] Try.f22) st) := GE.region_step (id := 2) (GE.reg_of (by kernel_rfl)) (by kernel_rfl)
theorem n22_8s : codeB Try.prog LL ⟨22, 34, b, ro⟩ n22_8 st = normS b ⟨[2], []⟩ .ret st := GE.ret_step (by kernel_rfl) (by kernel_rfl)
theorem n22_6s : codeB Try.prog E cx n22_6 st = thenS (codeB Try.prog E cx n22_7 st) (codeB Try.prog E cx n22_8) := GE.seq_step (by kernel_rfl)
theorem n22_9s : codeB Try.prog E cx n22_9 st = some (.normal, st) := GE.skip_step (by kernel_rfl)
theorem n22_5s : codeB Try.prog E cx n22_5 st = condS (codeB Try.prog E cx n22_6) (codeB Try.prog E cx n22_9) (lk st.σ 6) st := GE.cond_step (c := .tmp 6) (by kernel_rfl)
theorem n22_3s : codeB Try.prog E cx n22_3 st = thenS (codeB Try.prog E cx n22_4 st) (codeB Try.prog E cx n22_5) := GE.seq_step (by kernel_rfl)
theorem n22_12s : codeB Try.prog E ⟨f, 34, b, ro⟩ n22_12 st = plainS (runOps Try.prog E b q22_12 (ops [true, true, false, false] Try.f22) st) := GE.region_step (id := 3) (GE.reg_of (by kernel_rfl)) (by kernel_rfl)
theorem n22_15s : codeB Try.prog E ⟨f, 34, b, ro⟩ n22_15 st = plainS (runOps Try.prog E b q22_15 (ops [true, true, false, true, false, false] Try.f22) st) := GE.region_step (id := 4) (GE.reg_of (by kernel_rfl)) (by kernel_rfl)
theorem n22_16s : codeB Try.prog LL ⟨22, 34, b, ro⟩ n22_16 st = normS b ⟨[2], []⟩ .ret st := GE.ret_step (by kernel_rfl) (by kernel_rfl)
theorem n22_14s : codeB Try.prog E cx n22_14 st = thenS (codeB Try.prog E cx n22_15 st) (codeB Try.prog E cx n22_16) := GE.seq_step (by kernel_rfl)
theorem n22_17s : codeB Try.prog E cx n22_17 st = some (.normal, st) := GE.skip_step (by kernel_rfl)
theorem n22_13s : codeB Try.prog E cx n22_13 st = condS (codeB Try.prog E cx n22_14) (codeB Try.prog E cx n22_17) (lk st.σ 9) st := GE.cond_step (c := .tmp 9) (by kernel_rfl)
theorem n22_11s : codeB Try.prog E cx n22_11 st = thenS (codeB Try.prog E cx n22_12 st) (codeB Try.prog E cx n22_13) := GE.seq_step (by kernel_rfl)
theorem n22_20s : codeB Try.prog E ⟨f, 34, b, ro⟩ n22_20 st = plainS (runOps Try.prog E b q22_20 (ops [true, true, true, false, false] Try.f22) st) := GE.region_step (id := 5) (GE.reg_of (by kernel_rfl)) (by kernel_rfl)
theorem n22_25s : codeB Try.prog E ⟨f, 34, b, ro⟩ n22_25 st = plainS (runOps Try.prog E b q22_25 (ops [true, true, true, false, true, false, false, false, false] Try.f22) st) := GE.region_step (id := 6) (GE.reg_of (by kernel_rfl)) (by kernel_rfl)
theorem n22_27s : codeB Try.prog E cx n22_27 st = some (.normal, st) := GE.skip_step (by kernel_rfl)
theorem n22_28s : codeB Try.prog LL ⟨22, 34, b, ro⟩ n22_28 st = normS b ⟨[0], [⟨0, 0, 1, true⟩]⟩ (.exit 0) st := GE.exit_step (by kernel_rfl) (by kernel_rfl)
theorem n22_26s : codeB Try.prog E cx n22_26 st = condS (codeB Try.prog E cx n22_27) (codeB Try.prog E cx n22_28) (lk st.σ 13) st := GE.cond_step (c := .tmp 13) (by kernel_rfl)
theorem n22_24s : codeB Try.prog E cx n22_24 st = thenS (codeB Try.prog E cx n22_25 st) (codeB Try.prog E cx n22_26) := GE.seq_step (by kernel_rfl)
theorem n22_32s : codeB Try.prog E ⟨f, 34, b, ro⟩ n22_32 st = plainS (runOps Try.prog E b q22_32 (ops [true, true, true, false, true, false, false, true, false, false, false] Try.f22) st) := GE.region_step (id := 8) (GE.reg_of (by kernel_rfl)) (by kernel_rfl)
theorem n22_35s : codeB Try.prog E ⟨f, 34, b, ro⟩ n22_35 st = plainS (runOps Try.prog E b q22_35 (ops [true, true, true, false, true, false, false, true, false, false, true, false, false] Try.f22) st) := GE.region_step (id := 9) (GE.reg_of (by kernel_rfl)) (by kernel_rfl)
theorem n22_36s : codeB Try.prog LL ⟨22, 34, b, ro⟩ n22_36 st = normS b ⟨[2], []⟩ .ret st := GE.ret_step (by kernel_rfl) (by kernel_rfl)
theorem n22_34s : codeB Try.prog E cx n22_34 st = thenS (codeB Try.prog E cx n22_35 st) (codeB Try.prog E cx n22_36) := GE.seq_step (by kernel_rfl)
theorem n22_37s : codeB Try.prog E cx n22_37 st = some (.normal, st) := GE.skip_step (by kernel_rfl)
theorem n22_33s : codeB Try.prog E cx n22_33 st = condS (codeB Try.prog E cx n22_34) (codeB Try.prog E cx n22_37) (lk st.σ 21) st := GE.cond_step (c := .tmp 21) (by kernel_rfl)
theorem n22_31s : codeB Try.prog E cx n22_31 st = thenS (codeB Try.prog E cx n22_32 st) (codeB Try.prog E cx n22_33) := GE.seq_step (by kernel_rfl)
theorem n22_30s : codeB Try.prog E cx n22_30 st = blockS 1 (codeB Try.prog E cx n22_31 st) st := GE.block_step (by kernel_rfl)
theorem n22_38s : codeB Try.prog E ⟨f, 34, b, ro⟩ n22_38 st = plainS (runOps Try.prog E b q22_38 (ops [true, true, true, false, true, false, false, true, true] Try.f22) st) := GE.region_step (id := 7) (GE.reg_of (by kernel_rfl)) (by kernel_rfl)
theorem n22_29s : codeB Try.prog E cx n22_29 st = thenS (codeB Try.prog E cx n22_30 st) (codeB Try.prog E cx n22_38) := GE.seq_step (by kernel_rfl)
theorem n22_23s : codeB Try.prog E cx n22_23 st = thenS (codeB Try.prog E cx n22_24 st) (codeB Try.prog E cx n22_29) := GE.seq_step (by kernel_rfl)
theorem n22_22k : LL.kp (⟨22, 34, b, ro⟩ : Cx).fn (4 * rid n22_23 + 3) = some ⟨[0, 3], [⟨0, 0, 1, true⟩]⟩ := by kernel_rfl
theorem n22_22s : codeB Try.prog LL ⟨22, 34, b, ro⟩ n22_22 st = headS b ⟨[0, 3], [⟨0, 0, 1, true⟩]⟩ st (lpB Try.prog LL ⟨22, 34, b, ro⟩ n22_22 n22_23) := GE.lpB_step (by kernel_rfl) (n22_22k b ro)
theorem n22_22g : LL.code ⟨22, 34, b, ro⟩ n22_22 st = headS b ⟨[0, 3], [⟨0, 0, 1, true⟩]⟩ st (lpB Try.prog LL ⟨22, 34, b, ro⟩ n22_22 n22_23) := GE.lpB_again (by kernel_rfl) (n22_22k b ro)
theorem n22_21s : codeB Try.prog E cx n22_21 st = blockS 0 (codeB Try.prog E cx n22_22 st) st := GE.block_step (by kernel_rfl)
theorem n22_19s : codeB Try.prog E cx n22_19 st = thenS (codeB Try.prog E cx n22_20 st) (codeB Try.prog E cx n22_21) := GE.seq_step (by kernel_rfl)
theorem q22_41g3 : gd q22_41 3 = some 25 := by kernel_rfl
theorem n22_41s : codeB Try.prog E ⟨f, 34, b, ro⟩ n22_41 st = plainS (runOps Try.prog E b q22_41 (ops [true, true, true, true, false, false] Try.f22) st) := GE.region_step (id := 10) (GE.reg_of (by kernel_rfl)) (by kernel_rfl)
theorem n22_44s : codeB Try.prog E ⟨f, 34, b, ro⟩ n22_44 st = plainS (runOps Try.prog E b q22_44 (ops [true, true, true, true, false, true, false, false] Try.f22) st) := GE.region_step (id := 11) (GE.reg_of (by kernel_rfl)) (by kernel_rfl)
theorem n22_45s : codeB Try.prog LL ⟨22, 34, b, ro⟩ n22_45 st = normS b ⟨[2], []⟩ .ret st := GE.ret_step (by kernel_rfl) (by kernel_rfl)
theorem n22_43s : codeB Try.prog E cx n22_43 st = thenS (codeB Try.prog E cx n22_44 st) (codeB Try.prog E cx n22_45) := GE.seq_step (by kernel_rfl)
theorem n22_46s : codeB Try.prog E cx n22_46 st = some (.normal, st) := GE.skip_step (by kernel_rfl)
theorem n22_42s : codeB Try.prog E cx n22_42 st = condS (codeB Try.prog E cx n22_43) (codeB Try.prog E cx n22_46) (lk st.σ 33) st := GE.cond_step (c := .tmp 33) (by kernel_rfl)
theorem n22_40s : codeB Try.prog E cx n22_40 st = thenS (codeB Try.prog E cx n22_41 st) (codeB Try.prog E cx n22_42) := GE.seq_step (by kernel_rfl)
theorem n22_48s : codeB Try.prog E ⟨f, 34, b, ro⟩ n22_48 st = plainS (runOps Try.prog E b q22_48 (ops [true, true, true, true, true, false] Try.f22) st) := GE.region_step (id := 12) (GE.reg_of (by kernel_rfl)) (by kernel_rfl)
theorem n22_49s : codeB Try.prog LL ⟨22, 34, b, ro⟩ n22_49 st = normS b ⟨[2], []⟩ .ret st := GE.ret_step (by kernel_rfl) (by kernel_rfl)
theorem n22_47s : codeB Try.prog E cx n22_47 st = thenS (codeB Try.prog E cx n22_48 st) (codeB Try.prog E cx n22_49) := GE.seq_step (by kernel_rfl)
theorem n22_39s : codeB Try.prog E cx n22_39 st = thenS (codeB Try.prog E cx n22_40 st) (codeB Try.prog E cx n22_47) := GE.seq_step (by kernel_rfl)
theorem n22_18s : codeB Try.prog E cx n22_18 st = thenS (codeB Try.prog E cx n22_19 st) (codeB Try.prog E cx n22_39) := GE.seq_step (by kernel_rfl)
theorem n22_10s : codeB Try.prog E cx n22_10 st = thenS (codeB Try.prog E cx n22_11 st) (codeB Try.prog E cx n22_18) := GE.seq_step (by kernel_rfl)
theorem n22_2s : codeB Try.prog E cx n22_2 st = thenS (codeB Try.prog E cx n22_3 st) (codeB Try.prog E cx n22_10) := GE.seq_step (by kernel_rfl)
theorem n22_0s : codeB Try.prog E cx n22_0 st = thenS (codeB Try.prog E cx n22_1 st) (codeB Try.prog E cx n22_2) := GE.seq_step (by kernel_rfl)
noncomputable def n37_0 : Code := bodyOf Try.f37
noncomputable def n37_1 : Code := cl n37_0
noncomputable def q37_1 : List Oper := opsOf n37_1
noncomputable def n37_2 : Code := cr n37_0
noncomputable def n37_3 : Code := cl n37_2
noncomputable def q37_3 : List Oper := opsOf n37_3
noncomputable def n37_4 : Code := cr n37_2
theorem body37 : Try.f37.body = some n37_0 := by kernel_rfl
theorem run37 (E : Ev) (args : List Value) (h : List Blk) (hl : args.length ≤ 21) : runB Try.prog E 37 args h = endS Try.prog [.tmp 2] h.length (codeB Try.prog E ⟨37, 21, h.length, none⟩ n37_0 ⟨enumT 0 args, h, []⟩) := GE.run_step Try.func37 body37 (by kernel_rfl) (by decide) (by kernel_rfl) hl
theorem n37_1s : codeB Try.prog E ⟨f, 21, b, ro⟩ n37_1 st = plainS (runOps Try.prog E b q37_1 (ops [false] Try.f37) st) := GE.region_step (id := 0) (GE.reg_of (by kernel_rfl)) (by kernel_rfl)
theorem q37_3g3 : gd q37_3 3 = some 6 := by kernel_rfl
theorem q37_3g8 : gd q37_3 8 = some 11 := by kernel_rfl
theorem q37_3g13 : gd q37_3 13 = some 16 := by kernel_rfl
theorem n37_3s : codeB Try.prog E ⟨f, 21, b, ro⟩ n37_3 st = plainS (runOps Try.prog E b q37_3 (ops [true, false] Try.f37) st) := GE.region_step (id := 1) (GE.reg_of (by kernel_rfl)) (by kernel_rfl)
theorem n37_4s : codeB Try.prog LL ⟨37, 21, b, ro⟩ n37_4 st = normS b ⟨[2], []⟩ .ret st := GE.ret_step (by kernel_rfl) (by kernel_rfl)
theorem n37_2s : codeB Try.prog E cx n37_2 st = thenS (codeB Try.prog E cx n37_3 st) (codeB Try.prog E cx n37_4) := GE.seq_step (by kernel_rfl)
theorem n37_0s : codeB Try.prog E cx n37_0 st = thenS (codeB Try.prog E cx n37_1 st) (codeB Try.prog E cx n37_2) := GE.seq_step (by kernel_rfl)
noncomputable def n38_0 : Code := bodyOf Try.f38
noncomputable def n38_1 : Code := cl n38_0
noncomputable def q38_1 : List Oper := opsOf n38_1
noncomputable def n38_2 : Code := cr n38_0
noncomputable def n38_3 : Code := cl n38_2
noncomputable def q38_3 : List Oper := opsOf n38_3
noncomputable def n38_4 : Code := cr n38_2
noncomputable def n38_5 : Code := cl n38_4
noncomputable def n38_6 : Code := cl n38_5
noncomputable def q38_6 : List Oper := opsOf n38_6
noncomputable def n38_7 : Code := cr n38_5
noncomputable def n38_8 : Code := cl n38_7
noncomputable def n38_9 : Code := cl n38_8
noncomputable def q38_9 : List Oper := opsOf n38_9
noncomputable def n38_10 : Code := cr n38_8
noncomputable def n38_11 : Code := cl n38_10
noncomputable def n38_12 : Code := cl n38_11
noncomputable def q38_12 : List Oper := opsOf n38_12
noncomputable def n38_13 : Code := cr n38_11
noncomputable def q38_13 : List Oper := opsOf n38_13
noncomputable def n38_14 : Code := cr n38_4
noncomputable def n38_15 : Code := cl n38_14
noncomputable def q38_15 : List Oper := opsOf n38_15
noncomputable def n38_16 : Code := cr n38_14
theorem body38 : Try.f38.body = some n38_0 := by kernel_rfl
theorem run38 (E : Ev) (args : List Value) (h : List Blk) (hl : args.length ≤ 27) : runB Try.prog E 38 args h = endS Try.prog [.tmp 4] h.length (codeB Try.prog E ⟨38, 27, h.length, none⟩ n38_0 ⟨enumT 0 args, h, []⟩) := GE.run_step Try.func38 body38 (by kernel_rfl) (by decide) (by kernel_rfl) hl
theorem n38_1s : codeB Try.prog E ⟨f, 27, b, ro⟩ n38_1 st = plainS (runOps Try.prog E b q38_1 (ops [false] Try.f38) st) := GE.region_step (id := 0) (GE.reg_of (by kernel_rfl)) (by kernel_rfl)
theorem n38_3s : codeB Try.prog E ⟨f, 27, b, ro⟩ n38_3 st = plainS (runOps Try.prog E b q38_3 (ops [true, false] Try.f38) st) := GE.region_step (id := 1) (GE.reg_of (by kernel_rfl)) (by kernel_rfl)
theorem n38_6s : codeB Try.prog E ⟨f, 27, b, ro⟩ n38_6 st = plainS (runOps Try.prog E b q38_6 (ops [true, true, false, false] Try.f38) st) := GE.region_step (id := 2) (GE.reg_of (by kernel_rfl)) (by kernel_rfl)
theorem n38_9s : codeB Try.prog E ⟨f, 27, b, ro⟩ n38_9 st = plainS (runOps Try.prog E b q38_9 (ops [true, true, false, true, false, false] Try.f38) st) := GE.region_step (id := 3) (GE.reg_of (by kernel_rfl)) (by kernel_rfl)
theorem n38_12s : codeB Try.prog E ⟨f, 27, b, ro⟩ n38_12 st = plainS (runOps Try.prog E b q38_12 (ops [true, true, false, true, false, true, false, false] Try.f38) st) := GE.region_step (id := 4) (GE.reg_of (by kernel_rfl)) (by kernel_rfl)
theorem n38_13s : codeB Try.prog E ⟨f, 27, b, ro⟩ n38_13 st = plainS (runOps Try.prog E b q38_13 (ops [true, true, false, true, false, true, false, true] Try.f38) st) := GE.region_step (id := 5) (GE.reg_of (by kernel_rfl)) (by kernel_rfl)
theorem n38_11s : codeB Try.prog E cx n38_11 st = thenS (codeB Try.prog E cx n38_12 st) (codeB Try.prog E cx n38_13) := GE.seq_step (by kernel_rfl)
theorem n38_10s : codeB Try.prog E cx n38_10 st = blockS 1 (codeB Try.prog E cx n38_11 st) st := GE.block_step (by kernel_rfl)
theorem n38_8e : n38_8 = .rangeFunc (.tmp 10) #[11, 12] n38_9 n38_10 := by kernel_rfl
theorem n38_8k : (ue n38_9).1 ++ (ue n38_10).1 = [12, 5, 3, 8, 6] := by kernel_rfl
theorem n38_7s : codeB Try.prog E cx n38_7 st = blockS 0 (codeB Try.prog E cx n38_8 st) st := GE.block_step (by kernel_rfl)
theorem n38_5s : codeB Try.prog E cx n38_5 st = thenS (codeB Try.prog E cx n38_6 st) (codeB Try.prog E cx n38_7) := GE.seq_step (by kernel_rfl)
theorem n38_15s : codeB Try.prog E ⟨f, 27, b, ro⟩ n38_15 st = plainS (runOps Try.prog E b q38_15 (ops [true, true, true, false] Try.f38) st) := GE.region_step (id := 6) (GE.reg_of (by kernel_rfl)) (by kernel_rfl)
theorem n38_16s : codeB Try.prog LL ⟨38, 27, b, ro⟩ n38_16 st = normS b ⟨[4], []⟩ .ret st := GE.ret_step (by kernel_rfl) (by kernel_rfl)
theorem n38_14s : codeB Try.prog E cx n38_14 st = thenS (codeB Try.prog E cx n38_15 st) (codeB Try.prog E cx n38_16) := GE.seq_step (by kernel_rfl)
theorem n38_4s : codeB Try.prog E cx n38_4 st = thenS (codeB Try.prog E cx n38_5 st) (codeB Try.prog E cx n38_14) := GE.seq_step (by kernel_rfl)
theorem n38_2s : codeB Try.prog E cx n38_2 st = thenS (codeB Try.prog E cx n38_3 st) (codeB Try.prog E cx n38_4) := GE.seq_step (by kernel_rfl)
theorem n38_0s : codeB Try.prog E cx n38_0 st = thenS (codeB Try.prog E cx n38_1 st) (codeB Try.prog E cx n38_2) := GE.seq_step (by kernel_rfl)
noncomputable def n39_0 : Code := bodyOf Try.f39
noncomputable def n39_1 : Code := cl n39_0
noncomputable def q39_1 : List Oper := opsOf n39_1
noncomputable def n39_2 : Code := cr n39_0
noncomputable def n39_3 : Code := cl n39_2
noncomputable def q39_3 : List Oper := opsOf n39_3
noncomputable def n39_4 : Code := cr n39_2
theorem body39 : Try.f39.body = some n39_0 := by kernel_rfl
theorem run39 (E : Ev) (args : List Value) (h : List Blk) (hl : args.length ≤ 11) : runB Try.prog E 39 args h = endS Try.prog [.tmp 2] h.length (codeB Try.prog E ⟨39, 11, h.length, none⟩ n39_0 ⟨enumT 0 args, h, []⟩) := GE.run_step Try.func39 body39 (by kernel_rfl) (by decide) (by kernel_rfl) hl
theorem n39_1s : codeB Try.prog E ⟨f, 11, b, ro⟩ n39_1 st = plainS (runOps Try.prog E b q39_1 (ops [false] Try.f39) st) := GE.region_step (id := 0) (GE.reg_of (by kernel_rfl)) (by kernel_rfl)
theorem q39_3g3 : gd q39_3 3 = some 6 := by kernel_rfl
theorem n39_3s : codeB Try.prog E ⟨f, 11, b, ro⟩ n39_3 st = plainS (runOps Try.prog E b q39_3 (ops [true, false] Try.f39) st) := GE.region_step (id := 1) (GE.reg_of (by kernel_rfl)) (by kernel_rfl)
theorem n39_4s : codeB Try.prog LL ⟨39, 11, b, ro⟩ n39_4 st = normS b ⟨[2], []⟩ .ret st := GE.ret_step (by kernel_rfl) (by kernel_rfl)
theorem n39_2s : codeB Try.prog E cx n39_2 st = thenS (codeB Try.prog E cx n39_3 st) (codeB Try.prog E cx n39_4) := GE.seq_step (by kernel_rfl)
theorem n39_0s : codeB Try.prog E cx n39_0 st = thenS (codeB Try.prog E cx n39_1 st) (codeB Try.prog E cx n39_2) := GE.seq_step (by kernel_rfl)
noncomputable def n40_0 : Code := bodyOf Try.f40
noncomputable def n40_1 : Code := cl n40_0
noncomputable def q40_1 : List Oper := opsOf n40_1
noncomputable def n40_2 : Code := cr n40_0
noncomputable def n40_3 : Code := cl n40_2
noncomputable def q40_3 : List Oper := opsOf n40_3
noncomputable def n40_4 : Code := cr n40_2
noncomputable def n40_5 : Code := cl n40_4
noncomputable def n40_6 : Code := cl n40_5
noncomputable def q40_6 : List Oper := opsOf n40_6
noncomputable def n40_7 : Code := cr n40_5
noncomputable def n40_8 : Code := cl n40_7
noncomputable def n40_9 : Code := cl n40_8
noncomputable def n40_10 : Code := cl n40_9
noncomputable def n40_11 : Code := cl n40_10
noncomputable def q40_11 : List Oper := opsOf n40_11
noncomputable def n40_12 : Code := cr n40_10
noncomputable def n40_13 : Code := cl n40_12
noncomputable def n40_14 : Code := cr n40_12
noncomputable def n40_15 : Code := cr n40_9
noncomputable def n40_16 : Code := cl n40_15
noncomputable def n40_17 : Code := cl n40_16
noncomputable def n40_18 : Code := cl n40_17
noncomputable def q40_18 : List Oper := opsOf n40_18
noncomputable def n40_19 : Code := cr n40_17
noncomputable def n40_20 : Code := cl n40_19
noncomputable def n40_21 : Code := cl n40_20
noncomputable def q40_21 : List Oper := opsOf n40_21
noncomputable def n40_22 : Code := cr n40_20
noncomputable def n40_23 : Code := cl n40_22
noncomputable def n40_24 : Code := cl n40_23
noncomputable def n40_25 : Code := cl n40_24
noncomputable def n40_26 : Code := cl n40_25
noncomputable def q40_26 : List Oper := opsOf n40_26
noncomputable def n40_27 : Code := cr n40_25
noncomputable def n40_28 : Code := cl n40_27
noncomputable def n40_29 : Code := cr n40_27
noncomputable def n40_30 : Code := cr n40_24
noncomputable def n40_31 : Code := cl n40_30
noncomputable def n40_32 : Code := cl n40_31
noncomputable def n40_33 : Code := cl n40_32
noncomputable def q40_33 : List Oper := opsOf n40_33
noncomputable def n40_34 : Code := cr n40_32
noncomputable def n40_35 : Code := cl n40_34
noncomputable def q40_35 : List Oper := opsOf n40_35
noncomputable def n40_36 : Code := cr n40_34
noncomputable def q40_36 : List Oper := opsOf n40_36
noncomputable def n40_37 : Code := cr n40_30
noncomputable def q40_37 : List Oper := opsOf n40_37
noncomputable def n40_38 : Code := cr n40_19
noncomputable def q40_38 : List Oper := opsOf n40_38
noncomputable def n40_39 : Code := cr n40_15
noncomputable def q40_39 : List Oper := opsOf n40_39
noncomputable def n40_40 : Code := cr n40_4
noncomputable def n40_41 : Code := cl n40_40
noncomputable def q40_41 : List Oper := opsOf n40_41
noncomputable def n40_42 : Code := cr n40_40
theorem body40 : Try.f40.body = some n40_0 := by kernel_rfl
theorem run40 (E : Ev) (args : List Value) (h : List Blk) (hl : args.length ≤ 41) : runB Try.prog E 40 args h = endS Try.prog [.tmp 4] h.length (codeB Try.prog E ⟨40, 41, h.length, none⟩ n40_0 ⟨enumT 0 args, h, []⟩) := GE.run_step Try.func40 body40 (by kernel_rfl) (by decide) (by kernel_rfl) hl
theorem n40_1s : codeB Try.prog E ⟨f, 41, b, ro⟩ n40_1 st = plainS (runOps Try.prog E b q40_1 (ops [false] Try.f40) st) := GE.region_step (id := 0) (GE.reg_of (by kernel_rfl)) (by kernel_rfl)
theorem n40_3s : codeB Try.prog E ⟨f, 41, b, ro⟩ n40_3 st = plainS (runOps Try.prog E b q40_3 (ops [true, false] Try.f40) st) := GE.region_step (id := 1) (GE.reg_of (by kernel_rfl)) (by kernel_rfl)
theorem n40_6s : codeB Try.prog E ⟨f, 41, b, ro⟩ n40_6 st = plainS (runOps Try.prog E b q40_6 (ops [true, true, false, false] Try.f40) st) := GE.region_step (id := 2) (GE.reg_of (by kernel_rfl)) (by kernel_rfl)
theorem n40_11s : codeB Try.prog E ⟨f, 41, b, ro⟩ n40_11 st = plainS (runOps Try.prog E b q40_11 (ops [true, true, false, true, false, false, false, false] Try.f40) st) := GE.region_step (id := 3) (GE.reg_of (by kernel_rfl)) (by kernel_rfl)
theorem n40_13s : codeB Try.prog E cx n40_13 st = some (.normal, st) := GE.skip_step (by kernel_rfl)
theorem n40_14s : codeB Try.prog LL ⟨40, 41, b, ro⟩ n40_14 st = normS b ⟨[5], []⟩ (.exit 0) st := GE.exit_step (by kernel_rfl) (by kernel_rfl)
theorem n40_12s : codeB Try.prog E cx n40_12 st = condS (codeB Try.prog E cx n40_13) (codeB Try.prog E cx n40_14) (lk st.σ 12) st := GE.cond_step (c := .tmp 12) (by kernel_rfl)
theorem n40_10s : codeB Try.prog E cx n40_10 st = thenS (codeB Try.prog E cx n40_11 st) (codeB Try.prog E cx n40_12) := GE.seq_step (by kernel_rfl)
theorem n40_18s : codeB Try.prog E ⟨f, 41, b, ro⟩ n40_18 st = plainS (runOps Try.prog E b q40_18 (ops [true, true, false, true, false, false, true, false, false, false] Try.f40) st) := GE.region_step (id := 5) (GE.reg_of (by kernel_rfl)) (by kernel_rfl)
theorem n40_21s : codeB Try.prog E ⟨f, 41, b, ro⟩ n40_21 st = plainS (runOps Try.prog E b q40_21 (ops [true, true, false, true, false, false, true, false, false, true, false, false] Try.f40) st) := GE.region_step (id := 6) (GE.reg_of (by kernel_rfl)) (by kernel_rfl)
theorem n40_26s : codeB Try.prog E ⟨f, 41, b, ro⟩ n40_26 st = plainS (runOps Try.prog E b q40_26 (ops [true, true, false, true, false, false, true, false, false, true, false, true, false, false, false, false] Try.f40) st) := GE.region_step (id := 7) (GE.reg_of (by kernel_rfl)) (by kernel_rfl)
theorem n40_28s : codeB Try.prog E cx n40_28 st = some (.normal, st) := GE.skip_step (by kernel_rfl)
theorem n40_29s : codeB Try.prog LL ⟨40, 41, b, ro⟩ n40_29 st = normS b ⟨[7, 0, 3, 5, 6], [⟨0, 0, 1, true⟩]⟩ (.exit 2) st := GE.exit_step (by kernel_rfl) (by kernel_rfl)
theorem n40_27s : codeB Try.prog E cx n40_27 st = condS (codeB Try.prog E cx n40_28) (codeB Try.prog E cx n40_29) (lk st.σ 22) st := GE.cond_step (c := .tmp 22) (by kernel_rfl)
theorem n40_25s : codeB Try.prog E cx n40_25 st = thenS (codeB Try.prog E cx n40_26 st) (codeB Try.prog E cx n40_27) := GE.seq_step (by kernel_rfl)
theorem n40_33s : codeB Try.prog E ⟨f, 41, b, ro⟩ n40_33 st = plainS (runOps Try.prog E b q40_33 (ops [true, true, false, true, false, false, true, false, false, true, false, true, false, false, true, false, false, false] Try.f40) st) := GE.region_step (id := 9) (GE.reg_of (by kernel_rfl)) (by kernel_rfl)
theorem n40_35s : codeB Try.prog E ⟨f, 41, b, ro⟩ n40_35 st = plainS (runOps Try.prog E b q40_35 (ops [true, true, false, true, false, false, true, false, false, true, false, true, false, false, true, false, false, true, false] Try.f40) st) := GE.region_step (id := 10) (GE.reg_of (by kernel_rfl)) (by kernel_rfl)
theorem n40_36s : codeB Try.prog E ⟨f, 41, b, ro⟩ n40_36 st = plainS (runOps Try.prog E b q40_36 (ops [true, true, false, true, false, false, true, false, false, true, false, true, false, false, true, false, false, true, true] Try.f40) st) := GE.region_step (id := 11) (GE.reg_of (by kernel_rfl)) (by kernel_rfl)
theorem n40_34s : codeB Try.prog E cx n40_34 st = condS (codeB Try.prog E cx n40_35) (codeB Try.prog E cx n40_36) (lk st.σ 27) st := GE.cond_step (c := .tmp 27) (by kernel_rfl)
theorem n40_32s : codeB Try.prog E cx n40_32 st = thenS (codeB Try.prog E cx n40_33 st) (codeB Try.prog E cx n40_34) := GE.seq_step (by kernel_rfl)
theorem n40_31s : codeB Try.prog E cx n40_31 st = blockS 3 (codeB Try.prog E cx n40_32 st) st := GE.block_step (by kernel_rfl)
theorem n40_37s : codeB Try.prog E ⟨f, 41, b, ro⟩ n40_37 st = plainS (runOps Try.prog E b q40_37 (ops [true, true, false, true, false, false, true, false, false, true, false, true, false, false, true, true] Try.f40) st) := GE.region_step (id := 8) (GE.reg_of (by kernel_rfl)) (by kernel_rfl)
theorem n40_30s : codeB Try.prog E cx n40_30 st = thenS (codeB Try.prog E cx n40_31 st) (codeB Try.prog E cx n40_37) := GE.seq_step (by kernel_rfl)
theorem n40_24s : codeB Try.prog E cx n40_24 st = thenS (codeB Try.prog E cx n40_25 st) (codeB Try.prog E cx n40_30) := GE.seq_step (by kernel_rfl)
theorem n40_23k : LL.kp (⟨40, 41, b, ro⟩ : Cx).fn (4 * rid n40_24 + 3) = some ⟨[7, 8, 0, 3, 5, 6], [⟨0, 0, 1, true⟩]⟩ := by kernel_rfl
theorem n40_23s : codeB Try.prog LL ⟨40, 41, b, ro⟩ n40_23 st = headS b ⟨[7, 8, 0, 3, 5, 6], [⟨0, 0, 1, true⟩]⟩ st (lpB Try.prog LL ⟨40, 41, b, ro⟩ n40_23 n40_24) := GE.lpB_step (by kernel_rfl) (n40_23k b ro)
theorem n40_23g : LL.code ⟨40, 41, b, ro⟩ n40_23 st = headS b ⟨[7, 8, 0, 3, 5, 6], [⟨0, 0, 1, true⟩]⟩ st (lpB Try.prog LL ⟨40, 41, b, ro⟩ n40_23 n40_24) := GE.lpB_again (by kernel_rfl) (n40_23k b ro)
theorem n40_22s : codeB Try.prog E cx n40_22 st = blockS 2 (codeB Try.prog E cx n40_23 st) st := GE.block_step (by kernel_rfl)
theorem n40_20s : codeB Try.prog E cx n40_20 st = thenS (codeB Try.prog E cx n40_21 st) (codeB Try.prog E cx n40_22) := GE.seq_step (by kernel_rfl)
theorem n40_38s : codeB Try.prog E ⟨f, 41, b, ro⟩ n40_38 st = plainS (runOps Try.prog E b q40_38 (ops [true, true, false, true, false, false, true, false, false, true, true] Try.f40) st) := GE.region_step (id := 12) (GE.reg_of (by kernel_rfl)) (by kernel_rfl)
theorem n40_19s : codeB Try.prog E cx n40_19 st = thenS (codeB Try.prog E cx n40_20 st) (codeB Try.prog E cx n40_38) := GE.seq_step (by kernel_rfl)
theorem n40_17s : codeB Try.prog E cx n40_17 st = thenS (codeB Try.prog E cx n40_18 st) (codeB Try.prog E cx n40_19) := GE.seq_step (by kernel_rfl)
theorem n40_16s : codeB Try.prog E cx n40_16 st = blockS 1 (codeB Try.prog E cx n40_17 st) st := GE.block_step (by kernel_rfl)
theorem n40_39s : codeB Try.prog E ⟨f, 41, b, ro⟩ n40_39 st = plainS (runOps Try.prog E b q40_39 (ops [true, true, false, true, false, false, true, true] Try.f40) st) := GE.region_step (id := 4) (GE.reg_of (by kernel_rfl)) (by kernel_rfl)
theorem n40_15s : codeB Try.prog E cx n40_15 st = thenS (codeB Try.prog E cx n40_16 st) (codeB Try.prog E cx n40_39) := GE.seq_step (by kernel_rfl)
theorem n40_9s : codeB Try.prog E cx n40_9 st = thenS (codeB Try.prog E cx n40_10 st) (codeB Try.prog E cx n40_15) := GE.seq_step (by kernel_rfl)
theorem n40_8k : LL.kp (⟨40, 41, b, ro⟩ : Cx).fn (4 * rid n40_9 + 3) = some ⟨[0, 3, 5, 6], [⟨0, 0, 1, true⟩]⟩ := by kernel_rfl
theorem n40_8s : codeB Try.prog LL ⟨40, 41, b, ro⟩ n40_8 st = headS b ⟨[0, 3, 5, 6], [⟨0, 0, 1, true⟩]⟩ st (lpB Try.prog LL ⟨40, 41, b, ro⟩ n40_8 n40_9) := GE.lpB_step (by kernel_rfl) (n40_8k b ro)
theorem n40_8g : LL.code ⟨40, 41, b, ro⟩ n40_8 st = headS b ⟨[0, 3, 5, 6], [⟨0, 0, 1, true⟩]⟩ st (lpB Try.prog LL ⟨40, 41, b, ro⟩ n40_8 n40_9) := GE.lpB_again (by kernel_rfl) (n40_8k b ro)
theorem n40_7s : codeB Try.prog E cx n40_7 st = blockS 0 (codeB Try.prog E cx n40_8 st) st := GE.block_step (by kernel_rfl)
theorem n40_5s : codeB Try.prog E cx n40_5 st = thenS (codeB Try.prog E cx n40_6 st) (codeB Try.prog E cx n40_7) := GE.seq_step (by kernel_rfl)
theorem n40_41s : codeB Try.prog E ⟨f, 41, b, ro⟩ n40_41 st = plainS (runOps Try.prog E b q40_41 (ops [true, true, true, false] Try.f40) st) := GE.region_step (id := 13) (GE.reg_of (by kernel_rfl)) (by kernel_rfl)
theorem n40_42s : codeB Try.prog LL ⟨40, 41, b, ro⟩ n40_42 st = normS b ⟨[4], []⟩ .ret st := GE.ret_step (by kernel_rfl) (by kernel_rfl)
theorem n40_40s : codeB Try.prog E cx n40_40 st = thenS (codeB Try.prog E cx n40_41 st) (codeB Try.prog E cx n40_42) := GE.seq_step (by kernel_rfl)
theorem n40_4s : codeB Try.prog E cx n40_4 st = thenS (codeB Try.prog E cx n40_5 st) (codeB Try.prog E cx n40_40) := GE.seq_step (by kernel_rfl)
theorem n40_2s : codeB Try.prog E cx n40_2 st = thenS (codeB Try.prog E cx n40_3 st) (codeB Try.prog E cx n40_4) := GE.seq_step (by kernel_rfl)
theorem n40_0s : codeB Try.prog E cx n40_0 st = thenS (codeB Try.prog E cx n40_1 st) (codeB Try.prog E cx n40_2) := GE.seq_step (by kernel_rfl)
noncomputable def n41_0 : Code := bodyOf Try.f41
noncomputable def n41_1 : Code := cl n41_0
noncomputable def q41_1 : List Oper := opsOf n41_1
noncomputable def n41_2 : Code := cr n41_0
noncomputable def n41_3 : Code := cl n41_2
noncomputable def q41_3 : List Oper := opsOf n41_3
noncomputable def n41_4 : Code := cr n41_2
noncomputable def n41_5 : Code := cl n41_4
noncomputable def q41_5 : List Oper := opsOf n41_5
noncomputable def n41_6 : Code := cr n41_4
theorem body41 : Try.f41.body = some n41_0 := by kernel_rfl
theorem run41 (E : Ev) (args : List Value) (h : List Blk) (hl : args.length ≤ 19) : runB Try.prog E 41 args h = endS Try.prog [.tmp 2] h.length (codeB Try.prog E ⟨41, 19, h.length, none⟩ n41_0 ⟨enumT 0 args, h, []⟩) := GE.run_step Try.func41 body41 (by kernel_rfl) (by decide) (by kernel_rfl) hl
theorem n41_1s : codeB Try.prog E ⟨f, 19, b, ro⟩ n41_1 st = plainS (runOps Try.prog E b q41_1 (ops [false] Try.f41) st) := GE.region_step (id := 0) (GE.reg_of (by kernel_rfl)) (by kernel_rfl)
theorem n41_3s : codeB Try.prog E ⟨f, 19, b, ro⟩ n41_3 st = plainS (runOps Try.prog E b q41_3 (ops [true, false] Try.f41) st) := GE.region_step (id := 1) (GE.reg_of (by kernel_rfl)) (by kernel_rfl)
theorem n41_5s : codeB Try.prog E ⟨f, 19, b, ro⟩ n41_5 st = plainS (runOps Try.prog E b q41_5 (ops [true, true, false] Try.f41) st) := GE.region_step (id := 2) (GE.reg_of (by kernel_rfl)) (by kernel_rfl)
theorem n41_6s : codeB Try.prog LL ⟨41, 19, b, ro⟩ n41_6 st = normS b ⟨[2], [⟨2, 0, 1, true⟩]⟩ .ret st := GE.ret_step (by kernel_rfl) (by kernel_rfl)
theorem n41_4s : codeB Try.prog E cx n41_4 st = thenS (codeB Try.prog E cx n41_5 st) (codeB Try.prog E cx n41_6) := GE.seq_step (by kernel_rfl)
theorem n41_2s : codeB Try.prog E cx n41_2 st = thenS (codeB Try.prog E cx n41_3 st) (codeB Try.prog E cx n41_4) := GE.seq_step (by kernel_rfl)
theorem n41_0s : codeB Try.prog E cx n41_0 st = thenS (codeB Try.prog E cx n41_1 st) (codeB Try.prog E cx n41_2) := GE.seq_step (by kernel_rfl)
noncomputable def n42_0 : Code := bodyOf Try.f42
noncomputable def n42_1 : Code := cl n42_0
noncomputable def q42_1 : List Oper := opsOf n42_1
noncomputable def n42_2 : Code := cr n42_0
noncomputable def n42_3 : Code := cl n42_2
noncomputable def q42_3 : List Oper := opsOf n42_3
noncomputable def n42_4 : Code := cr n42_2
noncomputable def n42_5 : Code := cl n42_4
noncomputable def q42_5 : List Oper := opsOf n42_5
noncomputable def n42_6 : Code := cr n42_4
theorem body42 : Try.f42.body = some n42_0 := by kernel_rfl
theorem run42 (E : Ev) (args : List Value) (h : List Blk) (hl : args.length ≤ 23) : runB Try.prog E 42 args h = endS Try.prog [.tmp 2] h.length (codeB Try.prog E ⟨42, 23, h.length, none⟩ n42_0 ⟨enumT 0 args, h, []⟩) := GE.run_step Try.func42 body42 (by kernel_rfl) (by decide) (by kernel_rfl) hl
theorem n42_1s : codeB Try.prog E ⟨f, 23, b, ro⟩ n42_1 st = plainS (runOps Try.prog E b q42_1 (ops [false] Try.f42) st) := GE.region_step (id := 0) (GE.reg_of (by kernel_rfl)) (by kernel_rfl)
theorem n42_3s : codeB Try.prog E ⟨f, 23, b, ro⟩ n42_3 st = plainS (runOps Try.prog E b q42_3 (ops [true, false] Try.f42) st) := GE.region_step (id := 1) (GE.reg_of (by kernel_rfl)) (by kernel_rfl)
theorem n42_5s : codeB Try.prog E ⟨f, 23, b, ro⟩ n42_5 st = plainS (runOps Try.prog E b q42_5 (ops [true, true, false] Try.f42) st) := GE.region_step (id := 2) (GE.reg_of (by kernel_rfl)) (by kernel_rfl)
theorem n42_6s : codeB Try.prog LL ⟨42, 23, b, ro⟩ n42_6 st = normS b ⟨[2], [⟨2, 0, 1, true⟩]⟩ .ret st := GE.ret_step (by kernel_rfl) (by kernel_rfl)
theorem n42_4s : codeB Try.prog E cx n42_4 st = thenS (codeB Try.prog E cx n42_5 st) (codeB Try.prog E cx n42_6) := GE.seq_step (by kernel_rfl)
theorem n42_2s : codeB Try.prog E cx n42_2 st = thenS (codeB Try.prog E cx n42_3 st) (codeB Try.prog E cx n42_4) := GE.seq_step (by kernel_rfl)
theorem n42_0s : codeB Try.prog E cx n42_0 st = thenS (codeB Try.prog E cx n42_1 st) (codeB Try.prog E cx n42_2) := GE.seq_step (by kernel_rfl)
noncomputable def n43_0 : Code := bodyOf Try.f43
noncomputable def n43_1 : Code := cl n43_0
noncomputable def q43_1 : List Oper := opsOf n43_1
noncomputable def n43_2 : Code := cr n43_0
noncomputable def n43_3 : Code := cl n43_2
noncomputable def q43_3 : List Oper := opsOf n43_3
noncomputable def n43_4 : Code := cr n43_2
noncomputable def n43_5 : Code := cl n43_4
noncomputable def q43_5 : List Oper := opsOf n43_5
noncomputable def n43_6 : Code := cr n43_4
theorem body43 : Try.f43.body = some n43_0 := by kernel_rfl
theorem run43 (E : Ev) (args : List Value) (h : List Blk) (hl : args.length ≤ 11) : runB Try.prog E 43 args h = endS Try.prog [.tmp 2] h.length (codeB Try.prog E ⟨43, 11, h.length, none⟩ n43_0 ⟨enumT 0 args, h, []⟩) := GE.run_step Try.func43 body43 (by kernel_rfl) (by decide) (by kernel_rfl) hl
theorem n43_1s : codeB Try.prog E ⟨f, 11, b, ro⟩ n43_1 st = plainS (runOps Try.prog E b q43_1 (ops [false] Try.f43) st) := GE.region_step (id := 0) (GE.reg_of (by kernel_rfl)) (by kernel_rfl)
theorem n43_3s : codeB Try.prog E ⟨f, 11, b, ro⟩ n43_3 st = plainS (runOps Try.prog E b q43_3 (ops [true, false] Try.f43) st) := GE.region_step (id := 1) (GE.reg_of (by kernel_rfl)) (by kernel_rfl)
theorem n43_5s : codeB Try.prog E ⟨f, 11, b, ro⟩ n43_5 st = plainS (runOps Try.prog E b q43_5 (ops [true, true, false] Try.f43) st) := GE.region_step (id := 2) (GE.reg_of (by kernel_rfl)) (by kernel_rfl)
theorem n43_6s : codeB Try.prog LL ⟨43, 11, b, ro⟩ n43_6 st = normS b ⟨[2], [⟨2, 0, 1, false⟩]⟩ .ret st := GE.ret_step (by kernel_rfl) (by kernel_rfl)
theorem n43_4s : codeB Try.prog E cx n43_4 st = thenS (codeB Try.prog E cx n43_5 st) (codeB Try.prog E cx n43_6) := GE.seq_step (by kernel_rfl)
theorem n43_2s : codeB Try.prog E cx n43_2 st = thenS (codeB Try.prog E cx n43_3 st) (codeB Try.prog E cx n43_4) := GE.seq_step (by kernel_rfl)
theorem n43_0s : codeB Try.prog E cx n43_0 st = thenS (codeB Try.prog E cx n43_1 st) (codeB Try.prog E cx n43_2) := GE.seq_step (by kernel_rfl)
noncomputable def n44_0 : Code := bodyOf Try.f44
noncomputable def n44_1 : Code := cl n44_0
noncomputable def q44_1 : List Oper := opsOf n44_1
noncomputable def n44_2 : Code := cr n44_0
noncomputable def n44_3 : Code := cl n44_2
noncomputable def q44_3 : List Oper := opsOf n44_3
noncomputable def n44_4 : Code := cr n44_2
noncomputable def n44_5 : Code := cl n44_4
noncomputable def q44_5 : List Oper := opsOf n44_5
noncomputable def n44_6 : Code := cr n44_4
noncomputable def n44_7 : Code := cl n44_6
noncomputable def n44_8 : Code := cl n44_7
noncomputable def n44_9 : Code := cl n44_8
noncomputable def n44_10 : Code := cl n44_9
noncomputable def n44_11 : Code := cl n44_10
noncomputable def q44_11 : List Oper := opsOf n44_11
noncomputable def n44_12 : Code := cr n44_10
noncomputable def n44_13 : Code := cl n44_12
noncomputable def n44_14 : Code := cr n44_12
noncomputable def n44_15 : Code := cr n44_9
noncomputable def n44_16 : Code := cl n44_15
noncomputable def n44_17 : Code := cl n44_16
noncomputable def q44_17 : List Oper := opsOf n44_17
noncomputable def n44_18 : Code := cr n44_16
noncomputable def q44_18 : List Oper := opsOf n44_18
noncomputable def n44_19 : Code := cr n44_6
noncomputable def n44_20 : Code := cl n44_19
noncomputable def q44_20 : List Oper := opsOf n44_20
noncomputable def n44_21 : Code := cr n44_19
theorem body44 : Try.f44.body = some n44_0 := by kernel_rfl
theorem run44 (E : Ev) (args : List Value) (h : List Blk) (hl : args.length ≤ 44) : runB Try.prog E 44 args h = endS Try.prog [.tmp 2] h.length (codeB Try.prog E ⟨44, 44, h.length, none⟩ n44_0 ⟨enumT 0 args, h, []⟩) := GE.run_step Try.func44 body44 (by kernel_rfl) (by decide) (by kernel_rfl) hl
theorem n44_1s : codeB Try.prog E ⟨f, 44, b, ro⟩ n44_1 st = plainS (runOps Try.prog E b q44_1 (ops [false] Try.f44) st) := GE.region_step (id := 0) (GE.reg_of (by kernel_rfl)) (by kernel_rfl)
theorem n44_3s : codeB Try.prog E ⟨f, 44, b, ro⟩ n44_3 st = plainS (runOps Try.prog E b q44_3 (ops [true, false] Try.f44) st) := GE.region_step (id := 1) (GE.reg_of (by kernel_rfl)) (by kernel_rfl)
theorem n44_5s : codeB Try.prog E ⟨f, 44, b, ro⟩ n44_5 st = plainS (runOps Try.prog E b q44_5 (ops [true, true, false] Try.f44) st) := GE.region_step (id := 2) (GE.reg_of (by kernel_rfl)) (by kernel_rfl)
theorem n44_11s : codeB Try.prog E ⟨f, 44, b, ro⟩ n44_11 st = plainS (runOps Try.prog E b q44_11 (ops [true, true, true, false, false, false, false, false] Try.f44) st) := GE.region_step (id := 3) (GE.reg_of (by kernel_rfl)) (by kernel_rfl)
theorem n44_13s : codeB Try.prog E cx n44_13 st = some (.normal, st) := GE.skip_step (by kernel_rfl)
theorem n44_14s : codeB Try.prog LL ⟨44, 44, b, ro⟩ n44_14 st = normS b ⟨[4], [⟨4, 0, 1, false⟩]⟩ (.exit 0) st := GE.exit_step (by kernel_rfl) (by kernel_rfl)
theorem n44_12s : codeB Try.prog E cx n44_12 st = condS (codeB Try.prog E cx n44_13) (codeB Try.prog E cx n44_14) (lk st.σ 21) st := GE.cond_step (c := .tmp 21) (by kernel_rfl)
theorem n44_10s : codeB Try.prog E cx n44_10 st = thenS (codeB Try.prog E cx n44_11 st) (codeB Try.prog E cx n44_12) := GE.seq_step (by kernel_rfl)
theorem n44_17s : codeB Try.prog E ⟨f, 44, b, ro⟩ n44_17 st = drawS [0, 0, 2, 6, 15, 31, 0, 0, 128, 384, 960, 1984, 4095, 8191, 16383, 16383, 32767, 131071] (runOpsF Try.prog E b q44_17 (ops [true, true, true, false, false, false, true, false, false] Try.f44) st) := GE.draw_step (id := 4) (GE.reg_of (by kernel_rfl)) (by kernel_rfl) (by kernel_rfl) (by kernel_rfl)
theorem n44_18s : codeB Try.prog E ⟨f, 44, b, ro⟩ n44_18 st = plainS (runOps Try.prog E b q44_18 (ops [true, true, true, false, false, false, true, false, true] Try.f44) st) := GE.region_step (id := 5) (GE.reg_of (by kernel_rfl)) (by kernel_rfl)
theorem n44_16s : codeB Try.prog E cx n44_16 st = thenS (codeB Try.prog E cx n44_17 st) (codeB Try.prog E cx n44_18) := GE.seq_step (by kernel_rfl)
theorem n44_15s : codeB Try.prog E cx n44_15 st = blockS 1 (codeB Try.prog E cx n44_16 st) st := GE.block_step (by kernel_rfl)
theorem n44_9s : codeB Try.prog E cx n44_9 st = thenS (codeB Try.prog E cx n44_10 st) (codeB Try.prog E cx n44_15) := GE.seq_step (by kernel_rfl)
theorem n44_8k : LL.kp (⟨44, 44, b, ro⟩ : Cx).fn (4 * rid n44_9 + 3) = some ⟨[4], [⟨4, 0, 1, false⟩]⟩ := by kernel_rfl
theorem n44_8s : codeB Try.prog LL ⟨44, 44, b, ro⟩ n44_8 st = headS b ⟨[4], [⟨4, 0, 1, false⟩]⟩ st (lpB Try.prog LL ⟨44, 44, b, ro⟩ n44_8 n44_9) := GE.lpB_step (by kernel_rfl) (n44_8k b ro)
theorem n44_8g : LL.code ⟨44, 44, b, ro⟩ n44_8 st = headS b ⟨[4], [⟨4, 0, 1, false⟩]⟩ st (lpB Try.prog LL ⟨44, 44, b, ro⟩ n44_8 n44_9) := GE.lpB_again (by kernel_rfl) (n44_8k b ro)
theorem n44_7s : codeB Try.prog E cx n44_7 st = blockS 0 (codeB Try.prog E cx n44_8 st) st := GE.block_step (by kernel_rfl)
theorem n44_20s : codeB Try.prog E ⟨f, 44, b, ro⟩ n44_20 st = plainS (runOps Try.prog E b q44_20 (ops [true, true, true, true, false] Try.f44) st) := GE.region_step (id := 6) (GE.reg_of (by kernel_rfl)) (by kernel_rfl)
theorem n44_21s : codeB Try.prog LL ⟨44, 44, b, ro⟩ n44_21 st = normS b ⟨[2], [⟨2, 0, 1, false⟩]⟩ .ret st := GE.ret_step (by kernel_rfl) (by kernel_rfl)
theorem n44_19s : codeB Try.prog E cx n44_19 st = thenS (codeB Try.prog E cx n44_20 st) (codeB Try.prog E cx n44_21) := GE.seq_step (by kernel_rfl)
theorem n44_6s : codeB Try.prog E cx n44_6 st = thenS (codeB Try.prog E cx n44_7 st) (codeB Try.prog E cx n44_19) := GE.seq_step (by kernel_rfl)
theorem n44_4s : codeB Try.prog E cx n44_4 st = thenS (codeB Try.prog E cx n44_5 st) (codeB Try.prog E cx n44_6) := GE.seq_step (by kernel_rfl)
theorem n44_2s : codeB Try.prog E cx n44_2 st = thenS (codeB Try.prog E cx n44_3 st) (codeB Try.prog E cx n44_4) := GE.seq_step (by kernel_rfl)
theorem n44_0s : codeB Try.prog E cx n44_0 st = thenS (codeB Try.prog E cx n44_1 st) (codeB Try.prog E cx n44_2) := GE.seq_step (by kernel_rfl)
noncomputable def n45_0 : Code := bodyOf Try.f45
noncomputable def n45_1 : Code := cl n45_0
noncomputable def q45_1 : List Oper := opsOf n45_1
noncomputable def n45_2 : Code := cr n45_0
noncomputable def n45_3 : Code := cl n45_2
noncomputable def q45_3 : List Oper := opsOf n45_3
noncomputable def n45_4 : Code := cr n45_2
theorem body45 : Try.f45.body = some n45_0 := by kernel_rfl
theorem run45 (E : Ev) (args : List Value) (h : List Blk) (hl : args.length ≤ 9) : runB Try.prog E 45 args h = endS Try.prog [.tmp 4] h.length (codeB Try.prog E ⟨45, 9, h.length, none⟩ n45_0 ⟨enumT 0 args, h, []⟩) := GE.run_step Try.func45 body45 (by kernel_rfl) (by decide) (by kernel_rfl) hl
theorem n45_1s : codeB Try.prog E ⟨f, 9, b, ro⟩ n45_1 st = plainS (runOps Try.prog E b q45_1 (ops [false] Try.f45) st) := GE.region_step (id := 0) (GE.reg_of (by kernel_rfl)) (by kernel_rfl)
theorem n45_3s : codeB Try.prog E ⟨f, 9, b, ro⟩ n45_3 st = plainS (runOps Try.prog E b q45_3 (ops [true, false] Try.f45) st) := GE.region_step (id := 1) (GE.reg_of (by kernel_rfl)) (by kernel_rfl)
theorem n45_4s : codeB Try.prog LL ⟨45, 9, b, ro⟩ n45_4 st = normS b ⟨[4], []⟩ .ret st := GE.ret_step (by kernel_rfl) (by kernel_rfl)
theorem n45_2s : codeB Try.prog E cx n45_2 st = thenS (codeB Try.prog E cx n45_3 st) (codeB Try.prog E cx n45_4) := GE.seq_step (by kernel_rfl)
theorem n45_0s : codeB Try.prog E cx n45_0 st = thenS (codeB Try.prog E cx n45_1 st) (codeB Try.prog E cx n45_2) := GE.seq_step (by kernel_rfl)
noncomputable def n46_0 : Code := bodyOf Try.f46
noncomputable def n46_1 : Code := cl n46_0
noncomputable def q46_1 : List Oper := opsOf n46_1
noncomputable def n46_2 : Code := cr n46_0
noncomputable def n46_3 : Code := cl n46_2
noncomputable def q46_3 : List Oper := opsOf n46_3
noncomputable def n46_4 : Code := cr n46_2
theorem body46 : Try.f46.body = some n46_0 := by kernel_rfl
theorem run46 (E : Ev) (args : List Value) (h : List Blk) (hl : args.length ≤ 9) : runB Try.prog E 46 args h = endS Try.prog [.tmp 2] h.length (codeB Try.prog E ⟨46, 9, h.length, none⟩ n46_0 ⟨enumT 0 args, h, []⟩) := GE.run_step Try.func46 body46 (by kernel_rfl) (by decide) (by kernel_rfl) hl
theorem n46_1s : codeB Try.prog E ⟨f, 9, b, ro⟩ n46_1 st = plainS (runOps Try.prog E b q46_1 (ops [false] Try.f46) st) := GE.region_step (id := 0) (GE.reg_of (by kernel_rfl)) (by kernel_rfl)
theorem q46_3g2 : gd q46_3 2 = some 5 := by kernel_rfl
theorem n46_3s : codeB Try.prog E ⟨f, 9, b, ro⟩ n46_3 st = plainS (runOps Try.prog E b q46_3 (ops [true, false] Try.f46) st) := GE.region_step (id := 1) (GE.reg_of (by kernel_rfl)) (by kernel_rfl)
theorem n46_4s : codeB Try.prog LL ⟨46, 9, b, ro⟩ n46_4 st = normS b ⟨[2], []⟩ .ret st := GE.ret_step (by kernel_rfl) (by kernel_rfl)
theorem n46_2s : codeB Try.prog E cx n46_2 st = thenS (codeB Try.prog E cx n46_3 st) (codeB Try.prog E cx n46_4) := GE.seq_step (by kernel_rfl)
theorem n46_0s : codeB Try.prog E cx n46_0 st = thenS (codeB Try.prog E cx n46_1 st) (codeB Try.prog E cx n46_2) := GE.seq_step (by kernel_rfl)
noncomputable def n47_0 : Code := bodyOf Try.f47
noncomputable def n47_1 : Code := cl n47_0
noncomputable def q47_1 : List Oper := opsOf n47_1
noncomputable def n47_2 : Code := cr n47_0
noncomputable def n47_3 : Code := cl n47_2
noncomputable def q47_3 : List Oper := opsOf n47_3
noncomputable def n47_4 : Code := cr n47_2
theorem body47 : Try.f47.body = some n47_0 := by kernel_rfl
theorem run47 (E : Ev) (args : List Value) (h : List Blk) (hl : args.length ≤ 11) : runB Try.prog E 47 args h = endS Try.prog [.tmp 6] h.length (codeB Try.prog E ⟨47, 11, h.length, none⟩ n47_0 ⟨enumT 0 args, h, []⟩) := GE.run_step Try.func47 body47 (by kernel_rfl) (by decide) (by kernel_rfl) hl
theorem n47_1s : codeB Try.prog E ⟨f, 11, b, ro⟩ n47_1 st = plainS (runOps Try.prog E b q47_1 (ops [false] Try.f47) st) := GE.region_step (id := 0) (GE.reg_of (by kernel_rfl)) (by kernel_rfl)
theorem n47_3s : codeB Try.prog E ⟨f, 11, b, ro⟩ n47_3 st = plainS (runOps Try.prog E b q47_3 (ops [true, false] Try.f47) st) := GE.region_step (id := 1) (GE.reg_of (by kernel_rfl)) (by kernel_rfl)
theorem n47_4s : codeB Try.prog LL ⟨47, 11, b, ro⟩ n47_4 st = normS b ⟨[6], []⟩ .ret st := GE.ret_step (by kernel_rfl) (by kernel_rfl)
theorem n47_2s : codeB Try.prog E cx n47_2 st = thenS (codeB Try.prog E cx n47_3 st) (codeB Try.prog E cx n47_4) := GE.seq_step (by kernel_rfl)
theorem n47_0s : codeB Try.prog E cx n47_0 st = thenS (codeB Try.prog E cx n47_1 st) (codeB Try.prog E cx n47_2) := GE.seq_step (by kernel_rfl)
noncomputable def n54_0 : Code := bodyOf Try.f54
noncomputable def n54_1 : Code := cl n54_0
noncomputable def q54_1 : List Oper := opsOf n54_1
noncomputable def n54_2 : Code := cr n54_0
noncomputable def n54_3 : Code := cl n54_2
noncomputable def q54_3 : List Oper := opsOf n54_3
noncomputable def n54_4 : Code := cr n54_2
noncomputable def n54_5 : Code := cl n54_4
noncomputable def n54_6 : Code := cl n54_5
noncomputable def q54_6 : List Oper := opsOf n54_6
noncomputable def n54_7 : Code := cr n54_5
noncomputable def n54_8 : Code := cl n54_7
noncomputable def n54_9 : Code := cl n54_8
noncomputable def n54_10 : Code := cl n54_9
noncomputable def q54_10 : List Oper := opsOf n54_10
noncomputable def n54_11 : Code := cr n54_9
noncomputable def n54_12 : Code := cl n54_11
noncomputable def n54_13 : Code := cl n54_12
noncomputable def n54_14 : Code := cr n54_12
noncomputable def n54_15 : Code := cr n54_11
noncomputable def n54_16 : Code := cl n54_15
noncomputable def n54_17 : Code := cl n54_16
noncomputable def n54_18 : Code := cl n54_17
noncomputable def q54_18 : List Oper := opsOf n54_18
noncomputable def n54_19 : Code := cr n54_17
noncomputable def q54_19 : List Oper := opsOf n54_19
noncomputable def n54_20 : Code := cr n54_15
noncomputable def q54_20 : List Oper := opsOf n54_20
noncomputable def n54_21 : Code := cr n54_4
noncomputable def n54_22 : Code := cl n54_21
noncomputable def q54_22 : List Oper := opsOf n54_22
noncomputable def n54_23 : Code := cr n54_21
theorem body54 : Try.f54.body = some n54_0 := by kernel_rfl
theorem run54 (E : Ev) (args : List Value) (h : List Blk) (hl : args.length ≤ 27) : runB Try.prog E 54 args h = endS Try.prog [.tmp 2] h.length (codeB Try.prog E ⟨54, 27, h.length, none⟩ n54_0 ⟨enumT 0 args, h, []⟩) := GE.run_step Try.func54 body54 (by kernel_rfl) (by decide) (by kernel_rfl) hl
theorem n54_1s : codeB Try.prog E ⟨f, 27, b, ro⟩ n54_1 st = plainS (runOps Try.prog E b q54_1 (ops [false] Try.f54) st) := GE.region_step (id := 0) (GE.reg_of (by kernel_rfl)) (by kernel_rfl)
theorem n54_3s : codeB Try.prog E ⟨f, 27, b, ro⟩ n54_3 st = plainS (runOps Try.prog E b q54_3 (ops [true, false] Try.f54) st) := GE.region_step (id := 1) (GE.reg_of (by kernel_rfl)) (by kernel_rfl)
theorem n54_6s : codeB Try.prog E ⟨f, 27, b, ro⟩ n54_6 st = plainS (runOps Try.prog E b q54_6 (ops [true, true, false, false] Try.f54) st) := GE.region_step (id := 2) (GE.reg_of (by kernel_rfl)) (by kernel_rfl)
theorem n54_10s : codeB Try.prog E ⟨f, 27, b, ro⟩ n54_10 st = plainS (runOps Try.prog E b q54_10 (ops [true, true, false, true, false, false, false] Try.f54) st) := GE.region_step (id := 3) (GE.reg_of (by kernel_rfl)) (by kernel_rfl)
theorem n54_13s : codeB Try.prog E cx n54_13 st = some (.normal, st) := GE.skip_step (by kernel_rfl)
theorem n54_14s : codeB Try.prog LL ⟨54, 27, b, ro⟩ n54_14 st = normS b ⟨[3], [⟨3, 0, 1, true⟩]⟩ (.exit 0) st := GE.exit_step (by kernel_rfl) (by kernel_rfl)
theorem n54_12s : codeB Try.prog E cx n54_12 st = condS (codeB Try.prog E cx n54_13) (codeB Try.prog E cx n54_14) (lk st.σ 12) st := GE.cond_step (c := .tmp 12) (by kernel_rfl)
theorem n54_18s : codeB Try.prog E ⟨f, 27, b, ro⟩ n54_18 st = plainS (runOps Try.prog E b q54_18 (ops [true, true, false, true, false, false, true, true, false, false, false] Try.f54) st) := GE.region_step (id := 4) (GE.reg_of (by kernel_rfl)) (by kernel_rfl)
theorem n54_19s : codeB Try.prog E ⟨f, 27, b, ro⟩ n54_19 st = plainS (runOps Try.prog E b q54_19 (ops [true, true, false, true, false, false, true, true, false, false, true] Try.f54) st) := GE.region_step (id := 5) (GE.reg_of (by kernel_rfl)) (by kernel_rfl)
theorem n54_17s : codeB Try.prog E cx n54_17 st = thenS (codeB Try.prog E cx n54_18 st) (codeB Try.prog E cx n54_19) := GE.seq_step (by kernel_rfl)
theorem n54_16s : codeB Try.prog E cx n54_16 st = blockS 1 (codeB Try.prog E cx n54_17 st) st := GE.block_step (by kernel_rfl)
theorem n54_20s : codeB Try.prog E ⟨f, 27, b, ro⟩ n54_20 st = plainS (runOps Try.prog E b q54_20 (ops [true, true, false, true, false, false, true, true, true] Try.f54) st) := GE.region_step (id := 6) (GE.reg_of (by kernel_rfl)) (by kernel_rfl)
theorem n54_15s : codeB Try.prog E cx n54_15 st = thenS (codeB Try.prog E cx n54_16 st) (codeB Try.prog E cx n54_20) := GE.seq_step (by kernel_rfl)
theorem n54_11s : codeB Try.prog E cx n54_11 st = thenS (codeB Try.prog E cx n54_12 st) (codeB Try.prog E cx n54_15) := GE.seq_step (by kernel_rfl)
theorem n54_9s : codeB Try.prog E cx n54_9 st = thenS (codeB Try.prog E cx n54_10 st) (codeB Try.prog E cx n54_11) := GE.seq_step (by kernel_rfl)
theorem n54_8k : LL.kp (⟨54, 27, b, ro⟩ : Cx).fn (4 * rid n54_9 + 3) = some ⟨[0, 3, 10, 11], [⟨0, 0, 1, true⟩, ⟨3, 0, 1, true⟩]⟩ := by kernel_rfl
theorem n54_8s : codeB Try.prog LL ⟨54, 27, b, ro⟩ n54_8 st = headS b ⟨[0, 3, 10, 11], [⟨0, 0, 1, true⟩, ⟨3, 0, 1, true⟩]⟩ st (lpB Try.prog LL ⟨54, 27, b, ro⟩ n54_8 n54_9) := GE.lpB_step (by kernel_rfl) (n54_8k b ro)
theorem n54_8g : LL.code ⟨54, 27, b, ro⟩ n54_8 st = headS b ⟨[0, 3, 10, 11], [⟨0, 0, 1, true⟩, ⟨3, 0, 1, true⟩]⟩ st (lpB Try.prog LL ⟨54, 27, b, ro⟩ n54_8 n54_9) := GE.lpB_again (by kernel_rfl) (n54_8k b ro)
theorem n54_7s : codeB Try.prog E cx n54_7 st = blockS 0 (codeB Try.prog E cx n54_8 st) st := GE.block_step (by kernel_rfl)
theorem n54_5s : codeB Try.prog E cx n54_5 st = thenS (codeB Try.prog E cx n54_6 st) (codeB Try.prog E cx n54_7) := GE.seq_step (by kernel_rfl)
theorem n54_22s : codeB Try.prog E ⟨f, 27, b, ro⟩ n54_22 st = plainS (runOps Try.prog E b q54_22 (ops [true, true, true, false] Try.f54) st) := GE.region_step (id := 7) (GE.reg_of (by kernel_rfl)) (by kernel_rfl)
theorem n54_23s : codeB Try.prog LL ⟨54, 27, b, ro⟩ n54_23 st = normS b ⟨[2], [⟨2, 0, 1, true⟩]⟩ .ret st := GE.ret_step (by kernel_rfl) (by kernel_rfl)
theorem n54_21s : codeB Try.prog E cx n54_21 st = thenS (codeB Try.prog E cx n54_22 st) (codeB Try.prog E cx n54_23) := GE.seq_step (by kernel_rfl)
theorem n54_4s : codeB Try.prog E cx n54_4 st = thenS (codeB Try.prog E cx n54_5 st) (codeB Try.prog E cx n54_21) := GE.seq_step (by kernel_rfl)
theorem n54_2s : codeB Try.prog E cx n54_2 st = thenS (codeB Try.prog E cx n54_3 st) (codeB Try.prog E cx n54_4) := GE.seq_step (by kernel_rfl)
theorem n54_0s : codeB Try.prog E cx n54_0 st = thenS (codeB Try.prog E cx n54_1 st) (codeB Try.prog E cx n54_2) := GE.seq_step (by kernel_rfl)
noncomputable def n55_0 : Code := bodyOf Try.f55
noncomputable def n55_1 : Code := cl n55_0
noncomputable def q55_1 : List Oper := opsOf n55_1
noncomputable def n55_2 : Code := cr n55_0
noncomputable def n55_3 : Code := cl n55_2
noncomputable def q55_3 : List Oper := opsOf n55_3
noncomputable def n55_4 : Code := cr n55_2
noncomputable def n55_5 : Code := cl n55_4
noncomputable def n55_6 : Code := cl n55_5
noncomputable def q55_6 : List Oper := opsOf n55_6
noncomputable def n55_7 : Code := cr n55_5
noncomputable def n55_8 : Code := cl n55_7
noncomputable def n55_9 : Code := cl n55_8
noncomputable def n55_10 : Code := cl n55_9
noncomputable def n55_11 : Code := cl n55_10
noncomputable def q55_11 : List Oper := opsOf n55_11
noncomputable def n55_12 : Code := cr n55_10
noncomputable def n55_13 : Code := cl n55_12
noncomputable def n55_14 : Code := cr n55_12
noncomputable def n55_15 : Code := cr n55_9
noncomputable def n55_16 : Code := cl n55_15
noncomputable def n55_17 : Code := cl n55_16
noncomputable def q55_17 : List Oper := opsOf n55_17
noncomputable def n55_18 : Code := cr n55_15
noncomputable def q55_18 : List Oper := opsOf n55_18
noncomputable def n55_19 : Code := cr n55_4
noncomputable def n55_20 : Code := cl n55_19
noncomputable def q55_20 : List Oper := opsOf n55_20
noncomputable def n55_21 : Code := cr n55_19
theorem body55 : Try.f55.body = some n55_0 := by kernel_rfl
theorem run55 (E : Ev) (args : List Value) (h : List Blk) (hl : args.length ≤ 21) : runB Try.prog E 55 args h = endS Try.prog [.tmp 2] h.length (codeB Try.prog E ⟨55, 21, h.length, none⟩ n55_0 ⟨enumT 0 args, h, []⟩) := GE.run_step Try.func55 body55 (by kernel_rfl) (by decide) (by kernel_rfl) hl
theorem n55_1s : codeB Try.prog E ⟨f, 21, b, ro⟩ n55_1 st = plainS (runOps Try.prog E b q55_1 (ops [false] Try.f55) st) := GE.region_step (id := 0) (GE.reg_of (by kernel_rfl)) (by kernel_rfl)
theorem n55_3s : codeB Try.prog E ⟨f, 21, b, ro⟩ n55_3 st = plainS (runOps Try.prog E b q55_3 (ops [true, false] Try.f55) st) := GE.region_step (id := 1) (GE.reg_of (by kernel_rfl)) (by kernel_rfl)
theorem n55_6s : codeB Try.prog E ⟨f, 21, b, ro⟩ n55_6 st = plainS (runOps Try.prog E b q55_6 (ops [true, true, false, false] Try.f55) st) := GE.region_step (id := 2) (GE.reg_of (by kernel_rfl)) (by kernel_rfl)
theorem n55_11s : codeB Try.prog E ⟨f, 21, b, ro⟩ n55_11 st = plainS (runOps Try.prog E b q55_11 (ops [true, true, false, true, false, false, false, false] Try.f55) st) := GE.region_step (id := 3) (GE.reg_of (by kernel_rfl)) (by kernel_rfl)
theorem n55_13s : codeB Try.prog E cx n55_13 st = some (.normal, st) := GE.skip_step (by kernel_rfl)
theorem n55_14s : codeB Try.prog LL ⟨55, 21, b, ro⟩ n55_14 st = normS b ⟨[3], [⟨3, 0, 1, true⟩]⟩ (.exit 0) st := GE.exit_step (by kernel_rfl) (by kernel_rfl)
theorem n55_12s : codeB Try.prog E cx n55_12 st = condS (codeB Try.prog E cx n55_13) (codeB Try.prog E cx n55_14) (lk st.σ 8) st := GE.cond_step (c := .tmp 8) (by kernel_rfl)
theorem n55_10s : codeB Try.prog E cx n55_10 st = thenS (codeB Try.prog E cx n55_11 st) (codeB Try.prog E cx n55_12) := GE.seq_step (by kernel_rfl)
theorem n55_17s : codeB Try.prog E ⟨f, 21, b, ro⟩ n55_17 st = plainS (runOps Try.prog E b q55_17 (ops [true, true, false, true, false, false, true, false, false] Try.f55) st) := GE.region_step (id := 5) (GE.reg_of (by kernel_rfl)) (by kernel_rfl)
theorem n55_16s : codeB Try.prog E cx n55_16 st = blockS 1 (codeB Try.prog E cx n55_17 st) st := GE.block_step (by kernel_rfl)
theorem n55_18s : codeB Try.prog E ⟨f, 21, b, ro⟩ n55_18 st = plainS (runOps Try.prog E b q55_18 (ops [true, true, false, true, false, false, true, true] Try.f55) st) := GE.region_step (id := 4) (GE.reg_of (by kernel_rfl)) (by kernel_rfl)
theorem n55_15s : codeB Try.prog E cx n55_15 st = thenS (codeB Try.prog E cx n55_16 st) (codeB Try.prog E cx n55_18) := GE.seq_step (by kernel_rfl)
theorem n55_9s : codeB Try.prog E cx n55_9 st = thenS (codeB Try.prog E cx n55_10 st) (codeB Try.prog E cx n55_15) := GE.seq_step (by kernel_rfl)
theorem n55_8k : LL.kp (⟨55, 21, b, ro⟩ : Cx).fn (4 * rid n55_9 + 3) = some ⟨[0, 3, 4], [⟨0, 0, 1, true⟩, ⟨3, 0, 1, true⟩]⟩ := by kernel_rfl
theorem n55_8s : codeB Try.prog LL ⟨55, 21, b, ro⟩ n55_8 st = headS b ⟨[0, 3, 4], [⟨0, 0, 1, true⟩, ⟨3, 0, 1, true⟩]⟩ st (lpB Try.prog LL ⟨55, 21, b, ro⟩ n55_8 n55_9) := GE.lpB_step (by kernel_rfl) (n55_8k b ro)
theorem n55_8g : LL.code ⟨55, 21, b, ro⟩ n55_8 st = headS b ⟨[0, 3, 4], [⟨0, 0, 1, true⟩, ⟨3, 0, 1, true⟩]⟩ st (lpB Try.prog LL ⟨55, 21, b, ro⟩ n55_8 n55_9) := GE.lpB_again (by kernel_rfl) (n55_8k b ro)
theorem n55_7s : codeB Try.prog E cx n55_7 st = blockS 0 (codeB Try.prog E cx n55_8 st) st := GE.block_step (by kernel_rfl)
theorem n55_5s : codeB Try.prog E cx n55_5 st = thenS (codeB Try.prog E cx n55_6 st) (codeB Try.prog E cx n55_7) := GE.seq_step (by kernel_rfl)
theorem n55_20s : codeB Try.prog E ⟨f, 21, b, ro⟩ n55_20 st = plainS (runOps Try.prog E b q55_20 (ops [true, true, true, false] Try.f55) st) := GE.region_step (id := 6) (GE.reg_of (by kernel_rfl)) (by kernel_rfl)
theorem n55_21s : codeB Try.prog LL ⟨55, 21, b, ro⟩ n55_21 st = normS b ⟨[2], [⟨2, 0, 1, true⟩]⟩ .ret st := GE.ret_step (by kernel_rfl) (by kernel_rfl)
theorem n55_19s : codeB Try.prog E cx n55_19 st = thenS (codeB Try.prog E cx n55_20 st) (codeB Try.prog E cx n55_21) := GE.seq_step (by kernel_rfl)
theorem n55_4s : codeB Try.prog E cx n55_4 st = thenS (codeB Try.prog E cx n55_5 st) (codeB Try.prog E cx n55_19) := GE.seq_step (by kernel_rfl)
theorem n55_2s : codeB Try.prog E cx n55_2 st = thenS (codeB Try.prog E cx n55_3 st) (codeB Try.prog E cx n55_4) := GE.seq_step (by kernel_rfl)
theorem n55_0s : codeB Try.prog E cx n55_0 st = thenS (codeB Try.prog E cx n55_1 st) (codeB Try.prog E cx n55_2) := GE.seq_step (by kernel_rfl)
noncomputable def n59_0 : Code := bodyOf Try.f59
noncomputable def n59_1 : Code := cl n59_0
noncomputable def q59_1 : List Oper := opsOf n59_1
noncomputable def n59_2 : Code := cr n59_0
noncomputable def n59_3 : Code := cl n59_2
noncomputable def n59_4 : Code := cl n59_3
noncomputable def q59_4 : List Oper := opsOf n59_4
noncomputable def n59_5 : Code := cr n59_3
noncomputable def n59_6 : Code := cl n59_5
noncomputable def n59_7 : Code := cl n59_6
noncomputable def q59_7 : List Oper := opsOf n59_7
noncomputable def n59_8 : Code := cr n59_6
noncomputable def n59_9 : Code := cr n59_5
noncomputable def n59_10 : Code := cr n59_2
noncomputable def n59_11 : Code := cl n59_10
noncomputable def q59_11 : List Oper := opsOf n59_11
noncomputable def n59_12 : Code := cr n59_10
noncomputable def n59_13 : Code := cl n59_12
noncomputable def q59_13 : List Oper := opsOf n59_13
noncomputable def n59_14 : Code := cr n59_12
theorem body59 : Try.f59.body = some n59_0 := by kernel_rfl
theorem run59 (E : Ev) (args : List Value) (h : List Blk) (hl : args.length ≤ 21) : runB Try.prog E 59 args h = endS Try.prog [.tmp 4] h.length (codeB Try.prog E ⟨59, 21, h.length, none⟩ n59_0 ⟨enumT 0 args, h, []⟩) := GE.run_step Try.func59 body59 (by kernel_rfl) (by decide) (by kernel_rfl) hl
theorem n59_1s : codeB Try.prog E ⟨f, 21, b, ro⟩ n59_1 st = plainS (runOps Try.prog E b q59_1 (ops [false] Try.f59) st) := GE.region_step (id := 0) (GE.reg_of (by kernel_rfl)) (by kernel_rfl)
theorem n59_4s : codeB Try.prog E ⟨f, 21, b, ro⟩ n59_4 st = plainS (runOps Try.prog E b q59_4 (ops [true, false, false] Try.f59) st) := GE.region_step (id := 1) (GE.reg_of (by kernel_rfl)) (by kernel_rfl)
theorem n59_7s : codeB Try.prog E ⟨f, 21, b, ro⟩ n59_7 st = plainS (runOps Try.prog E b q59_7 (ops [true, false, true, false, false] Try.f59) st) := GE.region_step (id := 2) (GE.reg_of (by kernel_rfl)) (by kernel_rfl)
theorem n59_8s : codeB Try.prog LL ⟨59, 21, b, ro⟩ n59_8 st = normS b ⟨[4], [⟨4, 0, 1, true⟩]⟩ .ret st := GE.ret_step (by kernel_rfl) (by kernel_rfl)
theorem n59_6s : codeB Try.prog E cx n59_6 st = thenS (codeB Try.prog E cx n59_7 st) (codeB Try.prog E cx n59_8) := GE.seq_step (by kernel_rfl)
theorem n59_9s : codeB Try.prog E cx n59_9 st = some (.normal, st) := GE.skip_step (by kernel_rfl)
theorem n59_5s : codeB Try.prog E cx n59_5 st = condS (codeB Try.prog E cx n59_6) (codeB Try.prog E cx n59_9) (lk st.σ 9) st := GE.cond_step (c := .tmp 9) (by kernel_rfl)
theorem n59_3s : codeB Try.prog E cx n59_3 st = thenS (codeB Try.prog E cx n59_4 st) (codeB Try.prog E cx n59_5) := GE.seq_step (by kernel_rfl)
theorem n59_11s : codeB Try.prog E ⟨f, 21, b, ro⟩ n59_11 st = plainS (runOps Try.prog E b q59_11 (ops [true, true, false] Try.f59) st) := GE.region_step (id := 3) (GE.reg_of (by kernel_rfl)) (by kernel_rfl)
theorem n59_13s : codeB Try.prog E ⟨f, 21, b, ro⟩ n59_13 st = plainS (runOps Try.prog E b q59_13 (ops [true, true, true, false] Try.f59) st) := GE.region_step (id := 4) (GE.reg_of (by kernel_rfl)) (by kernel_rfl)
theorem n59_14s : codeB Try.prog LL ⟨59, 21, b, ro⟩ n59_14 st = normS b ⟨[4], [⟨4, 0, 1, true⟩]⟩ .ret st := GE.ret_step (by kernel_rfl) (by kernel_rfl)
theorem n59_12s : codeB Try.prog E cx n59_12 st = thenS (codeB Try.prog E cx n59_13 st) (codeB Try.prog E cx n59_14) := GE.seq_step (by kernel_rfl)
theorem n59_10s : codeB Try.prog E cx n59_10 st = thenS (codeB Try.prog E cx n59_11 st) (codeB Try.prog E cx n59_12) := GE.seq_step (by kernel_rfl)
theorem n59_2s : codeB Try.prog E cx n59_2 st = thenS (codeB Try.prog E cx n59_3 st) (codeB Try.prog E cx n59_10) := GE.seq_step (by kernel_rfl)
theorem n59_0s : codeB Try.prog E cx n59_0 st = thenS (codeB Try.prog E cx n59_1 st) (codeB Try.prog E cx n59_2) := GE.seq_step (by kernel_rfl)
noncomputable def n60_0 : Code := bodyOf Try.f60
noncomputable def n60_1 : Code := cl n60_0
noncomputable def q60_1 : List Oper := opsOf n60_1
noncomputable def n60_2 : Code := cr n60_0
noncomputable def n60_3 : Code := cl n60_2
noncomputable def n60_4 : Code := cl n60_3
noncomputable def n60_5 : Code := cl n60_4
noncomputable def n60_6 : Code := cl n60_5
noncomputable def n60_7 : Code := cl n60_6
noncomputable def q60_7 : List Oper := opsOf n60_7
noncomputable def n60_8 : Code := cr n60_6
noncomputable def n60_9 : Code := cl n60_8
noncomputable def n60_10 : Code := cr n60_8
noncomputable def n60_11 : Code := cr n60_5
noncomputable def n60_12 : Code := cl n60_11
noncomputable def n60_13 : Code := cl n60_12
noncomputable def q60_13 : List Oper := opsOf n60_13
noncomputable def n60_14 : Code := cr n60_12
noncomputable def q60_14 : List Oper := opsOf n60_14
noncomputable def n60_15 : Code := cr n60_2
noncomputable def n60_16 : Code := cl n60_15
noncomputable def q60_16 : List Oper := opsOf n60_16
noncomputable def n60_17 : Code := cr n60_15
theorem body60 : Try.f60.body = some n60_0 := by kernel_rfl
theorem run60 (E : Ev) (args : List Value) (h : List Blk) (hl : args.length ≤ 28) : runB Try.prog E 60 args h = endS Try.prog [.tmp 4] h.length (codeB Try.prog E ⟨60, 28, h.length, none⟩ n60_0 ⟨enumT 0 args, h, []⟩) := GE.run_step Try.func60 body60 (by kernel_rfl) (by decide) (by kernel_rfl) hl
theorem n60_1s : codeB Try.prog E ⟨f, 28, b, ro⟩ n60_1 st = plainS (runOps Try.prog E b q60_1 (ops [false] Try.f60) st) := GE.region_step (id := 0) (GE.reg_of (by kernel_rfl)) (by kernel_rfl)
theorem n60_7s : codeB Try.prog E ⟨f, 28, b, ro⟩ n60_7 st = plainS (runOps Try.prog E b q60_7 (ops [true, false, false, false, false, false] Try.f60) st) := GE.region_step (id := 1) (GE.reg_of (by kernel_rfl)) (by kernel_rfl)
theorem n60_9s : codeB Try.prog E cx n60_9 st = some (.normal, st) := GE.skip_step (by kernel_rfl)
theorem n60_10s : codeB Try.prog LL ⟨60, 28, b, ro⟩ n60_10 st = normS b ⟨[0], [⟨0, 0, 1, true⟩]⟩ (.exit 0) st := GE.exit_step (by kernel_rfl) (by kernel_rfl)
theorem n60_8s : codeB Try.prog E cx n60_8 st = condS (codeB Try.prog E cx n60_9) (codeB Try.prog E cx n60_10) (lk st.σ 9) st := GE.cond_step (c := .tmp 9) (by kernel_rfl)
theorem n60_6s : codeB Try.prog E cx n60_6 st = thenS (codeB Try.prog E cx n60_7 st) (codeB Try.prog E cx n60_8) := GE.seq_step (by kernel_rfl)
theorem n60_13s : codeB Try.prog E ⟨f, 28, b, ro⟩ n60_13 st = plainS (runOps Try.prog E b q60_13 (ops [true, false, false, false, true, false, false] Try.f60) st) := GE.region_step (id := 2) (GE.reg_of (by kernel_rfl)) (by kernel_rfl)
theorem n60_14s : codeB Try.prog E ⟨f, 28, b, ro⟩ n60_14 st = plainS (runOps Try.prog E b q60_14 (ops [true, false, false, false, true, false, true] Try.f60) st) := GE.region_step (id := 3) (GE.reg_of (by kernel_rfl)) (by kernel_rfl)
theorem n60_12s : codeB Try.prog E cx n60_12 st = thenS (codeB Try.prog E cx n60_13 st) (codeB Try.prog E cx n60_14) := GE.seq_step (by kernel_rfl)
theorem n60_11s : codeB Try.prog E cx n60_11 st = blockS 1 (codeB Try.prog E cx n60_12 st) st := GE.block_step (by kernel_rfl)
theorem n60_5s : codeB Try.prog E cx n60_5 st = thenS (codeB Try.prog E cx n60_6 st) (codeB Try.prog E cx n60_11) := GE.seq_step (by kernel_rfl)
theorem n60_4k : LL.kp (⟨60, 28, b, ro⟩ : Cx).fn (4 * rid n60_5 + 3) = some ⟨[0, 1], [⟨0, 0, 1, true⟩, ⟨1, 0, 1, true⟩]⟩ := by kernel_rfl
theorem n60_4s : codeB Try.prog LL ⟨60, 28, b, ro⟩ n60_4 st = headS b ⟨[0, 1], [⟨0, 0, 1, true⟩, ⟨1, 0, 1, true⟩]⟩ st (lpB Try.prog LL ⟨60, 28, b, ro⟩ n60_4 n60_5) := GE.lpB_step (by kernel_rfl) (n60_4k b ro)
theorem n60_4g : LL.code ⟨60, 28, b, ro⟩ n60_4 st = headS b ⟨[0, 1], [⟨0, 0, 1, true⟩, ⟨1, 0, 1, true⟩]⟩ st (lpB Try.prog LL ⟨60, 28, b, ro⟩ n60_4 n60_5) := GE.lpB_again (by kernel_rfl) (n60_4k b ro)
theorem n60_3s : codeB Try.prog E cx n60_3 st = blockS 0 (codeB Try.prog E cx n60_4 st) st := GE.block_step (by kernel_rfl)
theorem n60_16s : codeB Try.prog E ⟨f, 28, b, ro⟩ n60_16 st = drawS [0, 1, 0, 0, 8, 24, 60, 124, 255, 511, 1023] (runOpsF Try.prog E b q60_16 (ops [true, true, false] Try.f60) st) := GE.draw_step (id := 4) (GE.reg_of (by kernel_rfl)) (by kernel_rfl) (by kernel_rfl) (by kernel_rfl)
theorem n60_17s : codeB Try.prog LL ⟨60, 28, b, ro⟩ n60_17 st = normS b ⟨[4], [⟨4, 0, 1, true⟩]⟩ .ret st := GE.ret_step (by kernel_rfl) (by kernel_rfl)
theorem n60_15s : codeB Try.prog E cx n60_15 st = thenS (codeB Try.prog E cx n60_16 st) (codeB Try.prog E cx n60_17) := GE.seq_step (by kernel_rfl)
theorem n60_2s : codeB Try.prog E cx n60_2 st = thenS (codeB Try.prog E cx n60_3 st) (codeB Try.prog E cx n60_15) := GE.seq_step (by kernel_rfl)
theorem n60_0s : codeB Try.prog E cx n60_0 st = thenS (codeB Try.prog E cx n60_1 st) (codeB Try.prog E cx n60_2) := GE.seq_step (by kernel_rfl)
noncomputable def n62_0 : Code := bodyOf Try.f62
noncomputable def n62_1 : Code := cl n62_0
noncomputable def q62_1 : List Oper := opsOf n62_1
noncomputable def n62_2 : Code := cr n62_0
noncomputable def n62_3 : Code := cl n62_2
noncomputable def q62_3 : List Oper := opsOf n62_3
noncomputable def n62_4 : Code := cr n62_2
theorem body62 : Try.f62.body = some n62_0 := by kernel_rfl
theorem run62 (E : Ev) (args : List Value) (h : List Blk) (hl : args.length ≤ 4) : runB Try.prog E 62 args h = endS Try.prog [.tmp 2] h.length (codeB Try.prog E ⟨62, 4, h.length, none⟩ n62_0 ⟨enumT 0 args, h, []⟩) := GE.run_step Try.func62 body62 (by kernel_rfl) (by decide) (by kernel_rfl) hl
theorem n62_1s : codeB Try.prog E ⟨f, 4, b, ro⟩ n62_1 st = plainS (runOps Try.prog E b q62_1 (ops [false] Try.f62) st) := GE.region_step (id := 0) (GE.reg_of (by kernel_rfl)) (by kernel_rfl)
theorem n62_3s : codeB Try.prog E ⟨f, 4, b, ro⟩ n62_3 st = plainS (runOps Try.prog E b q62_3 (ops [true, false] Try.f62) st) := GE.region_step (id := 1) (GE.reg_of (by kernel_rfl)) (by kernel_rfl)
theorem n62_4s : codeB Try.prog LL ⟨62, 4, b, ro⟩ n62_4 st = normS b ⟨[2], []⟩ .ret st := GE.ret_step (by kernel_rfl) (by kernel_rfl)
theorem n62_2s : codeB Try.prog E cx n62_2 st = thenS (codeB Try.prog E cx n62_3 st) (codeB Try.prog E cx n62_4) := GE.seq_step (by kernel_rfl)
theorem n62_0s : codeB Try.prog E cx n62_0 st = thenS (codeB Try.prog E cx n62_1 st) (codeB Try.prog E cx n62_2) := GE.seq_step (by kernel_rfl)
noncomputable def n63_0 : Code := bodyOf Try.f63
noncomputable def n63_1 : Code := cl n63_0
noncomputable def q63_1 : List Oper := opsOf n63_1
noncomputable def n63_2 : Code := cr n63_0
noncomputable def n63_3 : Code := cl n63_2
noncomputable def q63_3 : List Oper := opsOf n63_3
noncomputable def n63_4 : Code := cr n63_2
theorem body63 : Try.f63.body = some n63_0 := by kernel_rfl
theorem run63 (E : Ev) (args : List Value) (h : List Blk) (hl : args.length ≤ 6) : runB Try.prog E 63 args h = endS Try.prog [.tmp 2] h.length (codeB Try.prog E ⟨63, 6, h.length, none⟩ n63_0 ⟨enumT 0 args, h, []⟩) := GE.run_step Try.func63 body63 (by kernel_rfl) (by decide) (by kernel_rfl) hl
theorem n63_1s : codeB Try.prog E ⟨f, 6, b, ro⟩ n63_1 st = plainS (runOps Try.prog E b q63_1 (ops [false] Try.f63) st) := GE.region_step (id := 0) (GE.reg_of (by kernel_rfl)) (by kernel_rfl)
theorem n63_3s : codeB Try.prog E ⟨f, 6, b, ro⟩ n63_3 st = plainS (runOps Try.prog E b q63_3 (ops [true, false] Try.f63) st) := GE.region_step (id := 1) (GE.reg_of (by kernel_rfl)) (by kernel_rfl)
theorem n63_4s : codeB Try.prog LL ⟨63, 6, b, ro⟩ n63_4 st = normS b ⟨[2], []⟩ .ret st := GE.ret_step (by kernel_rfl) (by kernel_rfl)
theorem n63_2s : codeB Try.prog E cx n63_2 st = thenS (codeB Try.prog E cx n63_3 st) (codeB Try.prog E cx n63_4) := GE.seq_step (by kernel_rfl)
theorem n63_0s : codeB Try.prog E cx n63_0 st = thenS (codeB Try.prog E cx n63_1 st) (codeB Try.prog E cx n63_2) := GE.seq_step (by kernel_rfl)
noncomputable def n64_0 : Code := bodyOf Try.f64
noncomputable def n64_1 : Code := cl n64_0
noncomputable def q64_1 : List Oper := opsOf n64_1
noncomputable def n64_2 : Code := cr n64_0
noncomputable def n64_3 : Code := cl n64_2
noncomputable def n64_4 : Code := cl n64_3
noncomputable def q64_4 : List Oper := opsOf n64_4
noncomputable def n64_5 : Code := cr n64_3
noncomputable def n64_6 : Code := cl n64_5
noncomputable def n64_7 : Code := cl n64_6
noncomputable def q64_7 : List Oper := opsOf n64_7
noncomputable def n64_8 : Code := cr n64_6
noncomputable def n64_9 : Code := cr n64_5
noncomputable def n64_10 : Code := cr n64_2
noncomputable def n64_11 : Code := cl n64_10
noncomputable def n64_12 : Code := cl n64_11
noncomputable def q64_12 : List Oper := opsOf n64_12
noncomputable def n64_13 : Code := cr n64_11
noncomputable def n64_14 : Code := cl n64_13
noncomputable def n64_15 : Code := cl n64_14
noncomputable def q64_15 : List Oper := opsOf n64_15
noncomputable def n64_16 : Code := cr n64_14
noncomputable def n64_17 : Code := cr n64_13
noncomputable def n64_18 : Code := cr n64_10
noncomputable def n64_19 : Code := cl n64_18
noncomputable def q64_19 : List Oper := opsOf n64_19
noncomputable def n64_20 : Code := cr n64_18
theorem body64 : Try.f64.body = some n64_0 := by kernel_rfl
theorem run64 (E : Ev) (args : List Value) (h : List Blk) (hl : args.length ≤ 7) : runB Try.prog E 64 args h = endS Try.prog [.tmp 2] h.length (codeB Try.prog E ⟨64, 7, h.length, none⟩ n64_0 ⟨enumT 0 args, h, []⟩) := GE.run_step Try.func64 body64 (by kernel_rfl) (by decide) (by kernel_rfl) hl
theorem n64_1s : codeB Try.prog E ⟨f, 7, b, ro⟩ n64_1 st = plainS (runOps Try.prog E b q64_1 (ops [false] Try.f64) st) := GE.region_step (id := 0) (GE.reg_of (by kernel_rfl)) (by kernel_rfl)
theorem n64_4s : codeB Try.prog E ⟨f, 7, b, ro⟩ n64_4 st = plainS (runOps Try.prog E b q64_4 (ops [true, false, false] Try.f64) st) := GE.region_step (id := 1) (GE.reg_of (by kernel_rfl)) (by kernel_rfl)
theorem n64_7s : codeB Try.prog E ⟨f, 7, b, ro⟩ n64_7 st = plainS (runOps Try.prog E b q64_7 (ops [true, false, true, false, false] Try.f64) st) := GE.region_step (id := 2) (GE.reg_of (by kernel_rfl)) (by kernel_rfl)
theorem n64_8s : codeB Try.prog LL ⟨64, 7, b, ro⟩ n64_8 st = normS b ⟨[2], []⟩ .ret st := GE.ret_step (by kernel_rfl) (by kernel_rfl)
theorem n64_6s : codeB Try.prog E cx n64_6 st = thenS (codeB Try.prog E cx n64_7 st) (codeB Try.prog E cx n64_8) := GE.seq_step (by kernel_rfl)
theorem n64_9s : codeB Try.prog E cx n64_9 st = some (.normal, st) := GE.skip_step (by kernel_rfl)
theorem n64_5s : codeB Try.prog E cx n64_5 st = condS (codeB Try.prog E cx n64_6) (codeB Try.prog E cx n64_9) (lk st.σ 4) st := GE.cond_step (c := .tmp 4) (by kernel_rfl)
theorem n64_3s : codeB Try.prog E cx n64_3 st = thenS (codeB Try.prog E cx n64_4 st) (codeB Try.prog E cx n64_5) := GE.seq_step (by kernel_rfl)
theorem n64_12s : codeB Try.prog E ⟨f, 7, b, ro⟩ n64_12 st = plainS (runOps Try.prog E b q64_12 (ops [true, true, false, false] Try.f64) st) := GE.region_step (id := 3) (GE.reg_of (by kernel_rfl)) (by kernel_rfl)
theorem n64_15s : codeB Try.prog E ⟨f, 7, b, ro⟩ n64_15 st = plainS (runOps Try.prog E b q64_15 (ops [true, true, false, true, false, false] Try.f64) st) := GE.region_step (id := 4) (GE.reg_of (by kernel_rfl)) (by kernel_rfl)
theorem n64_16s : codeB Try.prog LL ⟨64, 7, b, ro⟩ n64_16 st = normS b ⟨[2], []⟩ .ret st := GE.ret_step (by kernel_rfl) (by kernel_rfl)
theorem n64_14s : codeB Try.prog E cx n64_14 st = thenS (codeB Try.prog E cx n64_15 st) (codeB Try.prog E cx n64_16) := GE.seq_step (by kernel_rfl)
theorem n64_17s : codeB Try.prog E cx n64_17 st = some (.normal, st) := GE.skip_step (by kernel_rfl)
theorem n64_13s : codeB Try.prog E cx n64_13 st = condS (codeB Try.prog E cx n64_14) (codeB Try.prog E cx n64_17) (lk st.σ 6) st := GE.cond_step (c := .tmp 6) (by kernel_rfl)
theorem n64_11s : codeB Try.prog E cx n64_11 st = thenS (codeB Try.prog E cx n64_12 st) (codeB Try.prog E cx n64_13) := GE.seq_step (by kernel_rfl)
theorem n64_19s : codeB Try.prog E ⟨f, 7, b, ro⟩ n64_19 st = plainS (runOps Try.prog E b q64_19 (ops [true, true, true, false] Try.f64) st) := GE.region_step (id := 5) (GE.reg_of (by kernel_rfl)) (by kernel_rfl)
theorem n64_20s : codeB Try.prog LL ⟨64, 7, b, ro⟩ n64_20 st = normS b ⟨[2], []⟩ .ret st := GE.ret_step (by kernel_rfl) (by kernel_rfl)
theorem n64_18s : codeB Try.prog E cx n64_18 st = thenS (codeB Try.prog E cx n64_19 st) (codeB Try.prog E cx n64_20) := GE.seq_step (by kernel_rfl)
theorem n64_10s : codeB Try.prog E cx n64_10 st = thenS (codeB Try.prog E cx n64_11 st) (codeB Try.prog E cx n64_18) := GE.seq_step (by kernel_rfl)
theorem n64_2s : codeB Try.prog E cx n64_2 st = thenS (codeB Try.prog E cx n64_3 st) (codeB Try.prog E cx n64_10) := GE.seq_step (by kernel_rfl)
theorem n64_0s : codeB Try.prog E cx n64_0 st = thenS (codeB Try.prog E cx n64_1 st) (codeB Try.prog E cx n64_2) := GE.seq_step (by kernel_rfl)
noncomputable def n65_0 : Code := bodyOf Try.f65
noncomputable def n65_1 : Code := cl n65_0
noncomputable def q65_1 : List Oper := opsOf n65_1
noncomputable def n65_2 : Code := cr n65_0
noncomputable def n65_3 : Code := cl n65_2
noncomputable def q65_3 : List Oper := opsOf n65_3
noncomputable def n65_4 : Code := cr n65_2
noncomputable def n65_5 : Code := cl n65_4
noncomputable def n65_6 : Code := cl n65_5
noncomputable def n65_7 : Code := cl n65_6
noncomputable def n65_8 : Code := cl n65_7
noncomputable def n65_9 : Code := cl n65_8
noncomputable def q65_9 : List Oper := opsOf n65_9
noncomputable def n65_10 : Code := cr n65_8
noncomputable def n65_11 : Code := cl n65_10
noncomputable def n65_12 : Code := cr n65_10
noncomputable def n65_13 : Code := cr n65_7
noncomputable def n65_14 : Code := cl n65_13
noncomputable def n65_15 : Code := cl n65_14
noncomputable def q65_15 : List Oper := opsOf n65_15
noncomputable def n65_16 : Code := cr n65_14
noncomputable def n65_17 : Code := cl n65_16
noncomputable def n65_18 : Code := cl n65_17
noncomputable def q65_18 : List Oper := opsOf n65_18
noncomputable def n65_19 : Code := cr n65_17
noncomputable def n65_20 : Code := cl n65_19
noncomputable def q65_20 : List Oper := opsOf n65_20
noncomputable def n65_21 : Code := cr n65_19
noncomputable def n65_22 : Code := cr n65_16
noncomputable def n65_23 : Code := cl n65_22
noncomputable def q65_23 : List Oper := opsOf n65_23
noncomputable def n65_24 : Code := cr n65_22
noncomputable def n65_25 : Code := cl n65_24
noncomputable def q65_25 : List Oper := opsOf n65_25
noncomputable def n65_26 : Code := cr n65_24
noncomputable def n65_27 : Code := cl n65_26
noncomputable def q65_27 : List Oper := opsOf n65_27
noncomputable def n65_28 : Code := cr n65_26
noncomputable def n65_29 : Code := cl n65_28
noncomputable def n65_30 : Code := cl n65_29
noncomputable def q65_30 : List Oper := opsOf n65_30
noncomputable def n65_31 : Code := cr n65_29
noncomputable def n65_32 : Code := cl n65_31
noncomputable def n65_33 : Code := cl n65_32
noncomputable def n65_34 : Code := cl n65_33
noncomputable def q65_34 : List Oper := opsOf n65_34
noncomputable def n65_35 : Code := cr n65_33
noncomputable def n65_36 : Code := cl n65_35
noncomputable def n65_37 : Code := cl n65_36
noncomputable def n65_38 : Code := cr n65_36
noncomputable def n65_39 : Code := cr n65_35
noncomputable def n65_40 : Code := cl n65_39
noncomputable def n65_41 : Code := cl n65_40
noncomputable def n65_42 : Code := cl n65_41
noncomputable def q65_42 : List Oper := opsOf n65_42
noncomputable def n65_43 : Code := cr n65_41
noncomputable def q65_43 : List Oper := opsOf n65_43
noncomputable def n65_44 : Code := cr n65_39
noncomputable def q65_44 : List Oper := opsOf n65_44
noncomputable def n65_45 : Code := cr n65_28
noncomputable def q65_45 : List Oper := opsOf n65_45
noncomputable def n65_46 : Code := cr n65_4
noncomputable def n65_47 : Code := cl n65_46
noncomputable def q65_47 : List Oper := opsOf n65_47
noncomputable def n65_48 : Code := cr n65_46
theorem body65 : Try.f65.body = some n65_0 := by kernel_rfl
theorem run65 (E : Ev) (args : List Value) (h : List Blk) (hl : args.length ≤ 76) : runB Try.prog E 65 args h = endS Try.prog [.tmp 4, .tmp 5] h.length (codeB Try.prog E ⟨65, 76, h.length, none⟩ n65_0 ⟨enumT 0 args, h, []⟩) := GE.run_step Try.func65 body65 (by kernel_rfl) (by decide) (by kernel_rfl) hl
theorem n65_1s : codeB Try.prog E ⟨f, 76, b, ro⟩ n65_1 st = plainS (runOps Try.prog E b q65_1 (ops [false] Try.f65) st) := GE.region_step (id := 0) (GE.reg_of (by kernel_rfl)) (by kernel_rfl)
theorem n65_3s : codeB Try.prog E ⟨f, 76, b, ro⟩ n65_3 st = plainS (runOps Try.prog E b q65_3 (ops [true, false] Try.f65) st) := GE.region_step (id := 1) (GE.reg_of (by kernel_rfl)) (by kernel_rfl)
theorem n65_9s : codeB Try.prog E ⟨f, 76, b, ro⟩ n65_9 st = plainS (runOps Try.prog E b q65_9 (ops [true, true, false, false, false, false, false] Try.f65) st) := GE.region_step (id := 2) (GE.reg_of (by kernel_rfl)) (by kernel_rfl)
theorem n65_11s : codeB Try.prog E cx n65_11 st = some (.normal, st) := GE.skip_step (by kernel_rfl)
theorem n65_12s : codeB Try.prog LL ⟨65, 76, b, ro⟩ n65_12 st = normS b ⟨[0, 4], [⟨0, 0, 1, true⟩]⟩ (.exit 0) st := GE.exit_step (by kernel_rfl) (by kernel_rfl)
theorem n65_10s : codeB Try.prog E cx n65_10 st = condS (codeB Try.prog E cx n65_11) (codeB Try.prog E cx n65_12) (lk st.σ 21) st := GE.cond_step (c := .tmp 21) (by kernel_rfl)
theorem n65_8s : codeB Try.prog E cx n65_8 st = thenS (codeB Try.prog E cx n65_9 st) (codeB Try.prog E cx n65_10) := GE.seq_step (by kernel_rfl)
theorem n65_15s : codeB Try.prog E ⟨f, 76, b, ro⟩ n65_15 st = plainS (runOps Try.prog E b q65_15 (ops [true, true, false, false, false, true, false, false] Try.f65) st) := GE.region_step (id := 3) (GE.reg_of (by kernel_rfl)) (by kernel_rfl)
theorem n65_18s : codeB Try.prog E ⟨f, 76, b, ro⟩ n65_18 st = plainS (runOps Try.prog E b q65_18 (ops [true, true, false, false, false, true, false, true, false, false] Try.f65) st) := GE.region_step (id := 4) (GE.reg_of (by kernel_rfl)) (by kernel_rfl)
theorem n65_20s : codeB Try.prog E ⟨f, 76, b, ro⟩ n65_20 st = plainS (runOps Try.prog E b q65_20 (ops [true, true, false, false, false, true, false, true, false, true, false] Try.f65) st) := GE.region_step (id := 5) (GE.reg_of (by kernel_rfl)) (by kernel_rfl)
theorem n65_21s : codeB Try.prog E cx n65_21 st = some (.normal, st) := GE.skip_step (by kernel_rfl)
theorem n65_19s : codeB Try.prog E cx n65_19 st = condS (codeB Try.prog E cx n65_20) (codeB Try.prog E cx n65_21) (lk st.σ 28) st := GE.cond_step (c := .tmp 28) (by kernel_rfl)
theorem n65_17s : codeB Try.prog E cx n65_17 st = thenS (codeB Try.prog E cx n65_18 st) (codeB Try.prog E cx n65_19) := GE.seq_step (by kernel_rfl)
theorem n65_23s : codeB Try.prog E ⟨f, 76, b, ro⟩ n65_23 st = plainS (runOps Try.prog E b q65_23 (ops [true, true, false, false, false, true, false, true, true, false] Try.f65) st) := GE.region_step (id := 6) (GE.reg_of (by kernel_rfl)) (by kernel_rfl)
theorem n65_25s : codeB Try.prog E ⟨f, 76, b, ro⟩ n65_25 st = plainS (runOps Try.prog E b q65_25 (ops [true, true, false, false, false, true, false, true, true, true, false] Try.f65) st) := GE.region_step (id := 7) (GE.reg_of (by kernel_rfl)) (by kernel_rfl)
theorem n65_27s : codeB Try.prog E ⟨f, 76, b, ro⟩ n65_27 st = plainS (runOps Try.prog E b q65_27 (ops [true, true, false, false, false, true, false, true, true, true, true, false] Try.f65) st) := GE.region_step (id := 8) (GE.reg_of (by kernel_rfl)) (by kernel_rfl)
theorem n65_30s : codeB Try.prog E ⟨f, 76, b, ro⟩ n65_30 st = plainS (runOps Try.prog E b q65_30 (ops [true, true, false, false, false, true, false, true, true, true, true, true, false, false] Try.f65) st) := GE.region_step (id := 9) (GE.reg_of (by kernel_rfl)) (by kernel_rfl)
theorem n65_34s : codeB Try.prog E ⟨f, 76, b, ro⟩ n65_34 st = plainS (runOps Try.prog E b q65_34 (ops [true, true, false, false, false, true, false, true, true, true, true, true, false, true, false, false, false] Try.f65) st) := GE.region_step (id := 10) (GE.reg_of (by kernel_rfl)) (by kernel_rfl)
theorem n65_37s : codeB Try.prog E cx n65_37 st = some (.normal, st) := GE.skip_step (by kernel_rfl)
theorem n65_38s : codeB Try.prog LL ⟨65, 76, b, ro⟩ n65_38 st = normS b ⟨[0, 1, 4, 6], [⟨0, 0, 1, true⟩, ⟨1, 0, 1, true⟩, ⟨4, 0, 1, true⟩]⟩ (.exit 2) st := GE.exit_step (by kernel_rfl) (by kernel_rfl)
theorem n65_36s : codeB Try.prog E cx n65_36 st = condS (codeB Try.prog E cx n65_37) (codeB Try.prog E cx n65_38) (lk st.σ 54) st := GE.cond_step (c := .tmp 54) (by kernel_rfl)
theorem n65_42s : codeB Try.prog E ⟨f, 76, b, ro⟩ n65_42 st = plainS (runOps Try.prog E b q65_42 (ops [true, true, false, false, false, true, false, true, true, true, true, true, false, true, false, false, true, true, false, false, false] Try.f65) st) := GE.region_step (id := 11) (GE.reg_of (by kernel_rfl)) (by kernel_rfl)
theorem n65_43s : codeB Try.prog E ⟨f, 76, b, ro⟩ n65_43 st = plainS (runOps Try.prog E b q65_43 (ops [true, true, false, false, false, true, false, true, true, true, true, true, false, true, false, false, true, true, false, false, true] Try.f65) st) := GE.region_step (id := 12) (GE.reg_of (by kernel_rfl)) (by kernel_rfl)
theorem n65_41s : codeB Try.prog E cx n65_41 st = thenS (codeB Try.prog E cx n65_42 st) (codeB Try.prog E cx n65_43) := GE.seq_step (by kernel_rfl)
theorem n65_40s : codeB Try.prog E cx n65_40 st = blockS 3 (codeB Try.prog E cx n65_41 st) st := GE.block_step (by kernel_rfl)
theorem n65_44s : codeB Try.prog E ⟨f, 76, b, ro⟩ n65_44 st = plainS (runOps Try.prog E b q65_44 (ops [true, true, false, false, false, true, false, true, true, true, true, true, false, true, false, false, true, true, true] Try.f65) st) := GE.region_step (id := 13) (GE.reg_of (by kernel_rfl)) (by kernel_rfl)
theorem n65_39s : codeB Try.prog E cx n65_39 st = thenS (codeB Try.prog E cx n65_40 st) (codeB Try.prog E cx n65_44) := GE.seq_step (by kernel_rfl)
theorem n65_35s : codeB Try.prog E cx n65_35 st = thenS (codeB Try.prog E cx n65_36 st) (codeB Try.prog E cx n65_39) := GE.seq_step (by kernel_rfl)
theorem n65_33s : codeB Try.prog E cx n65_33 st = thenS (codeB Try.prog E cx n65_34 st) (codeB Try.prog E cx n65_35) := GE.seq_step (by kernel_rfl)
theorem n65_32k : LL.kp (⟨65, 76, b, ro⟩ : Cx).fn (4 * rid n65_33 + 3) = some ⟨[7, 8, 51, 52, 53, 0, 1, 4, 6], [⟨51, 0, 1, true⟩, ⟨0, 0, 1, true⟩, ⟨1, 0, 1, true⟩, ⟨4, 0, 1, true⟩]⟩ := by kernel_rfl
theorem n65_32s : codeB Try.prog LL ⟨65, 76, b, ro⟩ n65_32 st = headS b ⟨[7, 8, 51, 52, 53, 0, 1, 4, 6], [⟨51, 0, 1, true⟩, ⟨0, 0, 1, true⟩, ⟨1, 0, 1, true⟩, ⟨4, 0, 1, true⟩]⟩ st (lpB Try.prog LL ⟨65, 76, b, ro⟩ n65_32 n65_33) := GE.lpB_step (by kernel_rfl) (n65_32k b ro)
theorem n65_32g : LL.code ⟨65, 76, b, ro⟩ n65_32 st = headS b ⟨[7, 8, 51, 52, 53, 0, 1, 4, 6], [⟨51, 0, 1, true⟩, ⟨0, 0, 1, true⟩, ⟨1, 0, 1, true⟩, ⟨4, 0, 1, true⟩]⟩ st (lpB Try.prog LL ⟨65, 76, b, ro⟩ n65_32 n65_33) := GE.lpB_again (by kernel_rfl) (n65_32k b ro)
theorem n65_31s : codeB Try.prog E cx n65_31 st = blockS 2 (codeB Try.prog E cx n65_32 st) st := GE.block_step (by kernel_rfl)
theorem n65_29s : codeB Try.prog E cx n65_29 st = thenS (codeB Try.prog E cx n65_30 st) (codeB Try.prog E cx n65_31) := GE.seq_step (by kernel_rfl)
theorem n65_45s : codeB Try.prog E ⟨f, 76, b, ro⟩ n65_45 st = plainS (runOps Try.prog E b q65_45 (ops [true, true, false, false, false, true, false, true, true, true, true, true, true] Try.f65) st) := GE.region_step (id := 14) (GE.reg_of (by kernel_rfl)) (by kernel_rfl)
theorem n65_28s : codeB Try.prog E cx n65_28 st = thenS (codeB Try.prog E cx n65_29 st) (codeB Try.prog E cx n65_45) := GE.seq_step (by kernel_rfl)
theorem n65_26s : codeB Try.prog E cx n65_26 st = thenS (codeB Try.prog E cx n65_27 st) (codeB Try.prog E cx n65_28) := GE.seq_step (by kernel_rfl)
theorem n65_24s : codeB Try.prog E cx n65_24 st = thenS (codeB Try.prog E cx n65_25 st) (codeB Try.prog E cx n65_26) := GE.seq_step (by kernel_rfl)
theorem n65_22s : codeB Try.prog E cx n65_22 st = thenS (codeB Try.prog E cx n65_23 st) (codeB Try.prog E cx n65_24) := GE.seq_step (by kernel_rfl)
theorem n65_16s : codeB Try.prog E cx n65_16 st = thenS (codeB Try.prog E cx n65_17 st) (codeB Try.prog E cx n65_22) := GE.seq_step (by kernel_rfl)
theorem n65_14s : codeB Try.prog E cx n65_14 st = thenS (codeB Try.prog E cx n65_15 st) (codeB Try.prog E cx n65_16) := GE.seq_step (by kernel_rfl)
theorem n65_13s : codeB Try.prog E cx n65_13 st = blockS 1 (codeB Try.prog E cx n65_14 st) st := GE.block_step (by kernel_rfl)
theorem n65_7s : codeB Try.prog E cx n65_7 st = thenS (codeB Try.prog E cx n65_8 st) (codeB Try.prog E cx n65_13) := GE.seq_step (by kernel_rfl)
theorem n65_6k : LL.kp (⟨65, 76, b, ro⟩ : Cx).fn (4 * rid n65_7 + 3) = some ⟨[0, 1, 4, 6], [⟨0, 0, 1, true⟩, ⟨1, 0, 1, true⟩]⟩ := by kernel_rfl
theorem n65_6s : codeB Try.prog LL ⟨65, 76, b, ro⟩ n65_6 st = headS b ⟨[0, 1, 4, 6], [⟨0, 0, 1, true⟩, ⟨1, 0, 1, true⟩]⟩ st (lpB Try.prog LL ⟨65, 76, b, ro⟩ n65_6 n65_7) := GE.lpB_step (by kernel_rfl) (n65_6k b ro)
theorem n65_6g : LL.code ⟨65, 76, b, ro⟩ n65_6 st = headS b ⟨[0, 1, 4, 6], [⟨0, 0, 1, true⟩, ⟨1, 0, 1, true⟩]⟩ st (lpB Try.prog LL ⟨65, 76, b, ro⟩ n65_6 n65_7) := GE.lpB_again (by kernel_rfl) (n65_6k b ro)
theorem n65_5s : codeB Try.prog E cx n65_5 st = blockS 0 (codeB Try.prog E cx n65_6 st) st := GE.block_step (by kernel_rfl)
theorem n65_47s : codeB Try.prog E ⟨f, 76, b, ro⟩ n65_47 st = plainS (runOps Try.prog E b q65_47 (ops [true, true, true, false] Try.f65) st) := GE.region_step (id := 15) (GE.reg_of (by kernel_rfl)) (by kernel_rfl)
theorem n65_48s : codeB Try.prog LL ⟨65, 76, b, ro⟩ n65_48 st = normS b ⟨[4, 5], [⟨4, 0, 1, true⟩, ⟨5, 0, 1, true⟩]⟩ .ret st := GE.ret_step (by kernel_rfl) (by kernel_rfl)
theorem n65_46s : codeB Try.prog E cx n65_46 st = thenS (codeB Try.prog E cx n65_47 st) (codeB Try.prog E cx n65_48) := GE.seq_step (by kernel_rfl)
theorem n65_4s : codeB Try.prog E cx n65_4 st = thenS (codeB Try.prog E cx n65_5 st) (codeB Try.prog E cx n65_46) := GE.seq_step (by kernel_rfl)
theorem n65_2s : codeB Try.prog E cx n65_2 st = thenS (codeB Try.prog E cx n65_3 st) (codeB Try.prog E cx n65_4) := GE.seq_step (by kernel_rfl)
theorem n65_0s : codeB Try.prog E cx n65_0 st = thenS (codeB Try.prog E cx n65_1 st) (codeB Try.prog E cx n65_2) := GE.seq_step (by kernel_rfl)
noncomputable def n66_0 : Code := bodyOf Try.f66
noncomputable def n66_1 : Code := cl n66_0
noncomputable def q66_1 : List Oper := opsOf n66_1
noncomputable def n66_2 : Code := cr n66_0
noncomputable def n66_3 : Code := cl n66_2
noncomputable def q66_3 : List Oper := opsOf n66_3
noncomputable def n66_4 : Code := cr n66_2
noncomputable def n66_5 : Code := cl n66_4
noncomputable def n66_6 : Code := cl n66_5
noncomputable def q66_6 : List Oper := opsOf n66_6
noncomputable def n66_7 : Code := cr n66_5
noncomputable def n66_8 : Code := cl n66_7
noncomputable def n66_9 : Code := cl n66_8
noncomputable def n66_10 : Code := cl n66_9
noncomputable def q66_10 : List Oper := opsOf n66_10
noncomputable def n66_11 : Code := cr n66_9
noncomputable def n66_12 : Code := cl n66_11
noncomputable def n66_13 : Code := cl n66_12
noncomputable def n66_14 : Code := cr n66_12
noncomputable def n66_15 : Code := cr n66_11
noncomputable def n66_16 : Code := cl n66_15
noncomputable def n66_17 : Code := cl n66_16
noncomputable def n66_18 : Code := cl n66_17
noncomputable def q66_18 : List Oper := opsOf n66_18
noncomputable def n66_19 : Code := cr n66_17
noncomputable def q66_19 : List Oper := opsOf n66_19
noncomputable def n66_20 : Code := cr n66_15
noncomputable def q66_20 : List Oper := opsOf n66_20
noncomputable def n66_21 : Code := cr n66_4
noncomputable def n66_22 : Code := cl n66_21
noncomputable def q66_22 : List Oper := opsOf n66_22
noncomputable def n66_23 : Code := cr n66_21
theorem body66 : Try.f66.body = some n66_0 := by kernel_rfl
theorem run66 (E : Ev) (args : List Value) (h : List Blk) (hl : args.length ≤ 26) : runB Try.prog E 66 args h = endS Try.prog [.tmp 4] h.length (codeB Try.prog E ⟨66, 26, h.length, none⟩ n66_0 ⟨enumT 0 args, h, []⟩) := GE.run_step Try.func66 body66 (by kernel_rfl) (by decide) (by kernel_rfl) hl
theorem n66_1s : codeB Try.prog E ⟨f, 26, b, ro⟩ n66_1 st = plainS (runOps Try.prog E b q66_1 (ops [false] Try.f66) st) := GE.region_step (id := 0) (GE.reg_of (by kernel_rfl)) (by kernel_rfl)
theorem n66_3s : codeB Try.prog E ⟨f, 26, b, ro⟩ n66_3 st = plainS (runOps Try.prog E b q66_3 (ops [true, false] Try.f66) st) := GE.region_step (id := 1) (GE.reg_of (by kernel_rfl)) (by kernel_rfl)
theorem n66_6s : codeB Try.prog E ⟨f, 26, b, ro⟩ n66_6 st = plainS (runOps Try.prog E b q66_6 (ops [true, true, false, false] Try.f66) st) := GE.region_step (id := 2) (GE.reg_of (by kernel_rfl)) (by kernel_rfl)
theorem n66_10s : codeB Try.prog E ⟨f, 26, b, ro⟩ n66_10 st = plainS (runOps Try.prog E b q66_10 (ops [true, true, false, true, false, false, false] Try.f66) st) := GE.region_step (id := 3) (GE.reg_of (by kernel_rfl)) (by kernel_rfl)
theorem n66_13s : codeB Try.prog E cx n66_13 st = some (.normal, st) := GE.skip_step (by kernel_rfl)
theorem n66_14s : codeB Try.prog LL ⟨66, 26, b, ro⟩ n66_14 st = normS b ⟨[5], [⟨5, 0, 1, true⟩]⟩ (.exit 0) st := GE.exit_step (by kernel_rfl) (by kernel_rfl)
theorem n66_12s : codeB Try.prog E cx n66_12 st = condS (codeB Try.prog E cx n66_13) (codeB Try.prog E cx n66_14) (lk st.σ 14) st := GE.cond_step (c := .tmp 14) (by kernel_rfl)
theorem n66_18s : codeB Try.prog E ⟨f, 26, b, ro⟩ n66_18 st = plainS (runOps Try.prog E b q66_18 (ops [true, true, false, true, false, false, true, true, false, false, false] Try.f66) st) := GE.region_step (id := 4) (GE.reg_of (by kernel_rfl)) (by kernel_rfl)
theorem n66_19s : codeB Try.prog E ⟨f, 26, b, ro⟩ n66_19 st = plainS (runOps Try.prog E b q66_19 (ops [true, true, false, true, false, false, true, true, false, false, true] Try.f66) st) := GE.region_step (id := 5) (GE.reg_of (by kernel_rfl)) (by kernel_rfl)
theorem n66_17s : codeB Try.prog E cx n66_17 st = thenS (codeB Try.prog E cx n66_18 st) (codeB Try.prog E cx n66_19) := GE.seq_step (by kernel_rfl)
theorem n66_16s : codeB Try.prog E cx n66_16 st = blockS 1 (codeB Try.prog E cx n66_17 st) st := GE.block_step (by kernel_rfl)
theorem n66_20s : codeB Try.prog E ⟨f, 26, b, ro⟩ n66_20 st = plainS (runOps Try.prog E b q66_20 (ops [true, true, false, true, false, false, true, true, true] Try.f66) st) := GE.region_step (id := 6) (GE.reg_of (by kernel_rfl)) (by kernel_rfl)
theorem n66_15s : codeB Try.prog E cx n66_15 st = thenS (codeB Try.prog E cx n66_16 st) (codeB Try.prog E cx n66_20) := GE.seq_step (by kernel_rfl)
theorem n66_11s : codeB Try.prog E cx n66_11 st = thenS (codeB Try.prog E cx n66_12 st) (codeB Try.prog E cx n66_15) := GE.seq_step (by kernel_rfl)
theorem n66_9s : codeB Try.prog E cx n66_9 st = thenS (codeB Try.prog E cx n66_10 st) (codeB Try.prog E cx n66_11) := GE.seq_step (by kernel_rfl)
theorem n66_8k : LL.kp (⟨66, 26, b, ro⟩ : Cx).fn (4 * rid n66_9 + 3) = some ⟨[1, 5, 11, 12, 13], [⟨5, 0, 1, true⟩, ⟨11, 0, 1, true⟩]⟩ := by kernel_rfl
theorem n66_8s : codeB Try.prog LL ⟨66, 26, b, ro⟩ n66_8 st = headS b ⟨[1, 5, 11, 12, 13], [⟨5, 0, 1, true⟩, ⟨11, 0, 1, true⟩]⟩ st (lpB Try.prog LL ⟨66, 26, b, ro⟩ n66_8 n66_9) := GE.lpB_step (by kernel_rfl) (n66_8k b ro)
theorem n66_8g : LL.code ⟨66, 26, b, ro⟩ n66_8 st = headS b ⟨[1, 5, 11, 12, 13], [⟨5, 0, 1, true⟩, ⟨11, 0, 1, true⟩]⟩ st (lpB Try.prog LL ⟨66, 26, b, ro⟩ n66_8 n66_9) := GE.lpB_again (by kernel_rfl) (n66_8k b ro)
theorem n66_7s : codeB Try.prog E cx n66_7 st = blockS 0 (codeB Try.prog E cx n66_8 st) st := GE.block_step (by kernel_rfl)
theorem n66_5s : codeB Try.prog E cx n66_5 st = thenS (codeB Try.prog E cx n66_6 st) (codeB Try.prog E cx n66_7) := GE.seq_step (by kernel_rfl)
theorem n66_22s : codeB Try.prog E ⟨f, 26, b, ro⟩ n66_22 st = plainS (runOps Try.prog E b q66_22 (ops [true, true, true, false] Try.f66) st) := GE.region_step (id := 7) (GE.reg_of (by kernel_rfl)) (by kernel_rfl)
theorem n66_23s : codeB Try.prog LL ⟨66, 26, b, ro⟩ n66_23 st = normS b ⟨[4], [⟨4, 0, 1, true⟩]⟩ .ret st := GE.ret_step (by kernel_rfl) (by kernel_rfl)
theorem n66_21s : codeB Try.prog E cx n66_21 st = thenS (codeB Try.prog E cx n66_22 st) (codeB Try.prog E cx n66_23) := GE.seq_step (by kernel_rfl)
theorem n66_4s : codeB Try.prog E cx n66_4 st = thenS (codeB Try.prog E cx n66_5 st) (codeB Try.prog E cx n66_21) := GE.seq_step (by kernel_rfl)
theorem n66_2s : codeB Try.prog E cx n66_2 st = thenS (codeB Try.prog E cx n66_3 st) (codeB Try.prog E cx n66_4) := GE.seq_step (by kernel_rfl)
theorem n66_0s : codeB Try.prog E cx n66_0 st = thenS (codeB Try.prog E cx n66_1 st) (codeB Try.prog E cx n66_2) := GE.seq_step (by kernel_rfl)
noncomputable def n67_0 : Code := bodyOf Try.f67
noncomputable def n67_1 : Code := cl n67_0
noncomputable def q67_1 : List Oper := opsOf n67_1
noncomputable def n67_2 : Code := cr n67_0
noncomputable def n67_3 : Code := cl n67_2
noncomputable def q67_3 : List Oper := opsOf n67_3
noncomputable def n67_4 : Code := cr n67_2
theorem body67 : Try.f67.body = some n67_0 := by kernel_rfl
theorem run67 (E : Ev) (args : List Value) (h : List Blk) (hl : args.length ≤ 9) : runB Try.prog E 67 args h = endS Try.prog [.tmp 2] h.length (codeB Try.prog E ⟨67, 9, h.length, none⟩ n67_0 ⟨enumT 0 args, h, []⟩) := GE.run_step Try.func67 body67 (by kernel_rfl) (by decide) (by kernel_rfl) hl
theorem n67_1s : codeB Try.prog E ⟨f, 9, b, ro⟩ n67_1 st = plainS (runOps Try.prog E b q67_1 (ops [false] Try.f67) st) := GE.region_step (id := 0) (GE.reg_of (by kernel_rfl)) (by kernel_rfl)
theorem n67_3s : codeB Try.prog E ⟨f, 9, b, ro⟩ n67_3 st = plainS (runOps Try.prog E b q67_3 (ops [true, false] Try.f67) st) := GE.region_step (id := 1) (GE.reg_of (by kernel_rfl)) (by kernel_rfl)
theorem n67_4s : codeB Try.prog LL ⟨67, 9, b, ro⟩ n67_4 st = normS b ⟨[2], []⟩ .ret st := GE.ret_step (by kernel_rfl) (by kernel_rfl)
theorem n67_2s : codeB Try.prog E cx n67_2 st = thenS (codeB Try.prog E cx n67_3 st) (codeB Try.prog E cx n67_4) := GE.seq_step (by kernel_rfl)
theorem n67_0s : codeB Try.prog E cx n67_0 st = thenS (codeB Try.prog E cx n67_1 st) (codeB Try.prog E cx n67_2) := GE.seq_step (by kernel_rfl)
noncomputable def n68_0 : Code := bodyOf Try.f68
noncomputable def n68_1 : Code := cl n68_0
noncomputable def q68_1 : List Oper := opsOf n68_1
noncomputable def n68_2 : Code := cr n68_0
noncomputable def n68_3 : Code := cl n68_2
noncomputable def q68_3 : List Oper := opsOf n68_3
noncomputable def n68_4 : Code := cr n68_2
noncomputable def n68_5 : Code := cl n68_4
noncomputable def q68_5 : List Oper := opsOf n68_5
noncomputable def n68_6 : Code := cr n68_4
noncomputable def n68_7 : Code := cl n68_6
noncomputable def n68_8 : Code := cl n68_7
noncomputable def n68_9 : Code := cl n68_8
noncomputable def n68_10 : Code := cl n68_9
noncomputable def n68_11 : Code := cl n68_10
noncomputable def q68_11 : List Oper := opsOf n68_11
noncomputable def n68_12 : Code := cr n68_10
noncomputable def n68_13 : Code := cl n68_12
noncomputable def n68_14 : Code := cr n68_12
noncomputable def n68_15 : Code := cr n68_9
noncomputable def n68_16 : Code := cl n68_15
noncomputable def n68_17 : Code := cl n68_16
noncomputable def q68_17 : List Oper := opsOf n68_17
noncomputable def n68_18 : Code := cr n68_16
noncomputable def n68_19 : Code := cl n68_18
noncomputable def q68_19 : List Oper := opsOf n68_19
noncomputable def n68_20 : Code := cr n68_18
noncomputable def n68_21 : Code := cl n68_20
noncomputable def q68_21 : List Oper := opsOf n68_21
noncomputable def n68_22 : Code := cr n68_20
noncomputable def n68_23 : Code := cl n68_22
noncomputable def n68_24 : Code := cl n68_23
noncomputable def q68_24 : List Oper := opsOf n68_24
noncomputable def n68_25 : Code := cr n68_23
noncomputable def n68_26 : Code := cl n68_25
noncomputable def n68_27 : Code := cl n68_26
noncomputable def n68_28 : Code := cl n68_27
noncomputable def n68_29 : Code := cl n68_28
noncomputable def q68_29 : List Oper := opsOf n68_29
noncomputable def n68_30 : Code := cr n68_28
noncomputable def n68_31 : Code := cl n68_30
noncomputable def n68_32 : Code := cr n68_30
noncomputable def n68_33 : Code := cr n68_27
noncomputable def n68_34 : Code := cl n68_33
noncomputable def n68_35 : Code := cl n68_34
noncomputable def q68_35 : List Oper := opsOf n68_35
noncomputable def n68_36 : Code := cr n68_33
noncomputable def q68_36 : List Oper := opsOf n68_36
noncomputable def n68_37 : Code := cr n68_22
noncomputable def n68_38 : Code := cl n68_37
noncomputable def n68_39 : Code := cl n68_38
noncomputable def n68_40 : Code := cl n68_39
noncomputable def n68_41 : Code := cl n68_40
noncomputable def q68_41 : List Oper := opsOf n68_41
noncomputable def n68_42 : Code := cr n68_40
noncomputable def n68_43 : Code := cl n68_42
noncomputable def n68_44 : Code := cr n68_42
noncomputable def n68_45 : Code := cr n68_39
noncomputable def n68_46 : Code := cl n68_45
noncomputable def q68_46 : List Oper := opsOf n68_46
noncomputable def n68_47 : Code := cr n68_6
noncomputable def n68_48 : Code := cl n68_47
noncomputable def q68_48 : List Oper := opsOf n68_48
noncomputable def n68_49 : Code := cr n68_47
theorem body68 : Try.f68.body = some n68_0 := by kernel_rfl
theorem run68 (E : Ev) (args : List Value) (h : List Blk) (hl : args.length ≤ 104) : runB Try.prog E 68 args h = endS Try.prog [.tmp 4, .tmp 5] h.length (codeB Try.prog E ⟨68, 104, h.length, none⟩ n68_0 ⟨enumT 0 args, h, []⟩) := GE.run_step Try.func68 body68 (by kernel_rfl) (by decide) (by kernel_rfl) hl
theorem n68_1s : codeB Try.prog E ⟨f, 104, b, ro⟩ n68_1 st = plainS (runOps Try.prog E b q68_1 (ops [false] Try.f68) st) := GE.region_step (id := 0) (GE.reg_of (by kernel_rfl)) (by kernel_rfl)
theorem n68_3s : codeB Try.prog E ⟨f, 104, b, ro⟩ n68_3 st = plainS (runOps Try.prog E b q68_3 (ops [true, false] Try.f68) st) := GE.region_step (id := 1) (GE.reg_of (by kernel_rfl)) (by kernel_rfl)
theorem n68_5s : codeB Try.prog E ⟨f, 104, b, ro⟩ n68_5 st = plainS (runOps Try.prog E b q68_5 (ops [true, true, false] Try.f68) st) := GE.region_step (id := 2) (GE.reg_of (by kernel_rfl)) (by kernel_rfl)
theorem n68_11s : codeB Try.prog E ⟨f, 104, b, ro⟩ n68_11 st = plainS (runOps Try.prog E b q68_11 (ops [true, true, true, false, false, false, false, false] Try.f68) st) := GE.region_step (id := 3) (GE.reg_of (by kernel_rfl)) (by kernel_rfl)
theorem n68_13s : codeB Try.prog E cx n68_13 st = some (.normal, st) := GE.skip_step (by kernel_rfl)
theorem n68_14s : codeB Try.prog LL ⟨68, 104, b, ro⟩ n68_14 st = normS b ⟨[0, 7], [⟨0, 0, 1, true⟩, ⟨7, 0, 1, true⟩]⟩ (.exit 0) st := GE.exit_step (by kernel_rfl) (by kernel_rfl)
theorem n68_12s : codeB Try.prog E cx n68_12 st = condS (codeB Try.prog E cx n68_13) (codeB Try.prog E cx n68_14) (lk st.σ 29) st := GE.cond_step (c := .tmp 29) (by kernel_rfl)
theorem n68_10s : codeB Try.prog E cx n68_10 st = thenS (codeB Try.prog E cx n68_11 st) (codeB Try.prog E cx n68_12) := GE.seq_step (by kernel_rfl)
theorem n68_17s : codeB Try.prog E ⟨f, 104, b, ro⟩ n68_17 st = drawS [0, 1, 0, 0, 8, 24, 60, 124, 255, 0, 512, 0, 2048, 7680, 511, 32767] (runOpsF Try.prog E b q68_17 (ops [true, true, true, false, false, false, true, false, false] Try.f68) st) := GE.draw_step (id := 4) (GE.reg_of (by kernel_rfl)) (by kernel_rfl) (by kernel_rfl) (by kernel_rfl)
theorem n68_19s : codeB Try.prog E ⟨f, 104, b, ro⟩ n68_19 st = plainS (runOps Try.prog E b q68_19 (ops [true, true, true, false, false, false, true, false, true, false] Try.f68) st) := GE.region_step (id := 5) (GE.reg_of (by kernel_rfl)) (by kernel_rfl)
theorem n68_21s : codeB Try.prog E ⟨f, 104, b, ro⟩ n68_21 st = plainS (runOps Try.prog E b q68_21 (ops [true, true, true, false, false, false, true, false, true, true, false] Try.f68) st) := GE.region_step (id := 6) (GE.reg_of (by kernel_rfl)) (by kernel_rfl)
theorem n68_24s : codeB Try.prog E ⟨f, 104, b, ro⟩ n68_24 st = plainS (runOps Try.prog E b q68_24 (ops [true, true, true, false, false, false, true, false, true, true, true, false, false] Try.f68) st) := GE.region_step (id := 7) (GE.reg_of (by kernel_rfl)) (by kernel_rfl)
theorem n68_29s : codeB Try.prog E ⟨f, 104, b, ro⟩ n68_29 st = plainS (runOps Try.prog E b q68_29 (ops [true, true, true, false, false, false, true, false, true, true, true, false, true, false, false, false, false] Try.f68) st) := GE.region_step (id := 8) (GE.reg_of (by kernel_rfl)) (by kernel_rfl)
theorem n68_31s : codeB Try.prog E cx n68_31 st = some (.normal, st) := GE.skip_step (by kernel_rfl)
theorem n68_32s : codeB Try.prog LL ⟨68, 104, b, ro⟩ n68_32 st = normS b ⟨[0, 1, 6, 7], [⟨0, 0, 1, true⟩, ⟨1, 0, 1, true⟩, ⟨7, 0, 1, true⟩]⟩ (.exit 2) st := GE.exit_step (by kernel_rfl) (by kernel_rfl)
theorem n68_30s : codeB Try.prog E cx n68_30 st = condS (codeB Try.prog E cx n68_31) (codeB Try.prog E cx n68_32) (lk st.σ 66) st := GE.cond_step (c := .tmp 66) (by kernel_rfl)
theorem n68_28s : codeB Try.prog E cx n68_28 st = thenS (codeB Try.prog E cx n68_29 st) (codeB Try.prog E cx n68_30) := GE.seq_step (by kernel_rfl)
theorem n68_35s : codeB Try.prog E ⟨f, 104, b, ro⟩ n68_35 st = drawS [0, 0, 0, 6, 15, 31, 0, 0, 0, 384, 896, 1984, 4095, 8191, 16383] (runOpsF Try.prog E b q68_35 (ops [true, true, true, false, false, false, true, false, true, true, true, false, true, false, false, true, false, false] Try.f68) st) := GE.draw_step (id := 10) (GE.reg_of (by kernel_rfl)) (by kernel_rfl) (by kernel_rfl) (by kernel_rfl)
theorem n68_34s : codeB Try.prog E cx n68_34 st = blockS 3 (codeB Try.prog E cx n68_35 st) st := GE.block_step (by kernel_rfl)
theorem n68_36s : codeB Try.prog E ⟨f, 104, b, ro⟩ n68_36 st = plainS (runOps Try.prog E b q68_36 (ops [true, true, true, false, false, false, true, false, true, true, true, false, true, false, false, true, true] Try.f68) st) := GE.region_step (id := 9) (GE.reg_of (by kernel_rfl)) (by kernel_rfl)
theorem n68_33s : codeB Try.prog E cx n68_33 st = thenS (codeB Try.prog E cx n68_34 st) (codeB Try.prog E cx n68_36) := GE.seq_step (by kernel_rfl)
theorem n68_27s : codeB Try.prog E cx n68_27 st = thenS (codeB Try.prog E cx n68_28 st) (codeB Try.prog E cx n68_33) := GE.seq_step (by kernel_rfl)
theorem n68_26k : LL.kp (⟨68, 104, b, ro⟩ : Cx).fn (4 * rid n68_27 + 3) = some ⟨[8, 9, 10, 0, 1, 6, 7], [⟨0, 0, 1, true⟩, ⟨1, 0, 1, true⟩, ⟨7, 0, 1, true⟩]⟩ := by kernel_rfl
theorem n68_26s : codeB Try.prog LL ⟨68, 104, b, ro⟩ n68_26 st = headS b ⟨[8, 9, 10, 0, 1, 6, 7], [⟨0, 0, 1, true⟩, ⟨1, 0, 1, true⟩, ⟨7, 0, 1, true⟩]⟩ st (lpB Try.prog LL ⟨68, 104, b, ro⟩ n68_26 n68_27) := GE.lpB_step (by kernel_rfl) (n68_26k b ro)
theorem n68_26g : LL.code ⟨68, 104, b, ro⟩ n68_26 st = headS b ⟨[8, 9, 10, 0, 1, 6, 7], [⟨0, 0, 1, true⟩, ⟨1, 0, 1, true⟩, ⟨7, 0, 1, true⟩]⟩ st (lpB Try.prog LL ⟨68, 104, b, ro⟩ n68_26 n68_27) := GE.lpB_again (by kernel_rfl) (n68_26k b ro)
theorem n68_25s : codeB Try.prog E cx n68_25 st = blockS 2 (codeB Try.prog E cx n68_26 st) st := GE.block_step (by kernel_rfl)
theorem n68_23s : codeB Try.prog E cx n68_23 st = thenS (codeB Try.prog E cx n68_24 st) (codeB Try.prog E cx n68_25) := GE.seq_step (by kernel_rfl)
theorem q68_41g3 : gd q68_41 3 = some 86 := by kernel_rfl
theorem n68_41s : codeB Try.prog E ⟨f, 104, b, ro⟩ n68_41 st = plainS (runOps Try.prog E b q68_41 (ops [true, true, true, false, false, false, true, false, true, true, true, true, false, false, false, false] Try.f68) st) := GE.region_step (id := 11) (GE.reg_of (by kernel_rfl)) (by kernel_rfl)
theorem n68_43s : codeB Try.prog E cx n68_43 st = some (.normal, st) := GE.skip_step (by kernel_rfl)
theorem n68_44s : codeB Try.prog LL ⟨68, 104, b, ro⟩ n68_44 st = normS b ⟨[0, 1, 6, 7], [⟨0, 0, 1, true⟩, ⟨1, 0, 1, true⟩, ⟨7, 0, 1, true⟩]⟩ (.exit 4) st := GE.exit_step (by kernel_rfl) (by kernel_rfl)
theorem n68_42s : codeB Try.prog E cx n68_42 st = condS (codeB Try.prog E cx n68_43) (codeB Try.prog E cx n68_44) (lk st.σ 94) st := GE.cond_step (c := .tmp 94) (by kernel_rfl)
theorem n68_40s : codeB Try.prog E cx n68_40 st = thenS (codeB Try.prog E cx n68_41 st) (codeB Try.prog E cx n68_42) := GE.seq_step (by kernel_rfl)
theorem n68_46s : codeB Try.prog E ⟨f, 104, b, ro⟩ n68_46 st = plainS (runOps Try.prog E b q68_46 (ops [true, true, true, false, false, false, true, false, true, true, true, true, false, false, true, false] Try.f68) st) := GE.region_step (id := 12) (GE.reg_of (by kernel_rfl)) (by kernel_rfl)
theorem n68_45s : codeB Try.prog E cx n68_45 st = blockS 5 (codeB Try.prog E cx n68_46 st) st := GE.block_step (by kernel_rfl)
theorem n68_39s : codeB Try.prog E cx n68_39 st = thenS (codeB Try.prog E cx n68_40 st) (codeB Try.prog E cx n68_45) := GE.seq_step (by kernel_rfl)
theorem n68_38k : LL.kp (⟨68, 104, b, ro⟩ : Cx).fn (4 * rid n68_39 + 3) = some ⟨[0, 1, 6, 7], [⟨0, 0, 1, true⟩, ⟨1, 0, 1, true⟩, ⟨7, 0, 1, true⟩]⟩ := by kernel_rfl
theorem n68_38s : codeB Try.prog LL ⟨68, 104, b, ro⟩ n68_38 st = headS b ⟨[0, 1, 6, 7], [⟨0, 0, 1, true⟩, ⟨1, 0, 1, true⟩, ⟨7, 0, 1, true⟩]⟩ st (lpB Try.prog LL ⟨68, 104, b, ro⟩ n68_38 n68_39) := GE.lpB_step (by kernel_rfl) (n68_38k b ro)
theorem n68_38g : LL.code ⟨68, 104, b, ro⟩ n68_38 st = headS b ⟨[0, 1, 6, 7], [⟨0, 0, 1, true⟩, ⟨1, 0, 1, true⟩, ⟨7, 0, 1, true⟩]⟩ st (lpB Try.prog LL ⟨68, 104, b, ro⟩ n68_38 n68_39) := GE.lpB_again (by kernel_rfl) (n68_38k b ro)
theorem n68_37s : codeB Try.prog E cx n68_37 st = blockS 4 (codeB Try.prog E cx n68_38 st) st := GE.block_step (by kernel_rfl)
theorem n68_22s : codeB Try.prog E cx n68_22 st = thenS (codeB Try.prog E cx n68_23 st) (codeB Try.prog E cx n68_37) := GE.seq_step (by kernel_rfl)
theorem n68_20s : codeB Try.prog E cx n68_20 st = thenS (codeB Try.prog E cx n68_21 st) (codeB Try.prog E cx n68_22) := GE.seq_step (by kernel_rfl)
theorem n68_18s : codeB Try.prog E cx n68_18 st = thenS (codeB Try.prog E cx n68_19 st) (codeB Try.prog E cx n68_20) := GE.seq_step (by kernel_rfl)
theorem n68_16s : codeB Try.prog E cx n68_16 st = thenS (codeB Try.prog E cx n68_17 st) (codeB Try.prog E cx n68_18) := GE.seq_step (by kernel_rfl)
theorem n68_15s : codeB Try.prog E cx n68_15 st = blockS 1 (codeB Try.prog E cx n68_16 st) st := GE.block_step (by kernel_rfl)
theorem n68_9s : codeB Try.prog E cx n68_9 st = thenS (codeB Try.prog E cx n68_10 st) (codeB Try.prog E cx n68_15) := GE.seq_step (by kernel_rfl)
theorem n68_8k : LL.kp (⟨68, 104, b, ro⟩ : Cx).fn (4 * rid n68_9 + 3) = some ⟨[0, 1, 6, 7], [⟨0, 0, 1, true⟩, ⟨1, 0, 1, true⟩, ⟨7, 0, 1, true⟩]⟩ := by kernel_rfl
theorem n68_8s : codeB Try.prog LL ⟨68, 104, b, ro⟩ n68_8 st = headS b ⟨[0, 1, 6, 7], [⟨0, 0, 1, true⟩, ⟨1, 0, 1, true⟩, ⟨7, 0, 1, true⟩]⟩ st (lpB Try.prog LL ⟨68, 104, b, ro⟩ n68_8 n68_9) := GE.lpB_step (by kernel_rfl) (n68_8k b ro)
theorem n68_8g : LL.code ⟨68, 104, b, ro⟩ n68_8 st = headS b ⟨[0, 1, 6, 7], [⟨0, 0, 1, true⟩, ⟨1, 0, 1, true⟩, ⟨7, 0, 1, true⟩]⟩ st (lpB Try.prog LL ⟨68, 104, b, ro⟩ n68_8 n68_9) := GE.lpB_again (by kernel_rfl) (n68_8k b ro)
theorem n68_7s : codeB Try.prog E cx n68_7 st = blockS 0 (codeB Try.prog E cx n68_8 st) st := GE.block_step (by kernel_rfl)
theorem n68_48s : codeB Try.prog E ⟨f, 104, b, ro⟩ n68_48 st = plainS (runOps Try.prog E b q68_48 (ops [true, true, true, true, false] Try.f68) st) := GE.region_step (id := 13) (GE.reg_of (by kernel_rfl)) (by kernel_rfl)
theorem n68_49s : codeB Try.prog LL ⟨68, 104, b, ro⟩ n68_49 st = normS b ⟨[4, 5], [⟨4, 0, 1, true⟩, ⟨5, 0, 1, true⟩]⟩ .ret st := GE.ret_step (by kernel_rfl) (by kernel_rfl)
theorem n68_47s : codeB Try.prog E cx n68_47 st = thenS (codeB Try.prog E cx n68_48 st) (codeB Try.prog E cx n68_49) := GE.seq_step (by kernel_rfl)
theorem n68_6s : codeB Try.prog E cx n68_6 st = thenS (codeB Try.prog E cx n68_7 st) (codeB Try.prog E cx n68_47) := GE.seq_step (by kernel_rfl)
theorem n68_4s : codeB Try.prog E cx n68_4 st = thenS (codeB Try.prog E cx n68_5 st) (codeB Try.prog E cx n68_6) := GE.seq_step (by kernel_rfl)
theorem n68_2s : codeB Try.prog E cx n68_2 st = thenS (codeB Try.prog E cx n68_3 st) (codeB Try.prog E cx n68_4) := GE.seq_step (by kernel_rfl)
theorem n68_0s : codeB Try.prog E cx n68_0 st = thenS (codeB Try.prog E cx n68_1 st) (codeB Try.prog E cx n68_2) := GE.seq_step (by kernel_rfl)
noncomputable def n69_0 : Code := bodyOf Try.f69
noncomputable def n69_1 : Code := cl n69_0
noncomputable def q69_1 : List Oper := opsOf n69_1
noncomputable def n69_2 : Code := cr n69_0
noncomputable def n69_3 : Code := cl n69_2
noncomputable def q69_3 : List Oper := opsOf n69_3
noncomputable def n69_4 : Code := cr n69_2
noncomputable def n69_5 : Code := cl n69_4
noncomputable def n69_6 : Code := cl n69_5
noncomputable def q69_6 : List Oper := opsOf n69_6
noncomputable def n69_7 : Code := cr n69_5
noncomputable def n69_8 : Code := cl n69_7
noncomputable def n69_9 : Code := cl n69_8
noncomputable def n69_10 : Code := cl n69_9
noncomputable def n69_11 : Code := cl n69_10
noncomputable def q69_11 : List Oper := opsOf n69_11
noncomputable def n69_12 : Code := cr n69_10
noncomputable def n69_13 : Code := cl n69_12
noncomputable def n69_14 : Code := cr n69_12
noncomputable def n69_15 : Code := cr n69_9
noncomputable def n69_16 : Code := cl n69_15
noncomputable def n69_17 : Code := cl n69_16
noncomputable def q69_17 : List Oper := opsOf n69_17
noncomputable def n69_18 : Code := cr n69_15
noncomputable def q69_18 : List Oper := opsOf n69_18
noncomputable def n69_19 : Code := cr n69_4
noncomputable def n69_20 : Code := cl n69_19
noncomputable def q69_20 : List Oper := opsOf n69_20
noncomputable def n69_21 : Code := cr n69_19
theorem body69 : Try.f69.body = some n69_0 := by kernel_rfl
theorem run69 (E : Ev) (args : List Value) (h : List Blk) (hl : args.length ≤ 23) : runB Try.prog E 69 args h = endS Try.prog [.tmp 4] h.length (codeB Try.prog E ⟨69, 23, h.length, none⟩ n69_0 ⟨enumT 0 args, h, []⟩) := GE.run_step Try.func69 body69 (by kernel_rfl) (by decide) (by kernel_rfl) hl
theorem n69_1s : codeB Try.prog E ⟨f, 23, b, ro⟩ n69_1 st = plainS (runOps Try.prog E b q69_1 (ops [false] Try.f69) st) := GE.region_step (id := 0) (GE.reg_of (by kernel_rfl)) (by kernel_rfl)
theorem n69_3s : codeB Try.prog E ⟨f, 23, b, ro⟩ n69_3 st = plainS (runOps Try.prog E b q69_3 (ops [true, false] Try.f69) st) := GE.region_step (id := 1) (GE.reg_of (by kernel_rfl)) (by kernel_rfl)
theorem n69_6s : codeB Try.prog E ⟨f, 23, b, ro⟩ n69_6 st = plainS (runOps Try.prog E b q69_6 (ops [true, true, false, false] Try.f69) st) := GE.region_step (id := 2) (GE.reg_of (by kernel_rfl)) (by kernel_rfl)
theorem n69_11s : codeB Try.prog E ⟨f, 23, b, ro⟩ n69_11 st = plainS (runOps Try.prog E b q69_11 (ops [true, true, false, true, false, false, false, false] Try.f69) st) := GE.region_step (id := 3) (GE.reg_of (by kernel_rfl)) (by kernel_rfl)
theorem n69_13s : codeB Try.prog E cx n69_13 st = some (.normal, st) := GE.skip_step (by kernel_rfl)
theorem n69_14s : codeB Try.prog LL ⟨69, 23, b, ro⟩ n69_14 st = normS b ⟨[5], [⟨5, 0, 1, true⟩]⟩ (.exit 0) st := GE.exit_step (by kernel_rfl) (by kernel_rfl)
theorem n69_12s : codeB Try.prog E cx n69_12 st = condS (codeB Try.prog E cx n69_13) (codeB Try.prog E cx n69_14) (lk st.σ 10) st := GE.cond_step (c := .tmp 10) (by kernel_rfl)
theorem n69_10s : codeB Try.prog E cx n69_10 st = thenS (codeB Try.prog E cx n69_11 st) (codeB Try.prog E cx n69_12) := GE.seq_step (by kernel_rfl)
theorem n69_17s : codeB Try.prog E ⟨f, 23, b, ro⟩ n69_17 st = plainS (runOps Try.prog E b q69_17 (ops [true, true, false, true, false, false, true, false, false] Try.f69) st) := GE.region_step (id := 5) (GE.reg_of (by kernel_rfl)) (by kernel_rfl)
theorem n69_16s : codeB Try.prog E cx n69_16 st = blockS 1 (codeB Try.prog E cx n69_17 st) st := GE.block_step (by kernel_rfl)
theorem n69_18s : codeB Try.prog E ⟨f, 23, b, ro⟩ n69_18 st = plainS (runOps Try.prog E b q69_18 (ops [true, true, false, true, false, false, true, true] Try.f69) st) := GE.region_step (id := 4) (GE.reg_of (by kernel_rfl)) (by kernel_rfl)
theorem n69_15s : codeB Try.prog E cx n69_15 st = thenS (codeB Try.prog E cx n69_16 st) (codeB Try.prog E cx n69_18) := GE.seq_step (by kernel_rfl)
theorem n69_9s : codeB Try.prog E cx n69_9 st = thenS (codeB Try.prog E cx n69_10 st) (codeB Try.prog E cx n69_15) := GE.seq_step (by kernel_rfl)
theorem n69_8k : LL.kp (⟨69, 23, b, ro⟩ : Cx).fn (4 * rid n69_9 + 3) = some ⟨[0, 1, 5, 6], [⟨0, 0, 1, true⟩, ⟨5, 0, 1, true⟩]⟩ := by kernel_rfl
theorem n69_8s : codeB Try.prog LL ⟨69, 23, b, ro⟩ n69_8 st = headS b ⟨[0, 1, 5, 6], [⟨0, 0, 1, true⟩, ⟨5, 0, 1, true⟩]⟩ st (lpB Try.prog LL ⟨69, 23, b, ro⟩ n69_8 n69_9) := GE.lpB_step (by kernel_rfl) (n69_8k b ro)
theorem n69_8g : LL.code ⟨69, 23, b, ro⟩ n69_8 st = headS b ⟨[0, 1, 5, 6], [⟨0, 0, 1, true⟩, ⟨5, 0, 1, true⟩]⟩ st (lpB Try.prog LL ⟨69, 23, b, ro⟩ n69_8 n69_9) := GE.lpB_again (by kernel_rfl) (n69_8k b ro)
theorem n69_7s : codeB Try.prog E cx n69_7 st = blockS 0 (codeB Try.prog E cx n69_8 st) st := GE.block_step (by kernel_rfl)
theorem n69_5s : codeB Try.prog E cx n69_5 st = thenS (codeB Try.prog E cx n69_6 st) (codeB Try.prog E cx n69_7) := GE.seq_step (by kernel_rfl)
theorem n69_20s : codeB Try.prog E ⟨f, 23, b, ro⟩ n69_20 st = plainS (runOps Try.prog E b q69_20 (ops [true, true, true, false] Try.f69) st) := GE.region_step (id := 6) (GE.reg_of (by kernel_rfl)) (by kernel_rfl)
theorem n69_21s : codeB Try.prog LL ⟨69, 23, b, ro⟩ n69_21 st = normS b ⟨[4], [⟨4, 0, 1, true⟩]⟩ .ret st := GE.ret_step (by kernel_rfl) (by kernel_rfl)
theorem n69_19s : codeB Try.prog E cx n69_19 st = thenS (codeB Try.prog E cx n69_20 st) (codeB Try.prog E cx n69_21) := GE.seq_step (by kernel_rfl)
theorem n69_4s : codeB Try.prog E cx n69_4 st = thenS (codeB Try.prog E cx n69_5 st) (codeB Try.prog E cx n69_19) := GE.seq_step (by kernel_rfl)
theorem n69_2s : codeB Try.prog E cx n69_2 st = thenS (codeB Try.prog E cx n69_3 st) (codeB Try.prog E cx n69_4) := GE.seq_step (by kernel_rfl)
theorem n69_0s : codeB Try.prog E cx n69_0 st = thenS (codeB Try.prog E cx n69_1 st) (codeB Try.prog E cx n69_2) := GE.seq_step (by kernel_rfl)
noncomputable def n70_0 : Code := bodyOf Try.f70
noncomputable def n70_1 : Code := cl n70_0
noncomputable def q70_1 : List Oper := opsOf n70_1
noncomputable def n70_2 : Code := cr n70_0
noncomputable def n70_3 : Code := cl n70_2
noncomputable def n70_4 : Code := cl n70_3
noncomputable def q70_4 : List Oper := opsOf n70_4
noncomputable def n70_5 : Code := cr n70_3
noncomputable def n70_6 : Code := cl n70_5
noncomputable def n70_7 : Code := cl n70_6
noncomputable def q70_7 : List Oper := opsOf n70_7
noncomputable def n70_8 : Code := cr n70_6
noncomputable def n70_9 : Code := cr n70_5
noncomputable def n70_10 : Code := cr n70_2
noncomputable def n70_11 : Code := cl n70_10
noncomputable def q70_11 : List Oper := opsOf n70_11
noncomputable def n70_12 : Code := cr n70_10
noncomputable def n70_13 : Code := cl n70_12
noncomputable def q70_13 : List Oper := opsOf n70_13
noncomputable def n70_14 : Code := cr n70_12
theorem body70 : Try.f70.body = some n70_0 := by kernel_rfl
theorem run70 (E : Ev) (args : List Value) (h : List Blk) (hl : args.length ≤ 26) : runB Try.prog E 70 args h = endS Try.prog [.tmp 4] h.length (codeB Try.prog E ⟨70, 26, h.length, none⟩ n70_0 ⟨enumT 0 args, h, []⟩) := GE.run_step Try.func70 body70 (by kernel_rfl) (by decide) (by kernel_rfl) hl
theorem n70_1s : codeB Try.prog E ⟨f, 26, b, ro⟩ n70_1 st = plainS (runOps Try.prog E b q70_1 (ops [false] Try.f70) st) := GE.region_step (id := 0) (GE.reg_of (by kernel_rfl)) (by kernel_rfl)
theorem n70_4s : codeB Try.prog E ⟨f, 26, b, ro⟩ n70_4 st = plainS (runOps Try.prog E b q70_4 (ops [true, false, false] Try.f70) st) := GE.region_step (id := 1) (GE.reg_of (by kernel_rfl)) (by kernel_rfl)
theorem n70_7s : codeB Try.prog E ⟨f, 26, b, ro⟩ n70_7 st = plainS (runOps Try.prog E b q70_7 (ops [true, false, true, false, false] Try.f70) st) := GE.region_step (id := 2) (GE.reg_of (by kernel_rfl)) (by kernel_rfl)
theorem n70_8s : codeB Try.prog LL ⟨70, 26, b, ro⟩ n70_8 st = normS b ⟨[4], [⟨4, 0, 1, false⟩]⟩ .ret st := GE.ret_step (by kernel_rfl) (by kernel_rfl)
theorem n70_6s : codeB Try.prog E cx n70_6 st = thenS (codeB Try.prog E cx n70_7 st) (codeB Try.prog E cx n70_8) := GE.seq_step (by kernel_rfl)
theorem n70_9s : codeB Try.prog E cx n70_9 st = some (.normal, st) := GE.skip_step (by kernel_rfl)
theorem n70_5s : codeB Try.prog E cx n70_5 st = condS (codeB Try.prog E cx n70_6) (codeB Try.prog E cx n70_9) (lk st.σ 9) st := GE.cond_step (c := .tmp 9) (by kernel_rfl)
theorem n70_3s : codeB Try.prog E cx n70_3 st = thenS (codeB Try.prog E cx n70_4 st) (codeB Try.prog E cx n70_5) := GE.seq_step (by kernel_rfl)
theorem n70_11s : codeB Try.prog E ⟨f, 26, b, ro⟩ n70_11 st = plainS (runOps Try.prog E b q70_11 (ops [true, true, false] Try.f70) st) := GE.region_step (id := 3) (GE.reg_of (by kernel_rfl)) (by kernel_rfl)
theorem n70_13s : codeB Try.prog E ⟨f, 26, b, ro⟩ n70_13 st = plainS (runOps Try.prog E b q70_13 (ops [true, true, true, false] Try.f70) st) := GE.region_step (id := 4) (GE.reg_of (by kernel_rfl)) (by kernel_rfl)
theorem n70_14s : codeB Try.prog LL ⟨70, 26, b, ro⟩ n70_14 st = normS b ⟨[4], [⟨4, 0, 1, false⟩]⟩ .ret st := GE.ret_step (by kernel_rfl) (by kernel_rfl)
theorem n70_12s : codeB Try.prog E cx n70_12 st = thenS (codeB Try.prog E cx n70_13 st) (codeB Try.prog E cx n70_14) := GE.seq_step (by kernel_rfl)
theorem n70_10s : codeB Try.prog E cx n70_10 st = thenS (codeB Try.prog E cx n70_11 st) (codeB Try.prog E cx n70_12) := GE.seq_step (by kernel_rfl)
theorem n70_2s : codeB Try.prog E cx n70_2 st = thenS (codeB Try.prog E cx n70_3 st) (codeB Try.prog E cx n70_10) := GE.seq_step (by kernel_rfl)
theorem n70_0s : codeB Try.prog E cx n70_0 st = thenS (codeB Try.prog E cx n70_1 st) (codeB Try.prog E cx n70_2) := GE.seq_step (by kernel_rfl)
noncomputable def n71_0 : Code := bodyOf Try.f71
noncomputable def n71_1 : Code := cl n71_0
noncomputable def q71_1 : List Oper := opsOf n71_1
noncomputable def n71_2 : Code := cr n71_0
noncomputable def n71_3 : Code := cl n71_2
noncomputable def q71_3 : List Oper := opsOf n71_3
noncomputable def n71_4 : Code := cr n71_2
noncomputable def n71_5 : Code := cl n71_4
noncomputable def n71_6 : Code := cl n71_5
noncomputable def q71_6 : List Oper := opsOf n71_6
noncomputable def n71_7 : Code := cr n71_5
noncomputable def n71_8 : Code := cl n71_7
noncomputable def n71_9 : Code := cl n71_8
noncomputable def n71_10 : Code := cl n71_9
noncomputable def q71_10 : List Oper := opsOf n71_10
noncomputable def n71_11 : Code := cr n71_9
noncomputable def n71_12 : Code := cl n71_11
noncomputable def n71_13 : Code := cl n71_12
noncomputable def n71_14 : Code := cr n71_12
noncomputable def n71_15 : Code := cr n71_11
noncomputable def n71_16 : Code := cl n71_15
noncomputable def n71_17 : Code := cl n71_16
noncomputable def n71_18 : Code := cl n71_17
noncomputable def q71_18 : List Oper := opsOf n71_18
noncomputable def n71_19 : Code := cr n71_17
noncomputable def n71_20 : Code := cl n71_19
noncomputable def n71_21 : Code := cl n71_20
noncomputable def q71_21 : List Oper := opsOf n71_21
noncomputable def n71_22 : Code := cr n71_20
noncomputable def n71_23 : Code := cl n71_22
noncomputable def n71_24 : Code := cl n71_23
noncomputable def n71_25 : Code := cl n71_24
noncomputable def n71_26 : Code := cl n71_25
noncomputable def q71_26 : List Oper := opsOf n71_26
noncomputable def n71_27 : Code := cr n71_25
noncomputable def n71_28 : Code := cl n71_27
noncomputable def n71_29 : Code := cr n71_27
noncomputable def n71_30 : Code := cr n71_24
noncomputable def n71_31 : Code := cl n71_30
noncomputable def q71_31 : List Oper := opsOf n71_31
noncomputable def n71_32 : Code := cr n71_19
noncomputable def n71_33 : Code := cl n71_32
noncomputable def q71_33 : List Oper := opsOf n71_33
noncomputable def n71_34 : Code := cr n71_32
noncomputable def n71_35 : Code := cl n71_34
noncomputable def q71_35 : List Oper := opsOf n71_35
noncomputable def n71_36 : Code := cr n71_34
noncomputable def n71_37 : Code := cr n71_15
noncomputable def q71_37 : List Oper := opsOf n71_37
noncomputable def n71_38 : Code := cr n71_4
noncomputable def n71_39 : Code := cl n71_38
noncomputable def q71_39 : List Oper := opsOf n71_39
noncomputable def n71_40 : Code := cr n71_38
noncomputable def n71_41 : Code := cl n71_40
noncomputable def n71_42 : Code := cl n71_41
noncomputable def q71_42 : List Oper := opsOf n71_42
noncomputable def n71_43 : Code := cr n71_41
noncomputable def n71_44 : Code := cl n71_43
noncomputable def n71_45 : Code := cl n71_44
noncomputable def n71_46 : Code := cl n71_45
noncomputable def q71_46 : List Oper := opsOf n71_46
noncomputable def n71_47 : Code := cr n71_45
noncomputable def n71_48 : Code := cl n71_47
noncomputable def n71_49 : Code := cl n71_48
noncomputable def n71_50 : Code := cr n71_48
noncomputable def n71_51 : Code := cr n71_47
noncomputable def n71_52 : Code := cl n71_51
noncomputable def n71_53 : Code := cl n71_52
noncomputable def n71_54 : Code := cl n71_53
noncomputable def q71_54 : List Oper := opsOf n71_54
noncomputable def n71_55 : Code := cr n71_53
noncomputable def q71_55 : List Oper := opsOf n71_55
noncomputable def n71_56 : Code := cr n71_51
noncomputable def q71_56 : List Oper := opsOf n71_56
noncomputable def n71_57 : Code := cr n71_40
noncomputable def n71_58 : Code := cl n71_57
noncomputable def q71_58 : List Oper := opsOf n71_58
noncomputable def n71_59 : Code := cr n71_57
theorem body71 : Try.f71.body = some n71_0 := by kernel_rfl
theorem run71 (E : Ev) (args : List Value) (h : List Blk) (hl : args.length ≤ 50) : runB Try.prog E 71 args h = endS Try.prog [.tmp 2] h.length (codeB Try.prog E ⟨71, 50, h.length, none⟩ n71_0 ⟨enumT 0 args, h, []⟩) := GE.run_step Try.func71 body71 (by kernel_rfl) (by decide) (by kernel_rfl) hl
theorem n71_1s : codeB Try.prog E ⟨f, 50, b, ro⟩ n71_1 st = plainS (runOps Try.prog E b q71_1 (ops [false] Try.f71) st) := GE.region_step (id := 0) (GE.reg_of (by kernel_rfl)) (by kernel_rfl)
theorem n71_3s : codeB Try.prog E ⟨f, 50, b, ro⟩ n71_3 st = plainS (runOps Try.prog E b q71_3 (ops [true, false] Try.f71) st) := GE.region_step (id := 1) (GE.reg_of (by kernel_rfl)) (by kernel_rfl)
theorem n71_6s : codeB Try.prog E ⟨f, 50, b, ro⟩ n71_6 st = plainS (runOps Try.prog E b q71_6 (ops [true, true, false, false] Try.f71) st) := GE.region_step (id := 2) (GE.reg_of (by kernel_rfl)) (by kernel_rfl)
theorem n71_10s : codeB Try.prog E ⟨f, 50, b, ro⟩ n71_10 st = plainS (runOps Try.prog E b q71_10 (ops [true, true, false, true, false, false, false] Try.f71) st) := GE.region_step (id := 3) (GE.reg_of (by kernel_rfl)) (by kernel_rfl)
theorem n71_13s : codeB Try.prog E cx n71_13 st = some (.normal, st) := GE.skip_step (by kernel_rfl)
theorem n71_14s : codeB Try.prog LL ⟨71, 50, b, ro⟩ n71_14 st = normS b ⟨[0, 3, 4], [⟨0, 0, 1, true⟩]⟩ (.exit 0) st := GE.exit_step (by kernel_rfl) (by kernel_rfl)
theorem n71_12s : codeB Try.prog E cx n71_12 st = condS (codeB Try.prog E cx n71_13) (codeB Try.prog E cx n71_14) (lk st.σ 13) st := GE.cond_step (c := .tmp 13) (by kernel_rfl)
theorem n71_18s : codeB Try.prog E ⟨f, 50, b, ro⟩ n71_18 st = plainS (runOps Try.prog E b q71_18 (ops [true, true, false, true, false, false, true, true, false, false, false] Try.f71) st) := GE.region_step (id := 4) (GE.reg_of (by kernel_rfl)) (by kernel_rfl)
theorem n71_21s : codeB Try.prog E ⟨f, 50, b, ro⟩ n71_21 st = plainS (runOps Try.prog E b q71_21 (ops [true, true, false, true, false, false, true, true, false, false, true, false, false] Try.f71) st) := GE.region_step (id := 5) (GE.reg_of (by kernel_rfl)) (by kernel_rfl)
theorem n71_26s : codeB Try.prog E ⟨f, 50, b, ro⟩ n71_26 st = plainS (runOps Try.prog E b q71_26 (ops [true, true, false, true, false, false, true, true, false, false, true, false, true, false, false, false, false] Try.f71) st) := GE.region_step (id := 6) (GE.reg_of (by kernel_rfl)) (by kernel_rfl)
theorem n71_28s : codeB Try.prog E cx n71_28 st = some (.normal, st) := GE.skip_step (by kernel_rfl)
theorem n71_29s : codeB Try.prog LL ⟨71, 50, b, ro⟩ n71_29 st = normS b ⟨[5, 6, 0, 3, 4, 10, 11, 12], [⟨0, 0, 1, true⟩, ⟨10, 0, 1, true⟩]⟩ (.exit 2) st := GE.exit_step (by kernel_rfl) (by kernel_rfl)
theorem n71_27s : codeB Try.prog E cx n71_27 st = condS (codeB Try.prog E cx n71_28) (codeB Try.prog E cx n71_29) (lk st.σ 22) st := GE.cond_step (c := .tmp 22) (by kernel_rfl)
theorem n71_25s : codeB Try.prog E cx n71_25 st = thenS (codeB Try.prog E cx n71_26 st) (codeB Try.prog E cx n71_27) := GE.seq_step (by kernel_rfl)
theorem n71_31s : codeB Try.prog E ⟨f, 50, b, ro⟩ n71_31 st = drawS [0, 0, 0, 6, 3, 31] (runOpsF Try.prog E b q71_31 (ops [true, true, false, true, false, false, true, true, false, false, true, false, true, false, false, true, false] Try.f71) st) := GE.draw_step (id := 7) (GE.reg_of (by kernel_rfl)) (by kernel_rfl) (by kernel_rfl) (by kernel_rfl)
theorem n71_30s : codeB Try.prog E cx n71_30 st = blockS 3 (codeB Try.prog E cx n71_31 st) st := GE.block_step (by kernel_rfl)
theorem n71_24s : codeB Try.prog E cx n71_24 st = thenS (codeB Try.prog E cx n71_25 st) (codeB Try.prog E cx n71_30) := GE.seq_step (by kernel_rfl)
theorem n71_23k : LL.kp (⟨71, 50, b, ro⟩ : Cx).fn (4 * rid n71_24 + 3) = some ⟨[5, 6, 7, 0, 3, 4, 10, 11, 12], [⟨0, 0, 1, true⟩, ⟨10, 0, 1, true⟩]⟩ := by kernel_rfl
theorem n71_23s : codeB Try.prog LL ⟨71, 50, b, ro⟩ n71_23 st = headS b ⟨[5, 6, 7, 0, 3, 4, 10, 11, 12], [⟨0, 0, 1, true⟩, ⟨10, 0, 1, true⟩]⟩ st (lpB Try.prog LL ⟨71, 50, b, ro⟩ n71_23 n71_24) := GE.lpB_step (by kernel_rfl) (n71_23k b ro)
theorem n71_23g : LL.code ⟨71, 50, b, ro⟩ n71_23 st = headS b ⟨[5, 6, 7, 0, 3, 4, 10, 11, 12], [⟨0, 0, 1, true⟩, ⟨10, 0, 1, true⟩]⟩ st (lpB Try.prog LL ⟨71, 50, b, ro⟩ n71_23 n71_24) := GE.lpB_again (by kernel_rfl) (n71_23k b ro)
theorem n71_22s : codeB Try.prog E cx n71_22 st = blockS 2 (codeB Try.prog E cx n71_23 st) st := GE.block_step (by kernel_rfl)
theorem n71_20s : codeB Try.prog E cx n71_20 st = thenS (codeB Try.prog E cx n71_21 st) (codeB Try.prog E cx n71_22) := GE.seq_step (by kernel_rfl)
theorem n71_33s : codeB Try.prog E ⟨f, 50, b, ro⟩ n71_33 st = plainS (runOps Try.prog E b q71_33 (ops [true, true, false, true, false, false, true, true, false, false, true, true, false] Try.f71) st) := GE.region_step (id := 8) (GE.reg_of (by kernel_rfl)) (by kernel_rfl)
theorem n71_35s : codeB Try.prog E ⟨f, 50, b, ro⟩ n71_35 st = plainS (runOps Try.prog E b q71_35 (ops [true, true, false, true, false, false, true, true, false, false, true, true, true, false] Try.f71) st) := GE.region_step (id := 9) (GE.reg_of (by kernel_rfl)) (by kernel_rfl)
theorem n71_36s : codeB Try.prog E cx n71_36 st = some (.normal, st) := GE.skip_step (by kernel_rfl)
theorem n71_34s : codeB Try.prog E cx n71_34 st = condS (codeB Try.prog E cx n71_35) (codeB Try.prog E cx n71_36) (lk st.σ 28) st := GE.cond_step (c := .tmp 28) (by kernel_rfl)
theorem n71_32s : codeB Try.prog E cx n71_32 st = thenS (codeB Try.prog E cx n71_33 st) (codeB Try.prog E cx n71_34) := GE.seq_step (by kernel_rfl)
theorem n71_19s : codeB Try.prog E cx n71_19 st = thenS (codeB Try.prog E cx n71_20 st) (codeB Try.prog E cx n71_32) := GE.seq_step (by kernel_rfl)
theorem n71_17s : codeB Try.prog E cx n71_17 st = thenS (codeB Try.prog E cx n71_18 st) (codeB Try.prog E cx n71_19) := GE.seq_step (by kernel_rfl)
theorem n71_16s : codeB Try.prog E cx n71_16 st = blockS 1 (codeB Try.prog E cx n71_17 st) st := GE.block_step (by kernel_rfl)
theorem n71_37s : codeB Try.prog E ⟨f, 50, b, ro⟩ n71_37 st = plainS (runOps Try.prog E b q71_37 (ops [true, true, false, true, false, false, true, true, true] Try.f71) st) := GE.region_step (id := 10) (GE.reg_of (by kernel_rfl)) (by kernel_rfl)
theorem n71_15s : codeB Try.prog E cx n71_15 st = thenS (codeB Try.prog E cx n71_16 st) (codeB Try.prog E cx n71_37) := GE.seq_step (by kernel_rfl)
theorem n71_11s : codeB Try.prog E cx n71_11 st = thenS (codeB Try.prog E cx n71_12 st) (codeB Try.prog E cx n71_15) := GE.seq_step (by kernel_rfl)
theorem n71_9s : codeB Try.prog E cx n71_9 st = thenS (codeB Try.prog E cx n71_10 st) (codeB Try.prog E cx n71_11) := GE.seq_step (by kernel_rfl)
theorem n71_8k : LL.kp (⟨71, 50, b, ro⟩ : Cx).fn (4 * rid n71_9 + 3) = some ⟨[0, 3, 4, 10, 11, 12], [⟨0, 0, 1, true⟩, ⟨10, 0, 1, true⟩]⟩ := by kernel_rfl
theorem n71_8s : codeB Try.prog LL ⟨71, 50, b, ro⟩ n71_8 st = headS b ⟨[0, 3, 4, 10, 11, 12], [⟨0, 0, 1, true⟩, ⟨10, 0, 1, true⟩]⟩ st (lpB Try.prog LL ⟨71, 50, b, ro⟩ n71_8 n71_9) := GE.lpB_step (by kernel_rfl) (n71_8k b ro)
theorem n71_8g : LL.code ⟨71, 50, b, ro⟩ n71_8 st = headS b ⟨[0, 3, 4, 10, 11, 12], [⟨0, 0, 1, true⟩, ⟨10, 0, 1, true⟩]⟩ st (lpB Try.prog LL ⟨71, 50, b, ro⟩ n71_8 n71_9) := GE.lpB_again (by kernel_rfl) (n71_8k b ro)
theorem n71_7s : codeB Try.prog E cx n71_7 st = blockS 0 (codeB Try.prog E cx n71_8 st) st := GE.block_step (by kernel_rfl)
theorem n71_5s : codeB Try.prog E cx n71_5 st = thenS (codeB Try.prog E cx n71_6 st) (codeB Try.prog E cx n71_7) := GE.seq_step (by kernel_rfl)
theorem n71_39s : codeB Try.prog E ⟨f, 50, b, ro⟩ n71_39 st = plainS (runOps Try.prog E b q71_39 (ops [true, true, true, false] Try.f71) st) := GE.region_step (id := 11) (GE.reg_of (by kernel_rfl)) (by kernel_rfl)
theorem n71_42s : codeB Try.prog E ⟨f, 50, b, ro⟩ n71_42 st = plainS (runOps Try.prog E b q71_42 (ops [true, true, true, true, false, false] Try.f71) st) := GE.region_step (id := 12) (GE.reg_of (by kernel_rfl)) (by kernel_rfl)
theorem n71_46s : codeB Try.prog E ⟨f, 50, b, ro⟩ n71_46 st = plainS (runOps Try.prog E b q71_46 (ops [true, true, true, true, false, true, false, false, false] Try.f71) st) := GE.region_step (id := 13) (GE.reg_of (by kernel_rfl)) (by kernel_rfl)
theorem n71_49s : codeB Try.prog E cx n71_49 st = some (.normal, st) := GE.skip_step (by kernel_rfl)
theorem n71_50s : codeB Try.prog LL ⟨71, 50, b, ro⟩ n71_50 st = normS b ⟨[8], [⟨8, 0, 1, true⟩]⟩ (.exit 4) st := GE.exit_step (by kernel_rfl) (by kernel_rfl)
theorem n71_48s : codeB Try.prog E cx n71_48 st = condS (codeB Try.prog E cx n71_49) (codeB Try.prog E cx n71_50) (lk st.σ 37) st := GE.cond_step (c := .tmp 37) (by kernel_rfl)
theorem n71_54s : codeB Try.prog E ⟨f, 50, b, ro⟩ n71_54 st = plainS (runOps Try.prog E b q71_54 (ops [true, true, true, true, false, true, false, false, true, true, false, false, false] Try.f71) st) := GE.region_step (id := 14) (GE.reg_of (by kernel_rfl)) (by kernel_rfl)
theorem n71_55s : codeB Try.prog E ⟨f, 50, b, ro⟩ n71_55 st = plainS (runOps Try.prog E b q71_55 (ops [true, true, true, true, false, true, false, false, true, true, false, false, true] Try.f71) st) := GE.region_step (id := 15) (GE.reg_of (by kernel_rfl)) (by kernel_rfl)
theorem n71_53s : codeB Try.prog E cx n71_53 st = thenS (codeB Try.prog E cx n71_54 st) (codeB Try.prog E cx n71_55) := GE.seq_step (by kernel_rfl)
theorem n71_52s : codeB Try.prog E cx n71_52 st = blockS 5 (codeB Try.prog E cx n71_53 st) st := GE.block_step (by kernel_rfl)
theorem n71_56s : codeB Try.prog E ⟨f, 50, b, ro⟩ n71_56 st = plainS (runOps Try.prog E b q71_56 (ops [true, true, true, true, false, true, false, false, true, true, true] Try.f71) st) := GE.region_step (id := 16) (GE.reg_of (by kernel_rfl)) (by kernel_rfl)
theorem n71_51s : codeB Try.prog E cx n71_51 st = thenS (codeB Try.prog E cx n71_52 st) (codeB Try.prog E cx n71_56) := GE.seq_step (by kernel_rfl)
theorem n71_47s : codeB Try.prog E cx n71_47 st = thenS (codeB Try.prog E cx n71_48 st) (codeB Try.prog E cx n71_51) := GE.seq_step (by kernel_rfl)
theorem n71_45s : codeB Try.prog E cx n71_45 st = thenS (codeB Try.prog E cx n71_46 st) (codeB Try.prog E cx n71_47) := GE.seq_step (by kernel_rfl)
theorem n71_44k : LL.kp (⟨71, 50, b, ro⟩ : Cx).fn (4 * rid n71_45 + 3) = some ⟨[0, 3, 8, 35, 36], [⟨0, 0, 1, true⟩, ⟨8, 0, 1, true⟩]⟩ := by kernel_rfl
theorem n71_44s : codeB Try.prog LL ⟨71, 50, b, ro⟩ n71_44 st = headS b ⟨[0, 3, 8, 35, 36], [⟨0, 0, 1, true⟩, ⟨8, 0, 1, true⟩]⟩ st (lpB Try.prog LL ⟨71, 50, b, ro⟩ n71_44 n71_45) := GE.lpB_step (by kernel_rfl) (n71_44k b ro)
theorem n71_44g : LL.code ⟨71, 50, b, ro⟩ n71_44 st = headS b ⟨[0, 3, 8, 35, 36], [⟨0, 0, 1, true⟩, ⟨8, 0, 1, true⟩]⟩ st (lpB Try.prog LL ⟨71, 50, b, ro⟩ n71_44 n71_45) := GE.lpB_again (by kernel_rfl) (n71_44k b ro)
theorem n71_43s : codeB Try.prog E cx n71_43 st = blockS 4 (codeB Try.prog E cx n71_44 st) st := GE.block_step (by kernel_rfl)
theorem n71_41s : codeB Try.prog E cx n71_41 st = thenS (codeB Try.prog E cx n71_42 st) (codeB Try.prog E cx n71_43) := GE.seq_step (by kernel_rfl)
theorem n71_58s : codeB Try.prog E ⟨f, 50, b, ro⟩ n71_58 st = plainS (runOps Try.prog E b q71_58 (ops [true, true, true, true, true, false] Try.f71) st) := GE.region_step (id := 17) (GE.reg_of (by kernel_rfl)) (by kernel_rfl)
theorem n71_59s : codeB Try.prog LL ⟨71, 50, b, ro⟩ n71_59 st = normS b ⟨[2], [⟨2, 0, 1, true⟩]⟩ .ret st := GE.ret_step (by kernel_rfl) (by kernel_rfl)
theorem n71_57s : codeB Try.prog E cx n71_57 st = thenS (codeB Try.prog E cx n71_58 st) (codeB Try.prog E cx n71_59) := GE.seq_step (by kernel_rfl)
theorem n71_40s : codeB Try.prog E cx n71_40 st = thenS (codeB Try.prog E cx n71_41 st) (codeB Try.prog E cx n71_57) := GE.seq_step (by kernel_rfl)
theorem n71_38s : codeB Try.prog E cx n71_38 st = thenS (codeB Try.prog E cx n71_39 st) (codeB Try.prog E cx n71_40) := GE.seq_step (by kernel_rfl)
theorem n71_4s : codeB Try.prog E cx n71_4 st = thenS (codeB Try.prog E cx n71_5 st) (codeB Try.prog E cx n71_38) := GE.seq_step (by kernel_rfl)
theorem n71_2s : codeB Try.prog E cx n71_2 st = thenS (codeB Try.prog E cx n71_3 st) (codeB Try.prog E cx n71_4) := GE.seq_step (by kernel_rfl)
theorem n71_0s : codeB Try.prog E cx n71_0 st = thenS (codeB Try.prog E cx n71_1 st) (codeB Try.prog E cx n71_2) := GE.seq_step (by kernel_rfl)
noncomputable def n72_0 : Code := bodyOf Try.f72
noncomputable def n72_1 : Code := cl n72_0
noncomputable def q72_1 : List Oper := opsOf n72_1
noncomputable def n72_2 : Code := cr n72_0
noncomputable def n72_3 : Code := cl n72_2
noncomputable def q72_3 : List Oper := opsOf n72_3
noncomputable def n72_4 : Code := cr n72_2
noncomputable def n72_5 : Code := cl n72_4
noncomputable def n72_6 : Code := cl n72_5
noncomputable def q72_6 : List Oper := opsOf n72_6
noncomputable def n72_7 : Code := cr n72_5
noncomputable def n72_8 : Code := cl n72_7
noncomputable def n72_9 : Code := cl n72_8
noncomputable def n72_10 : Code := cl n72_9
noncomputable def n72_11 : Code := cl n72_10
noncomputable def q72_11 : List Oper := opsOf n72_11
noncomputable def n72_12 : Code := cr n72_10
noncomputable def n72_13 : Code := cl n72_12
noncomputable def n72_14 : Code := cr n72_12
noncomputable def n72_15 : Code := cr n72_9
noncomputable def n72_16 : Code := cl n72_15
noncomputable def n72_17 : Code := cl n72_16
noncomputable def n72_18 : Code := cl n72_17
noncomputable def n72_19 : Code := cl n72_18
noncomputable def q72_19 : List Oper := opsOf n72_19
noncomputable def n72_20 : Code := cr n72_18
noncomputable def n72_21 : Code := cl n72_20
noncomputable def q72_21 : List Oper := opsOf n72_21
noncomputable def n72_22 : Code := cr n72_20
noncomputable def n72_23 : Code := cr n72_17
noncomputable def q72_23 : List Oper := opsOf n72_23
noncomputable def n72_24 : Code := cr n72_15
noncomputable def q72_24 : List Oper := opsOf n72_24
noncomputable def n72_25 : Code := cr n72_4
noncomputable def n72_26 : Code := cl n72_25
noncomputable def q72_26 : List Oper := opsOf n72_26
noncomputable def n72_27 : Code := cr n72_25
noncomputable def n72_28 : Code := cl n72_27
noncomputable def n72_29 : Code := cl n72_28
noncomputable def q72_29 : List Oper := opsOf n72_29
noncomputable def n72_30 : Code := cr n72_28
noncomputable def n72_31 : Code := cl n72_30
noncomputable def n72_32 : Code := cl n72_31
noncomputable def n72_33 : Code := cl n72_32
noncomputable def n72_34 : Code := cl n72_33
noncomputable def q72_34 : List Oper := opsOf n72_34
noncomputable def n72_35 : Code := cr n72_33
noncomputable def n72_36 : Code := cl n72_35
noncomputable def n72_37 : Code := cr n72_35
noncomputable def n72_38 : Code := cr n72_32
noncomputable def n72_39 : Code := cl n72_38
noncomputable def n72_40 : Code := cl n72_39
noncomputable def q72_40 : List Oper := opsOf n72_40
noncomputable def n72_41 : Code := cr n72_38
noncomputable def q72_41 : List Oper := opsOf n72_41
noncomputable def n72_42 : Code := cr n72_27
noncomputable def n72_43 : Code := cl n72_42
noncomputable def q72_43 : List Oper := opsOf n72_43
noncomputable def n72_44 : Code := cr n72_42
theorem body72 : Try.f72.body = some n72_0 := by kernel_rfl
theorem run72 (E : Ev) (args : List Value) (h : List Blk) (hl : args.length ≤ 42) : runB Try.prog E 72 args h = endS Try.prog [.tmp 2] h.length (codeB Try.prog E ⟨72, 42, h.length, none⟩ n72_0 ⟨enumT 0 args, h, []⟩) := GE.run_step Try.func72 body72 (by kernel_rfl) (by decide) (by kernel_rfl) hl
theorem n72_1s : codeB Try.prog E ⟨f, 42, b, ro⟩ n72_1 st = plainS (runOps Try.prog E b q72_1 (ops [false] Try.f72) st) := GE.region_step (id := 0) (GE.reg_of (by kernel_rfl)) (by kernel_rfl)
theorem n72_3s : codeB Try.prog E ⟨f, 42, b, ro⟩ n72_3 st = plainS (runOps Try.prog E b q72_3 (ops [true, false] Try.f72) st) := GE.region_step (id := 1) (GE.reg_of (by kernel_rfl)) (by kernel_rfl)
theorem n72_6s : codeB Try.prog E ⟨f, 42, b, ro⟩ n72_6 st = plainS (runOps Try.prog E b q72_6 (ops [true, true, false, false] Try.f72) st) := GE.region_step (id := 2) (GE.reg_of (by kernel_rfl)) (by kernel_rfl)
theorem n72_11s : codeB Try.prog E ⟨f, 42, b, ro⟩ n72_11 st = plainS (runOps Try.prog E b q72_11 (ops [true, true, false, true, false, false, false, false] Try.f72) st) := GE.region_step (id := 3) (GE.reg_of (by kernel_rfl)) (by kernel_rfl)
theorem n72_13s : codeB Try.prog E cx n72_13 st = some (.normal, st) := GE.skip_step (by kernel_rfl)
theorem n72_14s : codeB Try.prog LL ⟨72, 42, b, ro⟩ n72_14 st = normS b ⟨[0, 3, 4], [⟨0, 0, 1, true⟩]⟩ (.exit 0) st := GE.exit_step (by kernel_rfl) (by kernel_rfl)
theorem n72_12s : codeB Try.prog E cx n72_12 st = condS (codeB Try.prog E cx n72_13) (codeB Try.prog E cx n72_14) (lk st.σ 11) st := GE.cond_step (c := .tmp 11) (by kernel_rfl)
theorem n72_10s : codeB Try.prog E cx n72_10 st = thenS (codeB Try.prog E cx n72_11 st) (codeB Try.prog E cx n72_12) := GE.seq_step (by kernel_rfl)
theorem n72_19s : codeB Try.prog E ⟨f, 42, b, ro⟩ n72_19 st = plainS (runOps Try.prog E b q72_19 (ops [true, true, false, true, false, false, true, false, false, false, false] Try.f72) st) := GE.region_step (id := 5) (GE.reg_of (by kernel_rfl)) (by kernel_rfl)
theorem n72_21s : codeB Try.prog E ⟨f, 42, b, ro⟩ n72_21 st = plainS (runOps Try.prog E b q72_21 (ops [true, true, false, true, false, false, true, false, false, false, true, false] Try.f72) st) := GE.region_step (id := 6) (GE.reg_of (by kernel_rfl)) (by kernel_rfl)
theorem n72_22s : codeB Try.prog E cx n72_22 st = some (.normal, st) := GE.skip_step (by kernel_rfl)
theorem n72_20s : codeB Try.prog E cx n72_20 st = condS (codeB Try.prog E cx n72_21) (codeB Try.prog E cx n72_22) (lk st.σ 18) st := GE.cond_step (c := .tmp 18) (by kernel_rfl)
theorem n72_18s : codeB Try.prog E cx n72_18 st = thenS (codeB Try.prog E cx n72_19 st) (codeB Try.prog E cx n72_20) := GE.seq_step (by kernel_rfl)
theorem n72_23s : codeB Try.prog E ⟨f, 42, b, ro⟩ n72_23 st = plainS (runOps Try.prog E b q72_23 (ops [true, true, false, true, false, false, true, false, false, true] Try.f72) st) := GE.region_step (id := 7) (GE.reg_of (by kernel_rfl)) (by kernel_rfl)
theorem n72_17s : codeB Try.prog E cx n72_17 st = thenS (codeB Try.prog E cx n72_18 st) (codeB Try.prog E cx n72_23) := GE.seq_step (by kernel_rfl)
theorem n72_16s : codeB Try.prog E cx n72_16 st = blockS 1 (codeB Try.prog E cx n72_17 st) st := GE.block_step (by kernel_rfl)
theorem n72_24s : codeB Try.prog E ⟨f, 42, b, ro⟩ n72_24 st = plainS (runOps Try.prog E b q72_24 (ops [true, true, false, true, false, false, true, true] Try.f72) st) := GE.region_step (id := 4) (GE.reg_of (by kernel_rfl)) (by kernel_rfl)
theorem n72_15s : codeB Try.prog E cx n72_15 st = thenS (codeB Try.prog E cx n72_16 st) (codeB Try.prog E cx n72_24) := GE.seq_step (by kernel_rfl)
theorem n72_9s : codeB Try.prog E cx n72_9 st = thenS (codeB Try.prog E cx n72_10 st) (codeB Try.prog E cx n72_15) := GE.seq_step (by kernel_rfl)
theorem n72_8k : LL.kp (⟨72, 42, b, ro⟩ : Cx).fn (4 * rid n72_9 + 3) = some ⟨[0, 3, 4, 5], [⟨0, 0, 1, true⟩]⟩ := by kernel_rfl
theorem n72_8s : codeB Try.prog LL ⟨72, 42, b, ro⟩ n72_8 st = headS b ⟨[0, 3, 4, 5], [⟨0, 0, 1, true⟩]⟩ st (lpB Try.prog LL ⟨72, 42, b, ro⟩ n72_8 n72_9) := GE.lpB_step (by kernel_rfl) (n72_8k b ro)
theorem n72_8g : LL.code ⟨72, 42, b, ro⟩ n72_8 st = headS b ⟨[0, 3, 4, 5], [⟨0, 0, 1, true⟩]⟩ st (lpB Try.prog LL ⟨72, 42, b, ro⟩ n72_8 n72_9) := GE.lpB_again (by kernel_rfl) (n72_8k b ro)
theorem n72_7s : codeB Try.prog E cx n72_7 st = blockS 0 (codeB Try.prog E cx n72_8 st) st := GE.block_step (by kernel_rfl)
theorem n72_5s : codeB Try.prog E cx n72_5 st = thenS (codeB Try.prog E cx n72_6 st) (codeB Try.prog E cx n72_7) := GE.seq_step (by kernel_rfl)
theorem n72_26s : codeB Try.prog E ⟨f, 42, b, ro⟩ n72_26 st = plainS (runOps Try.prog E b q72_26 (ops [true, true, true, false] Try.f72) st) := GE.region_step (id := 8) (GE.reg_of (by kernel_rfl)) (by kernel_rfl)
theorem n72_29s : codeB Try.prog E ⟨f, 42, b, ro⟩ n72_29 st = plainS (runOps Try.prog E b q72_29 (ops [true, true, true, true, false, false] Try.f72) st) := GE.region_step (id := 9) (GE.reg_of (by kernel_rfl)) (by kernel_rfl)
theorem n72_34s : codeB Try.prog E ⟨f, 42, b, ro⟩ n72_34 st = plainS (runOps Try.prog E b q72_34 (ops [true, true, true, true, false, true, false, false, false, false] Try.f72) st) := GE.region_step (id := 10) (GE.reg_of (by kernel_rfl)) (by kernel_rfl)
theorem n72_36s : codeB Try.prog E cx n72_36 st = some (.normal, st) := GE.skip_step (by kernel_rfl)
theorem n72_37s : codeB Try.prog LL ⟨72, 42, b, ro⟩ n72_37 st = normS b ⟨[6], [⟨6, 0, 1, true⟩]⟩ (.exit 2) st := GE.exit_step (by kernel_rfl) (by kernel_rfl)
theorem n72_35s : codeB Try.prog E cx n72_35 st = condS (codeB Try.prog E cx n72_36) (codeB Try.prog E cx n72_37) (lk st.σ 29) st := GE.cond_step (c := .tmp 29) (by kernel_rfl)
theorem n72_33s : codeB Try.prog E cx n72_33 st = thenS (codeB Try.prog E cx n72_34 st) (codeB Try.prog E cx n72_35) := GE.seq_step (by kernel_rfl)
theorem n72_40s : codeB Try.prog E ⟨f, 42, b, ro⟩ n72_40 st = plainS (runOps Try.prog E b q72_40 (ops [true, true, true, true, false, true, false, false, true, false, false] Try.f72) st) := GE.region_step (id := 12) (GE.reg_of (by kernel_rfl)) (by kernel_rfl)
theorem n72_39s : codeB Try.prog E cx n72_39 st = blockS 3 (codeB Try.prog E cx n72_40 st) st := GE.block_step (by kernel_rfl)
theorem n72_41s : codeB Try.prog E ⟨f, 42, b, ro⟩ n72_41 st = plainS (runOps Try.prog E b q72_41 (ops [true, true, true, true, false, true, false, false, true, true] Try.f72) st) := GE.region_step (id := 11) (GE.reg_of (by kernel_rfl)) (by kernel_rfl)
theorem n72_38s : codeB Try.prog E cx n72_38 st = thenS (codeB Try.prog E cx n72_39 st) (codeB Try.prog E cx n72_41) := GE.seq_step (by kernel_rfl)
theorem n72_32s : codeB Try.prog E cx n72_32 st = thenS (codeB Try.prog E cx n72_33 st) (codeB Try.prog E cx n72_38) := GE.seq_step (by kernel_rfl)
theorem n72_31k : LL.kp (⟨72, 42, b, ro⟩ : Cx).fn (4 * rid n72_32 + 3) = some ⟨[0, 3, 4, 6, 7], [⟨0, 0, 1, true⟩, ⟨6, 0, 1, true⟩]⟩ := by kernel_rfl
theorem n72_31s : codeB Try.prog LL ⟨72, 42, b, ro⟩ n72_31 st = headS b ⟨[0, 3, 4, 6, 7], [⟨0, 0, 1, true⟩, ⟨6, 0, 1, true⟩]⟩ st (lpB Try.prog LL ⟨72, 42, b, ro⟩ n72_31 n72_32) := GE.lpB_step (by kernel_rfl) (n72_31k b ro)
theorem n72_31g : LL.code ⟨72, 42, b, ro⟩ n72_31 st = headS b ⟨[0, 3, 4, 6, 7], [⟨0, 0, 1, true⟩, ⟨6, 0, 1, true⟩]⟩ st (lpB Try.prog LL ⟨72, 42, b, ro⟩ n72_31 n72_32) := GE.lpB_again (by kernel_rfl) (n72_31k b ro)
theorem n72_30s : codeB Try.prog E cx n72_30 st = blockS 2 (codeB Try.prog E cx n72_31 st) st := GE.block_step (by kernel_rfl)
theorem n72_28s : codeB Try.prog E cx n72_28 st = thenS (codeB Try.prog E cx n72_29 st) (codeB Try.prog E cx n72_30) := GE.seq_step (by kernel_rfl)
theorem n72_43s : codeB Try.prog E ⟨f, 42, b, ro⟩ n72_43 st = plainS (runOps Try.prog E b q72_43 (ops [true, true, true, true, true, false] Try.f72) st) := GE.region_step (id := 13) (GE.reg_of (by kernel_rfl)) (by kernel_rfl)
theorem n72_44s : codeB Try.prog LL ⟨72, 42, b, ro⟩ n72_44 st = normS b ⟨[2], [⟨2, 0, 1, true⟩]⟩ .ret st := GE.ret_step (by kernel_rfl) (by kernel_rfl)
theorem n72_42s : codeB Try.prog E cx n72_42 st = thenS (codeB Try.prog E cx n72_43 st) (codeB Try.prog E cx n72_44) := GE.seq_step (by kernel_rfl)
theorem n72_27s : codeB Try.prog E cx n72_27 st = thenS (codeB Try.prog E cx n72_28 st) (codeB Try.prog E cx n72_42) := GE.seq_step (by kernel_rfl)
theorem n72_25s : codeB Try.prog E cx n72_25 st = thenS (codeB Try.prog E cx n72_26 st) (codeB Try.prog E cx n72_27) := GE.seq_step (by kernel_rfl)
theorem n72_4s : codeB Try.prog E cx n72_4 st = thenS (codeB Try.prog E cx n72_5 st) (codeB Try.prog E cx n72_25) := GE.seq_step (by kernel_rfl)
theorem n72_2s : codeB Try.prog E cx n72_2 st = thenS (codeB Try.prog E cx n72_3 st) (codeB Try.prog E cx n72_4) := GE.seq_step (by kernel_rfl)
theorem n72_0s : codeB Try.prog E cx n72_0 st = thenS (codeB Try.prog E cx n72_1 st) (codeB Try.prog E cx n72_2) := GE.seq_step (by kernel_rfl)
noncomputable def n73_0 : Code := bodyOf Try.f73
noncomputable def n73_1 : Code := cl n73_0
noncomputable def q73_1 : List Oper := opsOf n73_1
noncomputable def n73_2 : Code := cr n73_0
noncomputable def n73_3 : Code := cl n73_2
noncomputable def n73_4 : Code := cl n73_3
noncomputable def q73_4 : List Oper := opsOf n73_4
noncomputable def n73_5 : Code := cr n73_3
noncomputable def n73_6 : Code := cl n73_5
noncomputable def n73_7 : Code := cl n73_6
noncomputable def n73_8 : Code := cl n73_7
noncomputable def q73_8 : List Oper := opsOf n73_8
noncomputable def n73_9 : Code := cr n73_7
noncomputable def n73_10 : Code := cl n73_9
noncomputable def n73_11 : Code := cl n73_10
noncomputable def n73_12 : Code := cr n73_10
noncomputable def n73_13 : Code := cr n73_9
noncomputable def n73_14 : Code := cl n73_13
noncomputable def n73_15 : Code := cl n73_14
noncomputable def n73_16 : Code := cl n73_15
noncomputable def q73_16 : List Oper := opsOf n73_16
noncomputable def n73_17 : Code := cr n73_15
noncomputable def n73_18 : Code := cl n73_17
noncomputable def q73_18 : List Oper := opsOf n73_18
noncomputable def n73_19 : Code := cr n73_17
noncomputable def n73_20 : Code := cl n73_19
noncomputable def n73_21 : Code := cl n73_20
noncomputable def q73_21 : List Oper := opsOf n73_21
noncomputable def n73_22 : Code := cr n73_20
noncomputable def n73_23 : Code := cr n73_19
noncomputable def n73_24 : Code := cr n73_13
noncomputable def q73_24 : List Oper := opsOf n73_24
noncomputable def n73_25 : Code := cr n73_2
noncomputable def n73_26 : Code := cl n73_25
noncomputable def q73_26 : List Oper := opsOf n73_26
noncomputable def n73_27 : Code := cr n73_25
theorem body73 : Try.f73.body = some n73_0 := by kernel_rfl
theorem run73 (E : Ev) (args : List Value) (h : List Blk) (hl : args.length ≤ 19) : runB Try.prog E 73 args h = endS Try.prog [.tmp 4] h.length (codeB Try.prog E ⟨73, 19, h.length, none⟩ n73_0 ⟨enumT 0 args, h, []⟩) := GE.run_step Try.func73 body73 (by kernel_rfl) (by decide) (by kernel_rfl) hl
theorem n73_1s : codeB Try.prog E ⟨f, 19, b, ro⟩ n73_1 st = plainS (runOps Try.prog E b q73_1 (ops [false] Try.f73) st) := GE.region_step (id := 0) (GE.reg_of (by kernel_rfl)) (by kernel_rfl)
theorem n73_4s : codeB Try.prog E ⟨f, 19, b, ro⟩ n73_4 st = plainS (runOps Try.prog E b q73_4 (ops [true, false, false] Try.f73) st) := GE.region_step (id := 1) (GE.reg_of (by kernel_rfl)) (by kernel_rfl)
theorem n73_8s : codeB Try.prog E ⟨f, 19, b, ro⟩ n73_8 st = plainS (runOps Try.prog E b q73_8 (ops [true, false, true, false, false, false] Try.f73) st) := GE.region_step (id := 2) (GE.reg_of (by kernel_rfl)) (by kernel_rfl)
theorem n73_11s : codeB Try.prog E cx n73_11 st = some (.normal, st) := GE.skip_step (by kernel_rfl)
theorem n73_12s : codeB Try.prog LL ⟨73, 19, b, ro⟩ n73_12 st = normS b ⟨[], []⟩ (.exit 0) st := GE.exit_step (by kernel_rfl) (by kernel_rfl)
theorem n73_10s : codeB Try.prog E cx n73_10 st = condS (codeB Try.prog E cx n73_11) (codeB Try.prog E cx n73_12) (lk st.σ 9) st := GE.cond_step (c := .tmp 9) (by kernel_rfl)
theorem n73_16s : codeB Try.prog E ⟨f, 19, b, ro⟩ n73_16 st = plainS (runOps Try.prog E b q73_16 (ops [true, false, true, false, false, true, true, false, false, false] Try.f73) st) := GE.region_step (id := 3) (GE.reg_of (by kernel_rfl)) (by kernel_rfl)
theorem n73_18s : codeB Try.prog E ⟨f, 19, b, ro⟩ n73_18 st = plainS (runOps Try.prog E b q73_18 (ops [true, false, true, false, false, true, true, false, false, true, false] Try.f73) st) := GE.region_step (id := 4) (GE.reg_of (by kernel_rfl)) (by kernel_rfl)
theorem n73_21s : codeB Try.prog E ⟨f, 19, b, ro⟩ n73_21 st = plainS (runOps Try.prog E b q73_21 (ops [true, false, true, false, false, true, true, false, false, true, true, false, false] Try.f73) st) := GE.region_step (id := 5) (GE.reg_of (by kernel_rfl)) (by kernel_rfl)
theorem n73_22s : codeB Try.prog LL ⟨73, 19, b, ro⟩ n73_22 st = normS b ⟨[4], []⟩ .ret st := GE.ret_step (by kernel_rfl) (by kernel_rfl)
theorem n73_20s : codeB Try.prog E cx n73_20 st = thenS (codeB Try.prog E cx n73_21 st) (codeB Try.prog E cx n73_22) := GE.seq_step (by kernel_rfl)
theorem n73_23s : codeB Try.prog E cx n73_23 st = some (.normal, st) := GE.skip_step (by kernel_rfl)
theorem n73_19s : codeB Try.prog E cx n73_19 st = condS (codeB Try.prog E cx n73_20) (codeB Try.prog E cx n73_23) (lk st.σ 16) st := GE.cond_step (c := .tmp 16) (by kernel_rfl)
theorem n73_17s : codeB Try.prog E cx n73_17 st = thenS (codeB Try.prog E cx n73_18 st) (codeB Try.prog E cx n73_19) := GE.seq_step (by kernel_rfl)
theorem n73_15s : codeB Try.prog E cx n73_15 st = thenS (codeB Try.prog E cx n73_16 st) (codeB Try.prog E cx n73_17) := GE.seq_step (by kernel_rfl)
theorem n73_14s : codeB Try.prog E cx n73_14 st = blockS 1 (codeB Try.prog E cx n73_15 st) st := GE.block_step (by kernel_rfl)
theorem n73_24s : codeB Try.prog E ⟨f, 19, b, ro⟩ n73_24 st = plainS (runOps Try.prog E b q73_24 (ops [true, false, true, false, false, true, true, true] Try.f73) st) := GE.region_step (id := 6) (GE.reg_of (by kernel_rfl)) (by kernel_rfl)
theorem n73_13s : codeB Try.prog E cx n73_13 st = thenS (codeB Try.prog E cx n73_14 st) (codeB Try.prog E cx n73_24) := GE.seq_step (by kernel_rfl)
theorem n73_9s : codeB Try.prog E cx n73_9 st = thenS (codeB Try.prog E cx n73_10 st) (codeB Try.prog E cx n73_13) := GE.seq_step (by kernel_rfl)
theorem n73_7s : codeB Try.prog E cx n73_7 st = thenS (codeB Try.prog E cx n73_8 st) (codeB Try.prog E cx n73_9) := GE.seq_step (by kernel_rfl)
theorem n73_6k : LL.kp (⟨73, 19, b, ro⟩ : Cx).fn (4 * rid n73_7 + 3) = some ⟨[0, 1, 7, 8], [⟨0, 0, 1, true⟩]⟩ := by kernel_rfl
theorem n73_6s : codeB Try.prog LL ⟨73, 19, b, ro⟩ n73_6 st = headS b ⟨[0, 1, 7, 8], [⟨0, 0, 1, true⟩]⟩ st (lpB Try.prog LL ⟨73, 19, b, ro⟩ n73_6 n73_7) := GE.lpB_step (by kernel_rfl) (n73_6k b ro)
theorem n73_6g : LL.code ⟨73, 19, b, ro⟩ n73_6 st = headS b ⟨[0, 1, 7, 8], [⟨0, 0, 1, true⟩]⟩ st (lpB Try.prog LL ⟨73, 19, b, ro⟩ n73_6 n73_7) := GE.lpB_again (by kernel_rfl) (n73_6k b ro)
theorem n73_5s : codeB Try.prog E cx n73_5 st = blockS 0 (codeB Try.prog E cx n73_6 st) st := GE.block_step (by kernel_rfl)
theorem n73_3s : codeB Try.prog E cx n73_3 st = thenS (codeB Try.prog E cx n73_4 st) (codeB Try.prog E cx n73_5) := GE.seq_step (by kernel_rfl)
theorem n73_26s : codeB Try.prog E ⟨f, 19, b, ro⟩ n73_26 st = plainS (runOps Try.prog E b q73_26 (ops [true, true, false] Try.f73) st) := GE.region_step (id := 7) (GE.reg_of (by kernel_rfl)) (by kernel_rfl)
theorem n73_27s : codeB Try.prog LL ⟨73, 19, b, ro⟩ n73_27 st = normS b ⟨[4], []⟩ .ret st := GE.ret_step (by kernel_rfl) (by kernel_rfl)
theorem n73_25s : codeB Try.prog E cx n73_25 st = thenS (codeB Try.prog E cx n73_26 st) (codeB Try.prog E cx n73_27) := GE.seq_step (by kernel_rfl)
theorem n73_2s : codeB Try.prog E cx n73_2 st = thenS (codeB Try.prog E cx n73_3 st) (codeB Try.prog E cx n73_25) := GE.seq_step (by kernel_rfl)
theorem n73_0s : codeB Try.prog E cx n73_0 st = thenS (codeB Try.prog E cx n73_1 st) (codeB Try.prog E cx n73_2) := GE.seq_step (by kernel_rfl)
noncomputable def n74_0 : Code := bodyOf Try.f74
noncomputable def n74_1 : Code := cl n74_0
noncomputable def q74_1 : List Oper := opsOf n74_1
noncomputable def n74_2 : Code := cr n74_0
noncomputable def n74_3 : Code := cl n74_2
noncomputable def q74_3 : List Oper := opsOf n74_3
noncomputable def n74_4 : Code := cr n74_2
theorem body74 : Try.f74.body = some n74_0 := by kernel_rfl
theorem run74 (E : Ev) (args : List Value) (h : List Blk) (hl : args.length ≤ 15) : runB Try.prog E 74 args h = endS Try.prog [.tmp 6] h.length (codeB Try.prog E ⟨74, 15, h.length, none⟩ n74_0 ⟨enumT 0 args, h, []⟩) := GE.run_step Try.func74 body74 (by kernel_rfl) (by decide) (by kernel_rfl) hl
theorem n74_1s : codeB Try.prog E ⟨f, 15, b, ro⟩ n74_1 st = plainS (runOps Try.prog E b q74_1 (ops [false] Try.f74) st) := GE.region_step (id := 0) (GE.reg_of (by kernel_rfl)) (by kernel_rfl)
theorem q74_3g3 : gd q74_3 3 = some 10 := by kernel_rfl
theorem n74_3s : codeB Try.prog E ⟨f, 15, b, ro⟩ n74_3 st = plainS (runOps Try.prog E b q74_3 (ops [true, false] Try.f74) st) := GE.region_step (id := 1) (GE.reg_of (by kernel_rfl)) (by kernel_rfl)
theorem n74_4s : codeB Try.prog LL ⟨74, 15, b, ro⟩ n74_4 st = normS b ⟨[6], []⟩ .ret st := GE.ret_step (by kernel_rfl) (by kernel_rfl)
theorem n74_2s : codeB Try.prog E cx n74_2 st = thenS (codeB Try.prog E cx n74_3 st) (codeB Try.prog E cx n74_4) := GE.seq_step (by kernel_rfl)
theorem n74_0s : codeB Try.prog E cx n74_0 st = thenS (codeB Try.prog E cx n74_1 st) (codeB Try.prog E cx n74_2) := GE.seq_step (by kernel_rfl)
noncomputable def n77_0 : Code := bodyOf Try.f77
noncomputable def n77_1 : Code := cl n77_0
noncomputable def q77_1 : List Oper := opsOf n77_1
noncomputable def n77_2 : Code := cr n77_0
noncomputable def n77_3 : Code := cl n77_2
noncomputable def n77_4 : Code := cl n77_3
noncomputable def n77_5 : Code := cl n77_4
noncomputable def n77_6 : Code := cl n77_5
noncomputable def q77_6 : List Oper := opsOf n77_6
noncomputable def n77_7 : Code := cr n77_5
noncomputable def n77_8 : Code := cl n77_7
noncomputable def n77_9 : Code := cr n77_7
noncomputable def n77_10 : Code := cr n77_4
noncomputable def n77_11 : Code := cl n77_10
noncomputable def n77_12 : Code := cl n77_11
noncomputable def n77_13 : Code := cl n77_12
noncomputable def q77_13 : List Oper := opsOf n77_13
noncomputable def n77_14 : Code := cr n77_12
noncomputable def n77_15 : Code := cl n77_14
noncomputable def n77_16 : Code := cr n77_14
noncomputable def n77_17 : Code := cr n77_10
noncomputable def q77_17 : List Oper := opsOf n77_17
theorem body77 : Try.f77.body = some n77_0 := by kernel_rfl
theorem run77 (E : Ev) (args : List Value) (h : List Blk) (hl : args.length ≤ 19) : runB Try.prog E 77 args h = endS Try.prog [] h.length (codeB Try.prog E ⟨77, 19, h.length, none⟩ n77_0 ⟨enumT 0 args, h, []⟩) := GE.run_step Try.func77 body77 (by kernel_rfl) (by decide) (by kernel_rfl) hl
theorem n77_1s : codeB Try.prog E ⟨f, 19, b, ro⟩ n77_1 st = plainS (runOps Try.prog E b q77_1 (ops [false] Try.f77) st) := GE.region_step (id := 0) (GE.reg_of (by kernel_rfl)) (by kernel_rfl)
theorem n77_6s : codeB Try.prog E ⟨f, 19, b, ro⟩ n77_6 st = plainS (runOps Try.prog E b q77_6 (ops [true, false, false, false, false] Try.f77) st) := GE.region_step (id := 1) (GE.reg_of (by kernel_rfl)) (by kernel_rfl)
theorem n77_8s : codeB Try.prog E cx n77_8 st = some (.normal, st) := GE.skip_step (by kernel_rfl)
theorem n77_9s : codeB Try.prog LL ⟨77, 19, b, ro⟩ n77_9 st = normS b ⟨[], []⟩ (.exit 0) st := GE.exit_step (by kernel_rfl) (by kernel_rfl)
theorem n77_7s : codeB Try.prog E cx n77_7 st = condS (codeB Try.prog E cx n77_8) (codeB Try.prog E cx n77_9) (lk st.σ 8) st := GE.cond_step (c := .tmp 8) (by kernel_rfl)
theorem n77_5s : codeB Try.prog E cx n77_5 st = thenS (codeB Try.prog E cx n77_6 st) (codeB Try.prog E cx n77_7) := GE.seq_step (by kernel_rfl)
theorem n77_13s : codeB Try.prog E ⟨f, 19, b, ro⟩ n77_13 st = plainS (runOps Try.prog E b q77_13 (ops [true, false, false, true, false, false, false] Try.f77) st) := GE.region_step (id := 3) (GE.reg_of (by kernel_rfl)) (by kernel_rfl)
theorem n77_15s : codeB Try.prog LL ⟨77, 19, b, ro⟩ n77_15 st = normS b ⟨[], []⟩ .ret st := GE.ret_step (by kernel_rfl) (by kernel_rfl)
theorem n77_16s : codeB Try.prog E cx n77_16 st = some (.normal, st) := GE.skip_step (by kernel_rfl)
theorem n77_14s : codeB Try.prog E cx n77_14 st = condS (codeB Try.prog E cx n77_15) (codeB Try.prog E cx n77_16) (lk st.σ 18) st := GE.cond_step (c := .tmp 18) (by kernel_rfl)
theorem n77_12s : codeB Try.prog E cx n77_12 st = thenS (codeB Try.prog E cx n77_13 st) (codeB Try.prog E cx n77_14) := GE.seq_step (by kernel_rfl)
theorem n77_11s : codeB Try.prog E cx n77_11 st = blockS 1 (codeB Try.prog E cx n77_12 st) st := GE.block_step (by kernel_rfl)
theorem n77_17s : codeB Try.prog E ⟨f, 19, b, ro⟩ n77_17 st = plainS (runOps Try.prog E b q77_17 (ops [true, false, false, true, true] Try.f77) st) := GE.region_step (id := 2) (GE.reg_of (by kernel_rfl)) (by kernel_rfl)
theorem n77_10s : codeB Try.prog E cx n77_10 st = thenS (codeB Try.prog E cx n77_11 st) (codeB Try.prog E cx n77_17) := GE.seq_step (by kernel_rfl)
theorem n77_4s : codeB Try.prog E cx n77_4 st = thenS (codeB Try.prog E cx n77_5 st) (codeB Try.prog E cx n77_10) := GE.seq_step (by kernel_rfl)
theorem n77_3k : LL.kp (⟨77, 19, b, ro⟩ : Cx).fn (4 * rid n77_4 + 3) = some ⟨[0, 1, 3], []⟩ := by kernel_rfl
theorem n77_3s : codeB Try.prog LL ⟨77, 19, b, ro⟩ n77_3 st = headS b ⟨[0, 1, 3], []⟩ st (lpB Try.prog LL ⟨77, 19, b, ro⟩ n77_3 n77_4) := GE.lpB_step (by kernel_rfl) (n77_3k b ro)
theorem n77_3g : LL.code ⟨77, 19, b, ro⟩ n77_3 st = headS b ⟨[0, 1, 3], []⟩ st (lpB Try.prog LL ⟨77, 19, b, ro⟩ n77_3 n77_4) := GE.lpB_again (by kernel_rfl) (n77_3k b ro)
theorem n77_2s : codeB Try.prog E cx n77_2 st = blockS 0 (codeB Try.prog E cx n77_3 st) st := GE.block_step (by kernel_rfl)
theorem n77_0s : codeB Try.prog E cx n77_0 st = thenS (codeB Try.prog E cx n77_1 st) (codeB Try.prog E cx n77_2) := GE.seq_step (by kernel_rfl)
noncomputable def n78_0 : Code := bodyOf Try.f78
noncomputable def n78_1 : Code := cl n78_0
noncomputable def q78_1 : List Oper := opsOf n78_1
noncomputable def n78_2 : Code := cr n78_0
noncomputable def n78_3 : Code := cl n78_2
noncomputable def n78_4 : Code := cl n78_3
noncomputable def n78_5 : Code := cl n78_4
noncomputable def n78_6 : Code := cl n78_5
noncomputable def n78_7 : Code := cl n78_6
noncomputable def q78_7 : List Oper := opsOf n78_7
noncomputable def n78_8 : Code := cr n78_6
noncomputable def n78_9 : Code := cl n78_8
noncomputable def n78_10 : Code := cr n78_8
noncomputable def n78_11 : Code := cr n78_5
noncomputable def n78_12 : Code := cl n78_11
noncomputable def q78_12 : List Oper := opsOf n78_12
noncomputable def n78_13 : Code := cr n78_2
noncomputable def n78_14 : Code := cl n78_13
noncomputable def q78_14 : List Oper := opsOf n78_14
noncomputable def n78_15 : Code := cr n78_13
theorem body78 : Try.f78.body = some n78_0 := by kernel_rfl
theorem run78 (E : Ev) (args : List Value) (h : List Blk) (hl : args.length ≤ 17) : runB Try.prog E 78 args h = endS Try.prog [.tmp 2] h.length (codeB Try.prog E ⟨78, 17, h.length, none⟩ n78_0 ⟨enumT 0 args, h, []⟩) := GE.run_step Try.func78 body78 (by kernel_rfl) (by decide) (by kernel_rfl) hl
theorem n78_1s : codeB Try.prog E ⟨f, 17, b, ro⟩ n78_1 st = plainS (runOps Try.prog E b q78_1 (ops [false] Try.f78) st) := GE.region_step (id := 0) (GE.reg_of (by kernel_rfl)) (by kernel_rfl)
theorem q78_7g3 : gd q78_7 3 = some 6 := by kernel_rfl
theorem n78_7s : codeB Try.prog E ⟨f, 17, b, ro⟩ n78_7 st = plainS (runOps Try.prog E b q78_7 (ops [true, false, false, false, false, false] Try.f78) st) := GE.region_step (id := 1) (GE.reg_of (by kernel_rfl)) (by kernel_rfl)
theorem n78_9s : codeB Try.prog E cx n78_9 st = some (.normal, st) := GE.skip_step (by kernel_rfl)
theorem n78_10s : codeB Try.prog LL ⟨78, 17, b, ro⟩ n78_10 st = normS b ⟨[0], [⟨0, 0, 1, true⟩]⟩ (.exit 0) st := GE.exit_step (by kernel_rfl) (by kernel_rfl)
theorem n78_8s : codeB Try.prog E cx n78_8 st = condS (codeB Try.prog E cx n78_9) (codeB Try.prog E cx n78_10) (lk st.σ 10) st := GE.cond_step (c := .tmp 10) (by kernel_rfl)
theorem n78_6s : codeB Try.prog E cx n78_6 st = thenS (codeB Try.prog E cx n78_7 st) (codeB Try.prog E cx n78_8) := GE.seq_step (by kernel_rfl)
theorem n78_12s : codeB Try.prog E ⟨f, 17, b, ro⟩ n78_12 st = plainS (runOps Try.prog E b q78_12 (ops [true, false, false, false, true, false] Try.f78) st) := GE.region_step (id := 2) (GE.reg_of (by kernel_rfl)) (by kernel_rfl)
theorem n78_11s : codeB Try.prog E cx n78_11 st = blockS 1 (codeB Try.prog E cx n78_12 st) st := GE.block_step (by kernel_rfl)
theorem n78_5s : codeB Try.prog E cx n78_5 st = thenS (codeB Try.prog E cx n78_6 st) (codeB Try.prog E cx n78_11) := GE.seq_step (by kernel_rfl)
theorem n78_4k : LL.kp (⟨78, 17, b, ro⟩ : Cx).fn (4 * rid n78_5 + 3) = some ⟨[0], [⟨0, 0, 1, true⟩]⟩ := by kernel_rfl
theorem n78_4s : codeB Try.prog LL ⟨78, 17, b, ro⟩ n78_4 st = headS b ⟨[0], [⟨0, 0, 1, true⟩]⟩ st (lpB Try.prog LL ⟨78, 17, b, ro⟩ n78_4 n78_5) := GE.lpB_step (by kernel_rfl) (n78_4k b ro)
theorem n78_4g : LL.code ⟨78, 17, b, ro⟩ n78_4 st = headS b ⟨[0], [⟨0, 0, 1, true⟩]⟩ st (lpB Try.prog LL ⟨78, 17, b, ro⟩ n78_4 n78_5) := GE.lpB_again (by kernel_rfl) (n78_4k b ro)
theorem n78_3s : codeB Try.prog E cx n78_3 st = blockS 0 (codeB Try.prog E cx n78_4 st) st := GE.block_step (by kernel_rfl)
theorem n78_14s : codeB Try.prog E ⟨f, 17, b, ro⟩ n78_14 st = plainS (runOps Try.prog E b q78_14 (ops [true, true, false] Try.f78) st) := GE.region_step (id := 3) (GE.reg_of (by kernel_rfl)) (by kernel_rfl)
theorem n78_15s : codeB Try.prog LL ⟨78, 17, b, ro⟩ n78_15 st = normS b ⟨[2], [⟨2, 0, 1, true⟩]⟩ .ret st := GE.ret_step (by kernel_rfl) (by kernel_rfl)
theorem n78_13s : codeB Try.prog E cx n78_13 st = thenS (codeB Try.prog E cx n78_14 st) (codeB Try.prog E cx n78_15) := GE.seq_step (by kernel_rfl)
theorem n78_2s : codeB Try.prog E cx n78_2 st = thenS (codeB Try.prog E cx n78_3 st) (codeB Try.prog E cx n78_13) := GE.seq_step (by kernel_rfl)
theorem n78_0s : codeB Try.prog E cx n78_0 st = thenS (codeB Try.prog E cx n78_1 st) (codeB Try.prog E cx n78_2) := GE.seq_step (by kernel_rfl)
noncomputable def n79_0 : Code := bodyOf Try.f79
noncomputable def n79_1 : Code := cl n79_0
noncomputable def q79_1 : List Oper := opsOf n79_1
noncomputable def n79_2 : Code := cr n79_0
noncomputable def n79_3 : Code := cl n79_2
noncomputable def q79_3 : List Oper := opsOf n79_3
noncomputable def n79_4 : Code := cr n79_2
theorem body79 : Try.f79.body = some n79_0 := by kernel_rfl
theorem run79 (E : Ev) (args : List Value) (h : List Blk) (hl : args.length ≤ 8) : runB Try.prog E 79 args h = endS Try.prog [.tmp 4] h.length (codeB Try.prog E ⟨79, 8, h.length, none⟩ n79_0 ⟨enumT 0 args, h, []⟩) := GE.run_step Try.func79 body79 (by kernel_rfl) (by decide) (by kernel_rfl) hl
theorem n79_1s : codeB Try.prog E ⟨f, 8, b, ro⟩ n79_1 st = plainS (runOps Try.prog E b q79_1 (ops [false] Try.f79) st) := GE.region_step (id := 0) (GE.reg_of (by kernel_rfl)) (by kernel_rfl)
theorem n79_3s : codeB Try.prog E ⟨f, 8, b, ro⟩ n79_3 st = plainS (runOps Try.prog E b q79_3 (ops [true, false] Try.f79) st) := GE.region_step (id := 1) (GE.reg_of (by kernel_rfl)) (by kernel_rfl)
theorem n79_4s : codeB Try.prog LL ⟨79, 8, b, ro⟩ n79_4 st = normS b ⟨[4], [⟨4, 0, 1, false⟩]⟩ .ret st := GE.ret_step (by kernel_rfl) (by kernel_rfl)
theorem n79_2s : codeB Try.prog E cx n79_2 st = thenS (codeB Try.prog E cx n79_3 st) (codeB Try.prog E cx n79_4) := GE.seq_step (by kernel_rfl)
theorem n79_0s : codeB Try.prog E cx n79_0 st = thenS (codeB Try.prog E cx n79_1 st) (codeB Try.prog E cx n79_2) := GE.seq_step (by kernel_rfl)
noncomputable def n80_0 : Code := bodyOf Try.f80
noncomputable def n80_1 : Code := cl n80_0
noncomputable def q80_1 : List Oper := opsOf n80_1
noncomputable def n80_2 : Code := cr n80_0
noncomputable def n80_3 : Code := cl n80_2
noncomputable def q80_3 : List Oper := opsOf n80_3
noncomputable def n80_4 : Code := cr n80_2
noncomputable def n80_5 : Code := cl n80_4
noncomputable def n80_6 : Code := cl n80_5
noncomputable def n80_7 : Code := cl n80_6
noncomputable def n80_8 : Code := cl n80_7
noncomputable def n80_9 : Code := cl n80_8
noncomputable def q80_9 : List Oper := opsOf n80_9
noncomputable def n80_10 : Code := cr n80_8
noncomputable def n80_11 : Code := cl n80_10
noncomputable def n80_12 : Code := cr n80_10
noncomputable def n80_13 : Code := cr n80_7
noncomputable def n80_14 : Code := cl n80_13
noncomputable def q80_14 : List Oper := opsOf n80_14
noncomputable def n80_15 : Code := cr n80_4
noncomputable def n80_16 : Code := cl n80_15
noncomputable def q80_16 : List Oper := opsOf n80_16
noncomputable def n80_17 : Code := cr n80_15
theorem body80 : Try.f80.body = some n80_0 := by kernel_rfl
theorem run80 (E : Ev) (args : List Value) (h : List Blk) (hl : args.length ≤ 20) : runB Try.prog E 80 args h = endS Try.prog [.tmp 4] h.length (codeB Try.prog E ⟨80, 20, h.length, none⟩ n80_0 ⟨enumT 0 args, h, []⟩) := GE.run_step Try.func80 body80 (by kernel_rfl) (by decide) (by kernel_rfl) hl
theorem n80_1s : codeB Try.prog E ⟨f, 20, b, ro⟩ n80_1 st = plainS (runOps Try.prog E b q80_1 (ops [false] Try.f80) st) := GE.region_step (id := 0) (GE.reg_of (by kernel_rfl)) (by kernel_rfl)
theorem n80_3s : codeB Try.prog E ⟨f, 20, b, ro⟩ n80_3 st = plainS (runOps Try.prog E b q80_3 (ops [true, false] Try.f80) st) := GE.region_step (id := 1) (GE.reg_of (by kernel_rfl)) (by kernel_rfl)
theorem n80_9s : codeB Try.prog E ⟨f, 20, b, ro⟩ n80_9 st = plainS (runOps Try.prog E b q80_9 (ops [true, true, false, false, false, false, false] Try.f80) st) := GE.region_step (id := 2) (GE.reg_of (by kernel_rfl)) (by kernel_rfl)
theorem n80_11s : codeB Try.prog E cx n80_11 st = some (.normal, st) := GE.skip_step (by kernel_rfl)
theorem n80_12s : codeB Try.prog LL ⟨80, 20, b, ro⟩ n80_12 st = normS b ⟨[0], []⟩ (.exit 0) st := GE.exit_step (by kernel_rfl) (by kernel_rfl)
theorem n80_10s : codeB Try.prog E cx n80_10 st = condS (codeB Try.prog E cx n80_11) (codeB Try.prog E cx n80_12) (lk st.σ 14) st := GE.cond_step (c := .tmp 14) (by kernel_rfl)
theorem n80_8s : codeB Try.prog E cx n80_8 st = thenS (codeB Try.prog E cx n80_9 st) (codeB Try.prog E cx n80_10) := GE.seq_step (by kernel_rfl)
theorem n80_14s : codeB Try.prog E ⟨f, 20, b, ro⟩ n80_14 st = drawS [0, 0, 0, 6, 3, 31] (runOpsF Try.prog E b q80_14 (ops [true, true, false, false, false, true, false] Try.f80) st) := GE.draw_step (id := 3) (GE.reg_of (by kernel_rfl)) (by kernel_rfl) (by kernel_rfl) (by kernel_rfl)
theorem n80_13s : codeB Try.prog E cx n80_13 st = blockS 1 (codeB Try.prog E cx n80_14 st) st := GE.block_step (by kernel_rfl)
theorem n80_7s : codeB Try.prog E cx n80_7 st = thenS (codeB Try.prog E cx n80_8 st) (codeB Try.prog E cx n80_13) := GE.seq_step (by kernel_rfl)
theorem n80_6k : LL.kp (⟨80, 20, b, ro⟩ : Cx).fn (4 * rid n80_7 + 3) = some ⟨[0, 1], []⟩ := by kernel_rfl
theorem n80_6s : codeB Try.prog LL ⟨80, 20, b, ro⟩ n80_6 st = headS b ⟨[0, 1], []⟩ st (lpB Try.prog LL ⟨80, 20, b, ro⟩ n80_6 n80_7) := GE.lpB_step (by kernel_rfl) (n80_6k b ro)
theorem n80_6g : LL.code ⟨80, 20, b, ro⟩ n80_6 st = headS b ⟨[0, 1], []⟩ st (lpB Try.prog LL ⟨80, 20, b, ro⟩ n80_6 n80_7) := GE.lpB_again (by kernel_rfl) (n80_6k b ro)
theorem n80_5s : codeB Try.prog E cx n80_5 st = blockS 0 (codeB Try.prog E cx n80_6 st) st := GE.block_step (by kernel_rfl)
theorem n80_16s : codeB Try.prog E ⟨f, 20, b, ro⟩ n80_16 st = plainS (runOps Try.prog E b q80_16 (ops [true, true, true, false] Try.f80) st) := GE.region_step (id := 4) (GE.reg_of (by kernel_rfl)) (by kernel_rfl)
theorem n80_17s : codeB Try.prog LL ⟨80, 20, b, ro⟩ n80_17 st = normS b ⟨[4], []⟩ .ret st := GE.ret_step (by kernel_rfl) (by kernel_rfl)
theorem n80_15s : codeB Try.prog E cx n80_15 st = thenS (codeB Try.prog E cx n80_16 st) (codeB Try.prog E cx n80_17) := GE.seq_step (by kernel_rfl)
theorem n80_4s : codeB Try.prog E cx n80_4 st = thenS (codeB Try.prog E cx n80_5 st) (codeB Try.prog E cx n80_15) := GE.seq_step (by kernel_rfl)
theorem n80_2s : codeB Try.prog E cx n80_2 st = thenS (codeB Try.prog E cx n80_3 st) (codeB Try.prog E cx n80_4) := GE.seq_step (by kernel_rfl)
theorem n80_0s : codeB Try.prog E cx n80_0 st = thenS (codeB Try.prog E cx n80_1 st) (codeB Try.prog E cx n80_2) := GE.seq_step (by kernel_rfl)
theorem lk_22 : lenK Try.prog 22 = some .sl := by kernel_rfl
theorem ia_24 : aggK Try.prog 24 = some (true, 2) := by kernel_rfl
theorem lk_76 : lenK Try.prog 76 = some .sl := by kernel_rfl
theorem es_76 : elemK Try.prog 76 = some (none, 1) := by kernel_rfl
theorem ia_71 : aggK Try.prog 71 = some (false, 1) := by kernel_rfl
theorem es_31 : elemK Try.prog 31 = some (none, 1) := by kernel_rfl
theorem ze_31 : zeroE Try.prog 31 = some (.slice none 0 0) := by kernel_rfl
theorem ba_31_1 : baseArr (Value.cells (.slice none 0 0)) (1 * 1) = #[(.slice none 0 0)] := by kernel_rfl
theorem ap_31 : apK Try.prog 31 = some (1, 24) := by kernel_rfl
theorem ni_31 : notInt Try.prog 31 = true := by kernel_rfl
theorem es_22 : elemK Try.prog 22 = some (none, 1) := by kernel_rfl
theorem ia_3 : aggK Try.prog 3 = some (false, 1) := by kernel_rfl
theorem lk_31 : lenK Try.prog 31 = some .sl := by kernel_rfl
theorem ia_22 : aggK Try.prog 22 = some (false, 1) := by kernel_rfl
theorem fa_24_0 : fieldAt Try.prog 24 0 = some (0, 1) := by kernel_rfl
theorem fa_24_1 : fieldAt Try.prog 24 1 = some (1, 1) := by kernel_rfl
theorem za_3 : zeroA Try.prog 3 = some (.int .i64 (0)) := by kernel_rfl
theorem sz_3 : aggSize Try.prog 3 = some 1 := by kernel_rfl
theorem ba_31_2 : baseArr (Value.cells (.slice none 0 0)) (2 * 1) = #[(.slice none 0 0), (.slice none 0 0)] := by kernel_rfl
theorem lk_71 : lenK Try.prog 71 = some .sl := by kernel_rfl
theorem es_71 : elemK Try.prog 71 = some (none, 1) := by kernel_rfl
theorem ze_22 : zeroE Try.prog 22 = some (.int .i64 (0)) := by kernel_rfl
theorem ba_22_1 : baseArr (Value.cells (.int .i64 (0))) (1 * 1) = #[(.int .i64 (0))] := by kernel_rfl
theorem ap_22 : apK Try.prog 22 = some (1, 8) := by kernel_rfl
theorem ni_22 : notInt Try.prog 22 = true := by kernel_rfl
theorem sl_22 : elemK Try.prog 22 = some (none, 1) := by kernel_rfl
theorem ze_76 : zeroE Try.prog 76 = some (.slice none 0 0) := by kernel_rfl
theorem ba_76_2 : baseArr (Value.cells (.slice none 0 0)) (2 * 1) = #[(.slice none 0 0), (.slice none 0 0)] := by kernel_rfl
theorem ba_76_1 : baseArr (Value.cells (.slice none 0 0)) (1 * 1) = #[(.slice none 0 0)] := by kernel_rfl
theorem sl_71 : elemK Try.prog 71 = some (none, 1) := by kernel_rfl
theorem ap_76 : apK Try.prog 76 = some (1, 24) := by kernel_rfl
theorem ni_76 : notInt Try.prog 76 = true := by kernel_rfl

end Go.Proofs.Ytkmompbfcgjgmaa.nt
