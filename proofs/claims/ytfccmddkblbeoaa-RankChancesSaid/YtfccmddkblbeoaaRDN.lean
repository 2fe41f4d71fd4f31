/-
  Names for the nodes of the code of some functions (projections of their bodies), the step of each node, and the facts of types that they use.
-/
import Derived.Test.YtfccmddkblbeoaaKp
namespace Go.Proofs.Ytfccmddkblbeoaa.rk
open Go.GE
set_option maxRecDepth 100000
variable (E : Ev) (cx : Cx) (st : St) (f nt b : Nat) (ro : Option Nat)
noncomputable def n5_0 : Code := bodyOf Try.f5
noncomputable def n5_1 : Code := cl n5_0
noncomputable def q5_1 : List Oper := opsOf n5_1
noncomputable def n5_2 : Code := cr n5_0
noncomputable def n5_3 : Code := cl n5_2
noncomputable def n5_4 : Code := cl n5_3
noncomputable def q5_4 : List Oper := opsOf n5_4
noncomputable def n5_5 : Code := cr n5_3
noncomputable def n5_6 : Code := cl n5_5
noncomputable def n5_7 : Code := cl n5_6
noncomputable def q5_7 : List Oper := opsOf n5_7
noncomputable def n5_8 : Code := cr n5_6
noncomputable def n5_9 : Code := cr n5_5
noncomputable def n5_10 : Code := cr n5_2
noncomputable def n5_11 : Code := cl n5_10
noncomputable def q5_11 : List Oper := opsOf n5_11
noncomputable def n5_12 : Code := cr n5_10
noncomputable def n5_13 : Code := cl n5_12
noncomputable def q5_13 : List Oper := opsOf n5_13
noncomputable def n5_14 : Code := cr n5_12
noncomputable def n5_15 : Code := cl n5_14
noncomputable def q5_15 : List Oper := opsOf n5_15
noncomputable def n5_16 : Code := cr n5_14
noncomputable def n5_17 : Code := cl n5_16
noncomputable def q5_17 : List Oper := opsOf n5_17
noncomputable def n5_18 : Code := cr n5_16
noncomputable def n5_19 : Code := cl n5_18
noncomputable def q5_19 : List Oper := opsOf n5_19
noncomputable def n5_20 : Code := cr n5_18
noncomputable def n5_21 : Code := cl n5_20
noncomputable def q5_21 : List Oper := opsOf n5_21
noncomputable def n5_22 : Code := cr n5_20
noncomputable def n5_23 : Code := cl n5_22
noncomputable def q5_23 : List Oper := opsOf n5_23
noncomputable def n5_24 : Code := cr n5_22
theorem body5 : Try.f5.body = some n5_0 := by kernel_rfl
theorem run5 (E : Ev) (args : List Value) (h : List Blk) (hl : args.length ≤ 106) : runB Try.prog E 5 args h = endS Try.prog [.tmp 8] h.length (codeB Try.prog E ⟨5, 106, h.length, none⟩ n5_0 ⟨enumT 0 args, h, []⟩) := GE.run_step Try.func5 body5 (by kernel_rfl) (by decide) (by kernel_rfl) hl
theorem n5_1s : codeB Try.prog E ⟨f, 106, b, ro⟩ n5_1 st = plainS (runOps Try.prog E b q5_1 (ops [false] Try.f5) st) := GE.region_step (id := 0) (GE.reg_of (by kernel_rfl)) (by kernel_rfl)
theorem q5_4g3 : gd q5_4 3 = some 24 := by kernel_rfl
theorem q5_4g8 : gd q5_4 8 = some 29 := by kernel_rfl
theorem n5_4s : codeB Try.prog E ⟨f, 106, b, ro⟩ n5_4 st = plainS (runOps Try.prog E b q5_4 (ops [true, false, false] Try.f5) st) := GE.region_step (id := 1) (GE.reg_of (by kernel_rfl)) (by kernel_rfl)
theorem n5_7s : codeB Try.prog E ⟨f, 106, b, ro⟩ n5_7 st = plainS (runOps Try.prog E b q5_7 (ops [true, false, true, false, false] Try.f5) st) := GE.region_step (id := 2) (GE.reg_of (by kernel_rfl)) (by kernel_rfl)
theorem n5_8s : codeB Try.prog LL ⟨5, 106, b, ro⟩ n5_8 st = normS b ⟨[8], []⟩ .ret st := GE.ret_step (by kernel_rfl) (by kernel_rfl)
theorem n5_6s : codeB Try.prog E cx n5_6 st = thenS (codeB Try.prog E cx n5_7 st) (codeB Try.prog E cx n5_8) := GE.seq_step (by kernel_rfl)
theorem n5_9s : codeB Try.prog E cx n5_9 st = some (.normal, st) := GE.skip_step (by kernel_rfl)
theorem n5_5s : codeB Try.prog E cx n5_5 st = condS (codeB Try.prog E cx n5_6) (codeB Try.prog E cx n5_9) (lk st.σ 33) st := GE.cond_step (c := .tmp 33) (by kernel_rfl)
theorem n5_3s : codeB Try.prog E cx n5_3 st = thenS (codeB Try.prog E cx n5_4 st) (codeB Try.prog E cx n5_5) := GE.seq_step (by kernel_rfl)
theorem n5_11s : codeB Try.prog E ⟨f, 106, b, ro⟩ n5_11 st = plainS (runOps Try.prog E b q5_11 (ops [true, true, false] Try.f5) st) := GE.region_step (id := 3) (GE.reg_of (by kernel_rfl)) (by kernel_rfl)
theorem n5_13s : codeB Try.prog E ⟨f, 106, b, ro⟩ n5_13 st = plainS (runOps Try.prog E b q5_13 (ops [true, true, true, false] Try.f5) st) := GE.region_step (id := 4) (GE.reg_of (by kernel_rfl)) (by kernel_rfl)
theorem n5_15s : codeB Try.prog E ⟨f, 106, b, ro⟩ n5_15 st = plainS (runOps Try.prog E b q5_15 (ops [true, true, true, true, false] Try.f5) st) := GE.region_step (id := 5) (GE.reg_of (by kernel_rfl)) (by kernel_rfl)
theorem n5_17s : codeB Try.prog E ⟨f, 106, b, ro⟩ n5_17 st = plainS (runOps Try.prog E b q5_17 (ops [true, true, true, true, true, false] Try.f5) st) := GE.region_step (id := 6) (GE.reg_of (by kernel_rfl)) (by kernel_rfl)
theorem n5_19s : codeB Try.prog E ⟨f, 106, b, ro⟩ n5_19 st = plainS (runOps Try.prog E b q5_19 (ops [true, true, true, true, true, true, false] Try.f5) st) := GE.region_step (id := 7) (GE.reg_of (by kernel_rfl)) (by kernel_rfl)
theorem n5_21s : codeB Try.prog E ⟨f, 106, b, ro⟩ n5_21 st = plainS (runOps Try.prog E b q5_21 (ops [true, true, true, true, true, true, true, false] Try.f5) st) := GE.region_step (id := 8) (GE.reg_of (by kernel_rfl)) (by kernel_rfl)
theorem q5_23g3 : gd q5_23 3 = some 78 := by kernel_rfl
theorem q5_23g8 : gd q5_23 8 = some 83 := by kernel_rfl
theorem q5_23g13 : gd q5_23 13 = some 88 := by kernel_rfl
theorem q5_23g18 : gd q5_23 18 = some 93 := by kernel_rfl
theorem q5_23g23 : gd q5_23 23 = some 98 := by kernel_rfl
theorem q5_23g28 : gd q5_23 28 = some 103 := by kernel_rfl
theorem n5_23s : codeB Try.prog E ⟨f, 106, b, ro⟩ n5_23 st = plainS (runOps Try.prog E b q5_23 (ops [true, true, true, true, true, true, true, true, false] Try.f5) st) := GE.region_step (id := 9) (GE.reg_of (by kernel_rfl)) (by kernel_rfl)
theorem n5_24s : codeB Try.prog LL ⟨5, 106, b, ro⟩ n5_24 st = normS b ⟨[8], []⟩ .ret st := GE.ret_step (by kernel_rfl) (by kernel_rfl)
theorem n5_22s : codeB Try.prog E cx n5_22 st = thenS (codeB Try.prog E cx n5_23 st) (codeB Try.prog E cx n5_24) := GE.seq_step (by kernel_rfl)
theorem n5_20s : codeB Try.prog E cx n5_20 st = thenS (codeB Try.prog E cx n5_21 st) (codeB Try.prog E cx n5_22) := GE.seq_step (by kernel_rfl)
theorem n5_18s : codeB Try.prog E cx n5_18 st = thenS (codeB Try.prog E cx n5_19 st) (codeB Try.prog E cx n5_20) := GE.seq_step (by kernel_rfl)
theorem n5_16s : codeB Try.prog E cx n5_16 st = thenS (codeB Try.prog E cx n5_17 st) (codeB Try.prog E cx n5_18) := GE.seq_step (by kernel_rfl)
theorem n5_14s : codeB Try.prog E cx n5_14 st = thenS (codeB Try.prog E cx n5_15 st) (codeB Try.prog E cx n5_16) := GE.seq_step (by kernel_rfl)
theorem n5_12s : codeB Try.prog E cx n5_12 st = thenS (codeB Try.prog E cx n5_13 st) (codeB Try.prog E cx n5_14) := GE.seq_step (by kernel_rfl)
theorem n5_10s : codeB Try.prog E cx n5_10 st = thenS (codeB Try.prog E cx n5_11 st) (codeB Try.prog E cx n5_12) := GE.seq_step (by kernel_rfl)
theorem n5_2s : codeB Try.prog E cx n5_2 st = thenS (codeB Try.prog E cx n5_3 st) (codeB Try.prog E cx n5_10) := GE.seq_step (by kernel_rfl)
theorem n5_0s : codeB Try.prog E cx n5_0 st = thenS (codeB Try.prog E cx n5_1 st) (codeB Try.prog E cx n5_2) := GE.seq_step (by kernel_rfl)
noncomputable def n29_0 : Code := bodyOf Try.f29
noncomputable def n29_1 : Code := cl n29_0
noncomputable def q29_1 : List Oper := opsOf n29_1
noncomputable def n29_2 : Code := cr n29_0
noncomputable def n29_3 : Code := cl n29_2
noncomputable def q29_3 : List Oper := opsOf n29_3
noncomputable def n29_4 : Code := cr n29_2
noncomputable def n29_5 : Code := cl n29_4
noncomputable def n29_6 : Code := cl n29_5
noncomputable def n29_7 : Code := cl n29_6
noncomputable def q29_7 : List Oper := opsOf n29_7
noncomputable def n29_8 : Code := cr n29_6
noncomputable def n29_9 : Code := cl n29_8
noncomputable def n29_10 : Code := cl n29_9
noncomputable def q29_10 : List Oper := opsOf n29_10
noncomputable def n29_11 : Code := cr n29_9
noncomputable def n29_12 : Code := cr n29_8
noncomputable def n29_13 : Code := cl n29_12
noncomputable def q29_13 : List Oper := opsOf n29_13
noncomputable def n29_14 : Code := cr n29_12
noncomputable def n29_15 : Code := cl n29_14
noncomputable def n29_16 : Code := cl n29_15
noncomputable def q29_16 : List Oper := opsOf n29_16
noncomputable def n29_17 : Code := cr n29_15
noncomputable def n29_18 : Code := cr n29_14
noncomputable def n29_19 : Code := cr n29_4
noncomputable def n29_20 : Code := cl n29_19
noncomputable def q29_20 : List Oper := opsOf n29_20
noncomputable def n29_21 : Code := cr n29_19
theorem body29 : Try.f29.body = some n29_0 := by kernel_rfl
theorem run29 (E : Ev) (args : List Value) (h : List Blk) (hl : args.length ≤ 27) : runB Try.prog E 29 args h = endS Try.prog [.tmp 4, .tmp 5] h.length (codeB Try.prog E ⟨29, 27, h.length, none⟩ n29_0 ⟨enumT 0 args, h, []⟩) := GE.run_step Try.func29 body29 (by kernel_rfl) (by decide) (by kernel_rfl) hl
theorem n29_1s : codeB Try.prog E ⟨f, 27, b, ro⟩ n29_1 st = plainS (runOps Try.prog E b q29_1 (ops [false] Try.f29) st) := GE.region_step (id := 0) (GE.reg_of (by kernel_rfl)) (by kernel_rfl)
theorem n29_3s : codeB Try.prog E ⟨f, 27, b, ro⟩ n29_3 st = plainS (runOps Try.prog E b q29_3 (ops [true, false] Try.f29) st) := GE.region_step (id := 1) (GE.reg_of (by kernel_rfl)) (by kernel_rfl)
theorem n29_7s : codeB Try.prog E ⟨f, 27, b, ro⟩ n29_7 st = plainS (runOps Try.prog E b q29_7 (ops [true, true, false, false, false] Try.f29) st) := GE.region_step (id := 2) (GE.reg_of (by kernel_rfl)) (by kernel_rfl)
theorem n29_10s : codeB Try.prog E ⟨f, 27, b, ro⟩ n29_10 st = plainS (runOps Try.prog E b q29_10 (ops [true, true, false, false, true, false, false] Try.f29) st) := GE.region_step (id := 3) (GE.reg_of (by kernel_rfl)) (by kernel_rfl)
theorem n29_11s : codeB Try.prog LL ⟨29, 27, b, ro⟩ n29_11 st = normS b ⟨[4, 5], []⟩ .ret st := GE.ret_step (by kernel_rfl) (by kernel_rfl)
theorem n29_9s : codeB Try.prog E cx n29_9 st = thenS (codeB Try.prog E cx n29_10 st) (codeB Try.prog E cx n29_11) := GE.seq_step (by kernel_rfl)
theorem n29_13s : codeB Try.prog E ⟨f, 27, b, ro⟩ n29_13 st = plainS (runOps Try.prog E b q29_13 (ops [true, true, false, false, true, true, false] Try.f29) st) := GE.region_step (id := 4) (GE.reg_of (by kernel_rfl)) (by kernel_rfl)
theorem n29_16s : codeB Try.prog E ⟨f, 27, b, ro⟩ n29_16 st = plainS (runOps Try.prog E b q29_16 (ops [true, true, false, false, true, true, true, false, false] Try.f29) st) := GE.region_step (id := 5) (GE.reg_of (by kernel_rfl)) (by kernel_rfl)
theorem n29_17s : codeB Try.prog LL ⟨29, 27, b, ro⟩ n29_17 st = normS b ⟨[4, 5], []⟩ .ret st := GE.ret_step (by kernel_rfl) (by kernel_rfl)
theorem n29_15s : codeB Try.prog E cx n29_15 st = thenS (codeB Try.prog E cx n29_16 st) (codeB Try.prog E cx n29_17) := GE.seq_step (by kernel_rfl)
theorem n29_18s : codeB Try.prog E cx n29_18 st = some (.normal, st) := GE.skip_step (by kernel_rfl)
theorem n29_14s : codeB Try.prog E cx n29_14 st = condS (codeB Try.prog E cx n29_15) (codeB Try.prog E cx n29_18) (lk st.σ 17) st := GE.cond_step (c := .tmp 17) (by kernel_rfl)
theorem n29_12s : codeB Try.prog E cx n29_12 st = thenS (codeB Try.prog E cx n29_13 st) (codeB Try.prog E cx n29_14) := GE.seq_step (by kernel_rfl)
theorem n29_8s : codeB Try.prog E cx n29_8 st = condS (codeB Try.prog E cx n29_9) (codeB Try.prog E cx n29_12) (lk st.σ 13) st := GE.cond_step (c := .tmp 13) (by kernel_rfl)
theorem n29_6s : codeB Try.prog E cx n29_6 st = thenS (codeB Try.prog E cx n29_7 st) (codeB Try.prog E cx n29_8) := GE.seq_step (by kernel_rfl)
theorem n29_5s : codeB Try.prog E cx n29_5 st = blockS 0 (codeB Try.prog E cx n29_6 st) st := GE.block_step (by kernel_rfl)
theorem n29_20s : codeB Try.prog E ⟨f, 27, b, ro⟩ n29_20 st = plainS (runOps Try.prog E b q29_20 (ops [true, true, true, false] Try.f29) st) := GE.region_step (id := 6) (GE.reg_of (by kernel_rfl)) (by kernel_rfl)
theorem n29_21s : codeB Try.prog LL ⟨29, 27, b, ro⟩ n29_21 st = normS b ⟨[4, 5], []⟩ .ret st := GE.ret_step (by kernel_rfl) (by kernel_rfl)
theorem n29_19s : codeB Try.prog E cx n29_19 st = thenS (codeB Try.prog E cx n29_20 st) (codeB Try.prog E cx n29_21) := GE.seq_step (by kernel_rfl)
theorem n29_4s : codeB Try.prog E cx n29_4 st = thenS (codeB Try.prog E cx n29_5 st) (codeB Try.prog E cx n29_19) := GE.seq_step (by kernel_rfl)
theorem n29_2s : codeB Try.prog E cx n29_2 st = thenS (codeB Try.prog E cx n29_3 st) (codeB Try.prog E cx n29_4) := GE.seq_step (by kernel_rfl)
theorem n29_0s : codeB Try.prog E cx n29_0 st = thenS (codeB Try.prog E cx n29_1 st) (codeB Try.prog E cx n29_2) := GE.seq_step (by kernel_rfl)
noncomputable def n30_0 : Code := bodyOf Try.f30
noncomputable def n30_1 : Code := cl n30_0
noncomputable def q30_1 : List Oper := opsOf n30_1
noncomputable def n30_2 : Code := cr n30_0
noncomputable def n30_3 : Code := cl n30_2
noncomputable def q30_3 : List Oper := opsOf n30_3
noncomputable def n30_4 : Code := cr n30_2
noncomputable def n30_5 : Code := cl n30_4
noncomputable def n30_6 : Code := cl n30_5
noncomputable def q30_6 : List Oper := opsOf n30_6
noncomputable def n30_7 : Code := cr n30_5
noncomputable def n30_8 : Code := cl n30_7
noncomputable def q30_8 : List Oper := opsOf n30_8
noncomputable def n30_9 : Code := cr n30_7
noncomputable def n30_10 : Code := cr n30_4
noncomputable def n30_11 : Code := cl n30_10
noncomputable def n30_12 : Code := cl n30_11
noncomputable def q30_12 : List Oper := opsOf n30_12
noncomputable def n30_13 : Code := cr n30_11
noncomputable def n30_14 : Code := cl n30_13
noncomputable def n30_15 : Code := cl n30_14
noncomputable def q30_15 : List Oper := opsOf n30_15
noncomputable def n30_16 : Code := cr n30_14
noncomputable def n30_17 : Code := cr n30_13
noncomputable def n30_18 : Code := cr n30_10
noncomputable def n30_19 : Code := cl n30_18
noncomputable def q30_19 : List Oper := opsOf n30_19
noncomputable def n30_20 : Code := cr n30_18
noncomputable def n30_21 : Code := cl n30_20
noncomputable def q30_21 : List Oper := opsOf n30_21
noncomputable def n30_22 : Code := cr n30_20
noncomputable def n30_23 : Code := cl n30_22
noncomputable def n30_24 : Code := cl n30_23
noncomputable def q30_24 : List Oper := opsOf n30_24
noncomputable def n30_25 : Code := cr n30_23
noncomputable def n30_26 : Code := cl n30_25
noncomputable def n30_27 : Code := cl n30_26
noncomputable def n30_28 : Code := cl n30_27
noncomputable def n30_29 : Code := cl n30_28
noncomputable def q30_29 : List Oper := opsOf n30_29
noncomputable def n30_30 : Code := cr n30_28
noncomputable def n30_31 : Code := cl n30_30
noncomputable def n30_32 : Code := cr n30_30
noncomputable def n30_33 : Code := cr n30_27
noncomputable def n30_34 : Code := cl n30_33
noncomputable def n30_35 : Code := cl n30_34
noncomputable def n30_36 : Code := cl n30_35
noncomputable def q30_36 : List Oper := opsOf n30_36
noncomputable def n30_37 : Code := cr n30_35
noncomputable def n30_38 : Code := cl n30_37
noncomputable def q30_38 : List Oper := opsOf n30_38
noncomputable def n30_39 : Code := cr n30_37
noncomputable def n30_40 : Code := cr n30_33
noncomputable def q30_40 : List Oper := opsOf n30_40
noncomputable def n30_41 : Code := cr n30_22
noncomputable def n30_42 : Code := cl n30_41
noncomputable def q30_42 : List Oper := opsOf n30_42
noncomputable def n30_43 : Code := cr n30_41
theorem body30 : Try.f30.body = some n30_0 := by kernel_rfl
theorem run30 (E : Ev) (args : List Value) (h : List Blk) (hl : args.length ≤ 46) : runB Try.prog E 30 args h = endS Try.prog [.tmp 4, .tmp 5] h.length (codeB Try.prog E ⟨30, 46, h.length, none⟩ n30_0 ⟨enumT 0 args, h, []⟩) := GE.run_step Try.func30 body30 (by kernel_rfl) (by decide) (by kernel_rfl) hl
theorem n30_1s : codeB Try.prog E ⟨f, 46, b, ro⟩ n30_1 st = plainS (runOps Try.prog E b q30_1 (ops [false] Try.f30) st) := GE.region_step (id := 0) (GE.reg_of (by kernel_rfl)) (by kernel_rfl)
theorem n30_3s : codeB Try.prog E ⟨f, 46, b, ro⟩ n30_3 st = plainS (runOps Try.prog E b q30_3 (ops [true, false] Try.f30) st) := GE.region_step (id := 1) (GE.reg_of (by kernel_rfl)) (by kernel_rfl)
theorem q30_6g2 : gd q30_6 2 = some 14 := by kernel_rfl
theorem n30_6s : codeB Try.prog E ⟨f, 46, b, ro⟩ n30_6 st = plainS (runOps Try.prog E b q30_6 (ops [true, true, false, false] Try.f30) st) := GE.region_step (id := 2) (GE.reg_of (by kernel_rfl)) (by kernel_rfl)
theorem n30_8s : codeB Try.prog E ⟨f, 46, b, ro⟩ n30_8 st = plainS (runOps Try.prog E b q30_8 (ops [true, true, false, true, false] Try.f30) st) := GE.region_step (id := 3) (GE.reg_of (by kernel_rfl)) (by kernel_rfl)
theorem n30_9s : codeB Try.prog E cx n30_9 st = some (.normal, st) := GE.skip_step (by kernel_rfl)
theorem n30_7s : codeB Try.prog E cx n30_7 st = condS (codeB Try.prog E cx n30_8) (codeB Try.prog E cx n30_9) (lk st.σ 20) st := GE.cond_step (c := .tmp 20) (by kernel_rfl)
theorem n30_5s : codeB Try.prog E cx n30_5 st = thenS (codeB Try.prog E cx n30_6 st) (codeB Try.prog E cx n30_7) := GE.seq_step (by kernel_rfl)
theorem n30_12s : codeB Try.prog E ⟨f, 46, b, ro⟩ n30_12 st = plainS (runOps Try.prog E b q30_12 (ops [true, true, true, false, false] Try.f30) st) := GE.region_step (id := 4) (GE.reg_of (by kernel_rfl)) (by kernel_rfl)
theorem n30_15s : codeB Try.prog E ⟨f, 46, b, ro⟩ n30_15 st = plainS (runOps Try.prog E b q30_15 (ops [true, true, true, false, true, false, false] Try.f30) st) := GE.region_step (id := 5) (GE.reg_of (by kernel_rfl)) (by kernel_rfl)
theorem n30_16s : codeB Try.prog LL ⟨30, 46, b, ro⟩ n30_16 st = normS b ⟨[4, 5], []⟩ .ret st := GE.ret_step (by kernel_rfl) (by kernel_rfl)
theorem n30_14s : codeB Try.prog E cx n30_14 st = thenS (codeB Try.prog E cx n30_15 st) (codeB Try.prog E cx n30_16) := GE.seq_step (by kernel_rfl)
theorem n30_17s : codeB Try.prog E cx n30_17 st = some (.normal, st) := GE.skip_step (by kernel_rfl)
theorem n30_13s : codeB Try.prog E cx n30_13 st = condS (codeB Try.prog E cx n30_14) (codeB Try.prog E cx n30_17) (lk st.σ 22) st := GE.cond_step (c := .tmp 22) (by kernel_rfl)
theorem n30_11s : codeB Try.prog E cx n30_11 st = thenS (codeB Try.prog E cx n30_12 st) (codeB Try.prog E cx n30_13) := GE.seq_step (by kernel_rfl)
theorem n30_19s : codeB Try.prog E ⟨f, 46, b, ro⟩ n30_19 st = plainS (runOps Try.prog E b q30_19 (ops [true, true, true, true, false] Try.f30) st) := GE.region_step (id := 6) (GE.reg_of (by kernel_rfl)) (by kernel_rfl)
theorem n30_21s : codeB Try.prog E ⟨f, 46, b, ro⟩ n30_21 st = plainS (runOps Try.prog E b q30_21 (ops [true, true, true, true, true, false] Try.f30) st) := GE.region_step (id := 7) (GE.reg_of (by kernel_rfl)) (by kernel_rfl)
theorem n30_24s : codeB Try.prog E ⟨f, 46, b, ro⟩ n30_24 st = plainS (runOps Try.prog E b q30_24 (ops [true, true, true, true, true, true, false, false] Try.f30) st) := GE.region_step (id := 8) (GE.reg_of (by kernel_rfl)) (by kernel_rfl)
theorem n30_29s : codeB Try.prog E ⟨f, 46, b, ro⟩ n30_29 st = plainS (runOps Try.prog E b q30_29 (ops [true, true, true, true, true, true, false, true, false, false, false, false] Try.f30) st) := GE.region_step (id := 9) (GE.reg_of (by kernel_rfl)) (by kernel_rfl)
theorem n30_31s : codeB Try.prog E cx n30_31 st = some (.normal, st) := GE.skip_step (by kernel_rfl)
theorem n30_32s : codeB Try.prog LL ⟨30, 46, b, ro⟩ n30_32 st = normS b ⟨[8], []⟩ (.exit 0) st := GE.exit_step (by kernel_rfl) (by kernel_rfl)
theorem n30_30s : codeB Try.prog E cx n30_30 st = condS (codeB Try.prog E cx n30_31) (codeB Try.prog E cx n30_32) (lk st.σ 29) st := GE.cond_step (c := .tmp 29) (by kernel_rfl)
theorem n30_28s : codeB Try.prog E cx n30_28 st = thenS (codeB Try.prog E cx n30_29 st) (codeB Try.prog E cx n30_30) := GE.seq_step (by kernel_rfl)
theorem q30_36g5 : gd q30_36 5 = some 37 := by kernel_rfl
theorem n30_36s : codeB Try.prog E ⟨f, 46, b, ro⟩ n30_36 st = plainS (runOps Try.prog E b q30_36 (ops [true, true, true, true, true, true, false, true, false, false, true, false, false, false] Try.f30) st) := GE.region_step (id := 11) (GE.reg_of (by kernel_rfl)) (by kernel_rfl)
theorem n30_38s : codeB Try.prog E ⟨f, 46, b, ro⟩ n30_38 st = plainS (runOps Try.prog E b q30_38 (ops [true, true, true, true, true, true, false, true, false, false, true, false, false, true, false] Try.f30) st) := GE.region_step (id := 12) (GE.reg_of (by kernel_rfl)) (by kernel_rfl)
theorem n30_39s : codeB Try.prog E cx n30_39 st = some (.normal, st) := GE.skip_step (by kernel_rfl)
theorem n30_37s : codeB Try.prog E cx n30_37 st = condS (codeB Try.prog E cx n30_38) (codeB Try.prog E cx n30_39) (lk st.σ 42) st := GE.cond_step (c := .tmp 42) (by kernel_rfl)
theorem n30_35s : codeB Try.prog E cx n30_35 st = thenS (codeB Try.prog E cx n30_36 st) (codeB Try.prog E cx n30_37) := GE.seq_step (by kernel_rfl)
theorem n30_34s : codeB Try.prog E cx n30_34 st = blockS 1 (codeB Try.prog E cx n30_35 st) st := GE.block_step (by kernel_rfl)
theorem n30_40s : codeB Try.prog E ⟨f, 46, b, ro⟩ n30_40 st = plainS (runOps Try.prog E b q30_40 (ops [true, true, true, true, true, true, false, true, false, false, true, true] Try.f30) st) := GE.region_step (id := 10) (GE.reg_of (by kernel_rfl)) (by kernel_rfl)
theorem n30_33s : codeB Try.prog E cx n30_33 st = thenS (codeB Try.prog E cx n30_34 st) (codeB Try.prog E cx n30_40) := GE.seq_step (by kernel_rfl)
theorem n30_27s : codeB Try.prog E cx n30_27 st = thenS (codeB Try.prog E cx n30_28 st) (codeB Try.prog E cx n30_33) := GE.seq_step (by kernel_rfl)
theorem n30_26k : LL.kp (⟨30, 46, b, ro⟩ : Cx).fn (4 * rid n30_27 + 3) = some ⟨[1, 7, 8, 9], [⟨7, 0, 1, true⟩]⟩ := by kernel_rfl
theorem n30_26s : codeB Try.prog LL ⟨30, 46, b, ro⟩ n30_26 st = headS b ⟨[1, 7, 8, 9], [⟨7, 0, 1, true⟩]⟩ st (lpB Try.prog LL ⟨30, 46, b, ro⟩ n30_26 n30_27) := GE.lpB_step (by kernel_rfl) (n30_26k b ro)
theorem n30_26g : LL.code ⟨30, 46, b, ro⟩ n30_26 st = headS b ⟨[1, 7, 8, 9], [⟨7, 0, 1, true⟩]⟩ st (lpB Try.prog LL ⟨30, 46, b, ro⟩ n30_26 n30_27) := GE.lpB_again (by kernel_rfl) (n30_26k b ro)
theorem n30_25s : codeB Try.prog E cx n30_25 st = blockS 0 (codeB Try.prog E cx n30_26 st) st := GE.block_step (by kernel_rfl)
theorem n30_23s : codeB Try.prog E cx n30_23 st = thenS (codeB Try.prog E cx n30_24 st) (codeB Try.prog E cx n30_25) := GE.seq_step (by kernel_rfl)
theorem n30_42s : codeB Try.prog E ⟨f, 46, b, ro⟩ n30_42 st = plainS (runOps Try.prog E b q30_42 (ops [true, true, true, true, true, true, true, false] Try.f30) st) := GE.region_step (id := 13) (GE.reg_of (by kernel_rfl)) (by kernel_rfl)
theorem n30_43s : codeB Try.prog LL ⟨30, 46, b, ro⟩ n30_43 st = normS b ⟨[4, 5], []⟩ .ret st := GE.ret_step (by kernel_rfl) (by kernel_rfl)
theorem n30_41s : codeB Try.prog E cx n30_41 st = thenS (codeB Try.prog E cx n30_42 st) (codeB Try.prog E cx n30_43) := GE.seq_step (by kernel_rfl)
theorem n30_22s : codeB Try.prog E cx n30_22 st = thenS (codeB Try.prog E cx n30_23 st) (codeB Try.prog E cx n30_41) := GE.seq_step (by kernel_rfl)
theorem n30_20s : codeB Try.prog E cx n30_20 st = thenS (codeB Try.prog E cx n30_21 st) (codeB Try.prog E cx n30_22) := GE.seq_step (by kernel_rfl)
theorem n30_18s : codeB Try.prog E cx n30_18 st = thenS (codeB Try.prog E cx n30_19 st) (codeB Try.prog E cx n30_20) := GE.seq_step (by kernel_rfl)
theorem n30_10s : codeB Try.prog E cx n30_10 st = thenS (codeB Try.prog E cx n30_11 st) (codeB Try.prog E cx n30_18) := GE.seq_step (by kernel_rfl)
theorem n30_4s : codeB Try.prog E cx n30_4 st = thenS (codeB Try.prog E cx n30_5 st) (codeB Try.prog E cx n30_10) := GE.seq_step (by kernel_rfl)
theorem n30_2s : codeB Try.prog E cx n30_2 st = thenS (codeB Try.prog E cx n30_3 st) (codeB Try.prog E cx n30_4) := GE.seq_step (by kernel_rfl)
theorem n30_0s : codeB Try.prog E cx n30_0 st = thenS (codeB Try.prog E cx n30_1 st) (codeB Try.prog E cx n30_2) := GE.seq_step (by kernel_rfl)
noncomputable def n31_0 : Code := bodyOf Try.f31
noncomputable def n31_1 : Code := cl n31_0
noncomputable def q31_1 : List Oper := opsOf n31_1
noncomputable def n31_2 : Code := cr n31_0
noncomputable def n31_3 : Code := cl n31_2
noncomputable def q31_3 : List Oper := opsOf n31_3
noncomputable def n31_4 : Code := cr n31_2
noncomputable def n31_5 : Code := cl n31_4
noncomputable def n31_6 : Code := cl n31_5
noncomputable def n31_7 : Code := cl n31_6
noncomputable def q31_7 : List Oper := opsOf n31_7
noncomputable def n31_8 : Code := cr n31_6
noncomputable def n31_9 : Code := cl n31_8
noncomputable def n31_10 : Code := cl n31_9
noncomputable def q31_10 : List Oper := opsOf n31_10
noncomputable def n31_11 : Code := cr n31_9
noncomputable def n31_12 : Code := cr n31_8
noncomputable def n31_13 : Code := cl n31_12
noncomputable def q31_13 : List Oper := opsOf n31_13
noncomputable def n31_14 : Code := cr n31_12
noncomputable def n31_15 : Code := cl n31_14
noncomputable def n31_16 : Code := cl n31_15
noncomputable def q31_16 : List Oper := opsOf n31_16
noncomputable def n31_17 : Code := cr n31_15
noncomputable def n31_18 : Code := cr n31_14
noncomputable def n31_19 : Code := cl n31_18
noncomputable def q31_19 : List Oper := opsOf n31_19
noncomputable def n31_20 : Code := cr n31_18
noncomputable def n31_21 : Code := cl n31_20
noncomputable def n31_22 : Code := cl n31_21
noncomputable def q31_22 : List Oper := opsOf n31_22
noncomputable def n31_23 : Code := cr n31_21
noncomputable def n31_24 : Code := cr n31_20
noncomputable def n31_25 : Code := cr n31_4
noncomputable def n31_26 : Code := cl n31_25
noncomputable def q31_26 : List Oper := opsOf n31_26
noncomputable def n31_27 : Code := cr n31_25
noncomputable def n31_28 : Code := cl n31_27
noncomputable def n31_29 : Code := cl n31_28
noncomputable def q31_29 : List Oper := opsOf n31_29
noncomputable def n31_30 : Code := cr n31_28
noncomputable def n31_31 : Code := cl n31_30
noncomputable def n31_32 : Code := cl n31_31
noncomputable def n31_33 : Code := cl n31_32
noncomputable def q31_33 : List Oper := opsOf n31_33
noncomputable def n31_34 : Code := cr n31_32
noncomputable def n31_35 : Code := cl n31_34
noncomputable def n31_36 : Code := cl n31_35
noncomputable def n31_37 : Code := cr n31_35
noncomputable def n31_38 : Code := cr n31_34
noncomputable def n31_39 : Code := cl n31_38
noncomputable def n31_40 : Code := cl n31_39
noncomputable def n31_41 : Code := cl n31_40
noncomputable def q31_41 : List Oper := opsOf n31_41
noncomputable def n31_42 : Code := cr n31_40
noncomputable def n31_43 : Code := cl n31_42
noncomputable def q31_43 : List Oper := opsOf n31_43
noncomputable def n31_44 : Code := cr n31_42
noncomputable def n31_45 : Code := cl n31_44
noncomputable def q31_45 : List Oper := opsOf n31_45
noncomputable def n31_46 : Code := cr n31_44
noncomputable def n31_47 : Code := cr n31_38
noncomputable def q31_47 : List Oper := opsOf n31_47
noncomputable def n31_48 : Code := cr n31_27
noncomputable def n31_49 : Code := cl n31_48
noncomputable def q31_49 : List Oper := opsOf n31_49
noncomputable def n31_50 : Code := cr n31_48
theorem body31 : Try.f31.body = some n31_0 := by kernel_rfl
theorem run31 (E : Ev) (args : List Value) (h : List Blk) (hl : args.length ≤ 79) : runB Try.prog E 31 args h = endS Try.prog [.cell 6 42, .tmp 7] h.length (codeB Try.prog E ⟨31, 79, h.length, none⟩ n31_0 ⟨enumT 0 args, h, []⟩) := GE.run_step Try.func31 body31 (by kernel_rfl) (by decide) (by kernel_rfl) hl
theorem n31_1s : codeB Try.prog E ⟨f, 79, b, ro⟩ n31_1 st = plainS (runOps Try.prog E b q31_1 (ops [false] Try.f31) st) := GE.region_step (id := 0) (GE.reg_of (by kernel_rfl)) (by kernel_rfl)
theorem n31_3s : codeB Try.prog E ⟨f, 79, b, ro⟩ n31_3 st = plainS (runOps Try.prog E b q31_3 (ops [true, false] Try.f31) st) := GE.region_step (id := 1) (GE.reg_of (by kernel_rfl)) (by kernel_rfl)
theorem n31_7s : codeB Try.prog E ⟨f, 79, b, ro⟩ n31_7 st = plainS (runOps Try.prog E b q31_7 (ops [true, true, false, false, false] Try.f31) st) := GE.region_step (id := 2) (GE.reg_of (by kernel_rfl)) (by kernel_rfl)
theorem n31_10s : codeB Try.prog E ⟨f, 79, b, ro⟩ n31_10 st = plainS (runOps Try.prog E b q31_10 (ops [true, true, false, false, true, false, false] Try.f31) st) := GE.region_step (id := 3) (GE.reg_of (by kernel_rfl)) (by kernel_rfl)
theorem n31_11s : codeB Try.prog LL ⟨31, 79, b, ro⟩ n31_11 st = normS b ⟨[6, 7], []⟩ .ret st := GE.ret_step (by kernel_rfl) (by kernel_rfl)
theorem n31_9s : codeB Try.prog E cx n31_9 st = thenS (codeB Try.prog E cx n31_10 st) (codeB Try.prog E cx n31_11) := GE.seq_step (by kernel_rfl)
theorem n31_13s : codeB Try.prog E ⟨f, 79, b, ro⟩ n31_13 st = plainS (runOps Try.prog E b q31_13 (ops [true, true, false, false, true, true, false] Try.f31) st) := GE.region_step (id := 4) (GE.reg_of (by kernel_rfl)) (by kernel_rfl)
theorem n31_16s : codeB Try.prog E ⟨f, 79, b, ro⟩ n31_16 st = plainS (runOps Try.prog E b q31_16 (ops [true, true, false, false, true, true, true, false, false] Try.f31) st) := GE.region_step (id := 5) (GE.reg_of (by kernel_rfl)) (by kernel_rfl)
theorem n31_17s : codeB Try.prog LL ⟨31, 79, b, ro⟩ n31_17 st = normS b ⟨[6, 7], []⟩ .ret st := GE.ret_step (by kernel_rfl) (by kernel_rfl)
theorem n31_15s : codeB Try.prog E cx n31_15 st = thenS (codeB Try.prog E cx n31_16 st) (codeB Try.prog E cx n31_17) := GE.seq_step (by kernel_rfl)
theorem n31_19s : codeB Try.prog E ⟨f, 79, b, ro⟩ n31_19 st = plainS (runOps Try.prog E b q31_19 (ops [true, true, false, false, true, true, true, true, false] Try.f31) st) := GE.region_step (id := 6) (GE.reg_of (by kernel_rfl)) (by kernel_rfl)
theorem n31_22s : codeB Try.prog E ⟨f, 79, b, ro⟩ n31_22 st = plainS (runOps Try.prog E b q31_22 (ops [true, true, false, false, true, true, true, true, true, false, false] Try.f31) st) := GE.region_step (id := 7) (GE.reg_of (by kernel_rfl)) (by kernel_rfl)
theorem n31_23s : codeB Try.prog LL ⟨31, 79, b, ro⟩ n31_23 st = normS b ⟨[6, 7], []⟩ .ret st := GE.ret_step (by kernel_rfl) (by kernel_rfl)
theorem n31_21s : codeB Try.prog E cx n31_21 st = thenS (codeB Try.prog E cx n31_22 st) (codeB Try.prog E cx n31_23) := GE.seq_step (by kernel_rfl)
theorem n31_24s : codeB Try.prog E cx n31_24 st = some (.normal, st) := GE.skip_step (by kernel_rfl)
theorem n31_20s : codeB Try.prog E cx n31_20 st = condS (codeB Try.prog E cx n31_21) (codeB Try.prog E cx n31_24) (lk st.σ 31) st := GE.cond_step (c := .tmp 31) (by kernel_rfl)
theorem n31_18s : codeB Try.prog E cx n31_18 st = thenS (codeB Try.prog E cx n31_19 st) (codeB Try.prog E cx n31_20) := GE.seq_step (by kernel_rfl)
theorem n31_14s : codeB Try.prog E cx n31_14 st = condS (codeB Try.prog E cx n31_15) (codeB Try.prog E cx n31_18) (lk st.σ 23) st := GE.cond_step (c := .tmp 23) (by kernel_rfl)
theorem n31_12s : codeB Try.prog E cx n31_12 st = thenS (codeB Try.prog E cx n31_13 st) (codeB Try.prog E cx n31_14) := GE.seq_step (by kernel_rfl)
theorem n31_8s : codeB Try.prog E cx n31_8 st = condS (codeB Try.prog E cx n31_9) (codeB Try.prog E cx n31_12) (lk st.σ 18) st := GE.cond_step (c := .tmp 18) (by kernel_rfl)
theorem n31_6s : codeB Try.prog E cx n31_6 st = thenS (codeB Try.prog E cx n31_7 st) (codeB Try.prog E cx n31_8) := GE.seq_step (by kernel_rfl)
theorem n31_5s : codeB Try.prog E cx n31_5 st = blockS 0 (codeB Try.prog E cx n31_6 st) st := GE.block_step (by kernel_rfl)
theorem n31_26s : codeB Try.prog E ⟨f, 79, b, ro⟩ n31_26 st = plainS (runOps Try.prog E b q31_26 (ops [true, true, true, false] Try.f31) st) := GE.region_step (id := 8) (GE.reg_of (by kernel_rfl)) (by kernel_rfl)
theorem n31_29s : codeB Try.prog E ⟨f, 79, b, ro⟩ n31_29 st = plainS (runOps Try.prog E b q31_29 (ops [true, true, true, true, false, false] Try.f31) st) := GE.region_step (id := 9) (GE.reg_of (by kernel_rfl)) (by kernel_rfl)
theorem n31_33s : codeB Try.prog E ⟨f, 79, b, ro⟩ n31_33 st = plainS (runOps Try.prog E b q31_33 (ops [true, true, true, true, false, true, false, false, false] Try.f31) st) := GE.region_step (id := 10) (GE.reg_of (by kernel_rfl)) (by kernel_rfl)
theorem n31_36s : codeB Try.prog E cx n31_36 st = some (.normal, st) := GE.skip_step (by kernel_rfl)
theorem n31_37s : codeB Try.prog LL ⟨31, 79, b, ro⟩ n31_37 st = normS b ⟨[6, 8, 10], []⟩ (.exit 1) st := GE.exit_step (by kernel_rfl) (by kernel_rfl)
theorem n31_35s : codeB Try.prog E cx n31_35 st = condS (codeB Try.prog E cx n31_36) (codeB Try.prog E cx n31_37) (lk st.σ 44) st := GE.cond_step (c := .tmp 44) (by kernel_rfl)
theorem n31_41s : codeB Try.prog E ⟨f, 79, b, ro⟩ n31_41 st = plainS (runOps Try.prog E b q31_41 (ops [true, true, true, true, false, true, false, false, true, true, false, false, false] Try.f31) st) := GE.region_step (id := 11) (GE.reg_of (by kernel_rfl)) (by kernel_rfl)
theorem n31_43s : codeB Try.prog E ⟨f, 79, b, ro⟩ n31_43 st = plainS (runOps Try.prog E b q31_43 (ops [true, true, true, true, false, true, false, false, true, true, false, false, true, false] Try.f31) st) := GE.region_step (id := 12) (GE.reg_of (by kernel_rfl)) (by kernel_rfl)
theorem n31_45s : codeB Try.prog E ⟨f, 79, b, ro⟩ n31_45 st = drawS [0, 0, 2, 6, 14, 0, 62, 0, 128, 384, 896, 0, 0, 6270, 16382, 32766, 65535, 131071] (runOpsF Try.prog E b q31_45 (ops [true, true, true, true, false, true, false, false, true, true, false, false, true, true, false] Try.f31) st) := GE.draw_step (id := 13) (GE.reg_of (by kernel_rfl)) (by kernel_rfl) (by kernel_rfl) (by kernel_rfl)
theorem n31_46s : codeB Try.prog E cx n31_46 st = some (.normal, st) := GE.skip_step (by kernel_rfl)
theorem n31_44s : codeB Try.prog E cx n31_44 st = condS (codeB Try.prog E cx n31_45) (codeB Try.prog E cx n31_46) (lk st.σ 53) st := GE.cond_step (c := .tmp 53) (by kernel_rfl)
theorem n31_42s : codeB Try.prog E cx n31_42 st = thenS (codeB Try.prog E cx n31_43 st) (codeB Try.prog E cx n31_44) := GE.seq_step (by kernel_rfl)
theorem n31_40s : codeB Try.prog E cx n31_40 st = thenS (codeB Try.prog E cx n31_41 st) (codeB Try.prog E cx n31_42) := GE.seq_step (by kernel_rfl)
theorem n31_39s : codeB Try.prog E cx n31_39 st = blockS 2 (codeB Try.prog E cx n31_40 st) st := GE.block_step (by kernel_rfl)
theorem n31_47s : codeB Try.prog E ⟨f, 79, b, ro⟩ n31_47 st = plainS (runOps Try.prog E b q31_47 (ops [true, true, true, true, false, true, false, false, true, true, true] Try.f31) st) := GE.region_step (id := 14) (GE.reg_of (by kernel_rfl)) (by kernel_rfl)
theorem n31_38s : codeB Try.prog E cx n31_38 st = thenS (codeB Try.prog E cx n31_39 st) (codeB Try.prog E cx n31_47) := GE.seq_step (by kernel_rfl)
theorem n31_34s : codeB Try.prog E cx n31_34 st = thenS (codeB Try.prog E cx n31_35 st) (codeB Try.prog E cx n31_38) := GE.seq_step (by kernel_rfl)
theorem n31_32s : codeB Try.prog E cx n31_32 st = thenS (codeB Try.prog E cx n31_33 st) (codeB Try.prog E cx n31_34) := GE.seq_step (by kernel_rfl)
theorem n31_31k : LL.kp (⟨31, 79, b, ro⟩ : Cx).fn (4 * rid n31_32 + 3) = some ⟨[1, 6, 8, 10, 41, 42, 43], [⟨41, 0, 1, true⟩]⟩ := by kernel_rfl
theorem n31_31s : codeB Try.prog LL ⟨31, 79, b, ro⟩ n31_31 st = headS b ⟨[1, 6, 8, 10, 41, 42, 43], [⟨41, 0, 1, true⟩]⟩ st (lpB Try.prog LL ⟨31, 79, b, ro⟩ n31_31 n31_32) := GE.lpB_step (by kernel_rfl) (n31_31k b ro)
theorem n31_31g : LL.code ⟨31, 79, b, ro⟩ n31_31 st = headS b ⟨[1, 6, 8, 10, 41, 42, 43], [⟨41, 0, 1, true⟩]⟩ st (lpB Try.prog LL ⟨31, 79, b, ro⟩ n31_31 n31_32) := GE.lpB_again (by kernel_rfl) (n31_31k b ro)
theorem n31_30s : codeB Try.prog E cx n31_30 st = blockS 1 (codeB Try.prog E cx n31_31 st) st := GE.block_step (by kernel_rfl)
theorem n31_28s : codeB Try.prog E cx n31_28 st = thenS (codeB Try.prog E cx n31_29 st) (codeB Try.prog E cx n31_30) := GE.seq_step (by kernel_rfl)
theorem n31_49s : codeB Try.prog E ⟨f, 79, b, ro⟩ n31_49 st = plainS (runOps Try.prog E b q31_49 (ops [true, true, true, true, true, false] Try.f31) st) := GE.region_step (id := 15) (GE.reg_of (by kernel_rfl)) (by kernel_rfl)
theorem n31_50s : codeB Try.prog LL ⟨31, 79, b, ro⟩ n31_50 st = normS b ⟨[6, 7], []⟩ .ret st := GE.ret_step (by kernel_rfl) (by kernel_rfl)
theorem n31_48s : codeB Try.prog E cx n31_48 st = thenS (codeB Try.prog E cx n31_49 st) (codeB Try.prog E cx n31_50) := GE.seq_step (by kernel_rfl)
theorem n31_27s : codeB Try.prog E cx n31_27 st = thenS (codeB Try.prog E cx n31_28 st) (codeB Try.prog E cx n31_48) := GE.seq_step (by kernel_rfl)
theorem n31_25s : codeB Try.prog E cx n31_25 st = thenS (codeB Try.prog E cx n31_26 st) (codeB Try.prog E cx n31_27) := GE.seq_step (by kernel_rfl)
theorem n31_4s : codeB Try.prog E cx n31_4 st = thenS (codeB Try.prog E cx n31_5 st) (codeB Try.prog E cx n31_25) := GE.seq_step (by kernel_rfl)
theorem n31_2s : codeB Try.prog E cx n31_2 st = thenS (codeB Try.prog E cx n31_3 st) (codeB Try.prog E cx n31_4) := GE.seq_step (by kernel_rfl)
theorem n31_0s : codeB Try.prog E cx n31_0 st = thenS (codeB Try.prog E cx n31_1 st) (codeB Try.prog E cx n31_2) := GE.seq_step (by kernel_rfl)
noncomputable def n32_0 : Code := bodyOf Try.f32
noncomputable def n32_1 : Code := cl n32_0
noncomputable def q32_1 : List Oper := opsOf n32_1
noncomputable def n32_2 : Code := cr n32_0
noncomputable def n32_3 : Code := cl n32_2
noncomputable def q32_3 : List Oper := opsOf n32_3
noncomputable def n32_4 : Code := cr n32_2
noncomputable def n32_5 : Code := cl n32_4
noncomputable def n32_6 : Code := cl n32_5
noncomputable def q32_6 : List Oper := opsOf n32_6
noncomputable def n32_7 : Code := cr n32_5
noncomputable def n32_8 : Code := cl n32_7
noncomputable def q32_8 : List Oper := opsOf n32_8
noncomputable def n32_9 : Code := cr n32_7
noncomputable def n32_10 : Code := cr n32_4
noncomputable def n32_11 : Code := cl n32_10
noncomputable def n32_12 : Code := cl n32_11
noncomputable def q32_12 : List Oper := opsOf n32_12
noncomputable def n32_13 : Code := cr n32_11
noncomputable def n32_14 : Code := cl n32_13
noncomputable def q32_14 : List Oper := opsOf n32_14
noncomputable def n32_15 : Code := cr n32_13
noncomputable def n32_16 : Code := cr n32_10
noncomputable def n32_17 : Code := cl n32_16
noncomputable def n32_18 : Code := cl n32_17
noncomputable def q32_18 : List Oper := opsOf n32_18
noncomputable def n32_19 : Code := cr n32_17
noncomputable def n32_20 : Code := cl n32_19
noncomputable def n32_21 : Code := cl n32_20
noncomputable def q32_21 : List Oper := opsOf n32_21
noncomputable def n32_22 : Code := cr n32_20
noncomputable def n32_23 : Code := cr n32_19
noncomputable def n32_24 : Code := cr n32_16
noncomputable def n32_25 : Code := cl n32_24
noncomputable def q32_25 : List Oper := opsOf n32_25
noncomputable def n32_26 : Code := cr n32_24
noncomputable def n32_27 : Code := cl n32_26
noncomputable def q32_27 : List Oper := opsOf n32_27
noncomputable def n32_28 : Code := cr n32_26
noncomputable def n32_29 : Code := cl n32_28
noncomputable def n32_30 : Code := cl n32_29
noncomputable def q32_30 : List Oper := opsOf n32_30
noncomputable def n32_31 : Code := cr n32_29
noncomputable def n32_32 : Code := cl n32_31
noncomputable def n32_33 : Code := cl n32_32
noncomputable def n32_34 : Code := cl n32_33
noncomputable def n32_35 : Code := cl n32_34
noncomputable def q32_35 : List Oper := opsOf n32_35
noncomputable def n32_36 : Code := cr n32_34
noncomputable def n32_37 : Code := cl n32_36
noncomputable def n32_38 : Code := cr n32_36
noncomputable def n32_39 : Code := cr n32_33
noncomputable def n32_40 : Code := cl n32_39
noncomputable def n32_41 : Code := cl n32_40
noncomputable def n32_42 : Code := cl n32_41
noncomputable def q32_42 : List Oper := opsOf n32_42
noncomputable def n32_43 : Code := cr n32_41
noncomputable def n32_44 : Code := cl n32_43
noncomputable def q32_44 : List Oper := opsOf n32_44
noncomputable def n32_45 : Code := cr n32_43
noncomputable def n32_46 : Code := cr n32_39
noncomputable def q32_46 : List Oper := opsOf n32_46
noncomputable def n32_47 : Code := cr n32_28
noncomputable def n32_48 : Code := cl n32_47
noncomputable def q32_48 : List Oper := opsOf n32_48
noncomputable def n32_49 : Code := cr n32_47
theorem body32 : Try.f32.body = some n32_0 := by kernel_rfl
theorem run32 (E : Ev) (args : List Value) (h : List Blk) (hl : args.length ≤ 78) : runB Try.prog E 32 args h = endS Try.prog [.cell 6 42, .tmp 7] h.length (codeB Try.prog E ⟨32, 78, h.length, none⟩ n32_0 ⟨enumT 0 args, h, []⟩) := GE.run_step Try.func32 body32 (by kernel_rfl) (by decide) (by kernel_rfl) hl
theorem n32_1s : codeB Try.prog E ⟨f, 78, b, ro⟩ n32_1 st = plainS (runOps Try.prog E b q32_1 (ops [false] Try.f32) st) := GE.region_step (id := 0) (GE.reg_of (by kernel_rfl)) (by kernel_rfl)
theorem n32_3s : codeB Try.prog E ⟨f, 78, b, ro⟩ n32_3 st = plainS (runOps Try.prog E b q32_3 (ops [true, false] Try.f32) st) := GE.region_step (id := 1) (GE.reg_of (by kernel_rfl)) (by kernel_rfl)
theorem q32_6g2 : gd q32_6 2 = some 17 := by kernel_rfl
theorem n32_6s : codeB Try.prog E ⟨f, 78, b, ro⟩ n32_6 st = plainS (runOps Try.prog E b q32_6 (ops [true, true, false, false] Try.f32) st) := GE.region_step (id := 2) (GE.reg_of (by kernel_rfl)) (by kernel_rfl)
theorem n32_8s : codeB Try.prog E ⟨f, 78, b, ro⟩ n32_8 st = plainS (runOps Try.prog E b q32_8 (ops [true, true, false, true, false] Try.f32) st) := GE.region_step (id := 3) (GE.reg_of (by kernel_rfl)) (by kernel_rfl)
theorem n32_9s : codeB Try.prog E cx n32_9 st = some (.normal, st) := GE.skip_step (by kernel_rfl)
theorem n32_7s : codeB Try.prog E cx n32_7 st = condS (codeB Try.prog E cx n32_8) (codeB Try.prog E cx n32_9) (lk st.σ 24) st := GE.cond_step (c := .tmp 24) (by kernel_rfl)
theorem n32_5s : codeB Try.prog E cx n32_5 st = thenS (codeB Try.prog E cx n32_6 st) (codeB Try.prog E cx n32_7) := GE.seq_step (by kernel_rfl)
theorem q32_12g2 : gd q32_12 2 = some 27 := by kernel_rfl
theorem n32_12s : codeB Try.prog E ⟨f, 78, b, ro⟩ n32_12 st = plainS (runOps Try.prog E b q32_12 (ops [true, true, true, false, false] Try.f32) st) := GE.region_step (id := 4) (GE.reg_of (by kernel_rfl)) (by kernel_rfl)
theorem n32_14s : codeB Try.prog E ⟨f, 78, b, ro⟩ n32_14 st = plainS (runOps Try.prog E b q32_14 (ops [true, true, true, false, true, false] Try.f32) st) := GE.region_step (id := 5) (GE.reg_of (by kernel_rfl)) (by kernel_rfl)
theorem n32_15s : codeB Try.prog E cx n32_15 st = some (.normal, st) := GE.skip_step (by kernel_rfl)
theorem n32_13s : codeB Try.prog E cx n32_13 st = condS (codeB Try.prog E cx n32_14) (codeB Try.prog E cx n32_15) (lk st.σ 33) st := GE.cond_step (c := .tmp 33) (by kernel_rfl)
theorem n32_11s : codeB Try.prog E cx n32_11 st = thenS (codeB Try.prog E cx n32_12 st) (codeB Try.prog E cx n32_13) := GE.seq_step (by kernel_rfl)
theorem n32_18s : codeB Try.prog E ⟨f, 78, b, ro⟩ n32_18 st = plainS (runOps Try.prog E b q32_18 (ops [true, true, true, true, false, false] Try.f32) st) := GE.region_step (id := 6) (GE.reg_of (by kernel_rfl)) (by kernel_rfl)
theorem n32_21s : codeB Try.prog E ⟨f, 78, b, ro⟩ n32_21 st = plainS (runOps Try.prog E b q32_21 (ops [true, true, true, true, false, true, false, false] Try.f32) st) := GE.region_step (id := 7) (GE.reg_of (by kernel_rfl)) (by kernel_rfl)
theorem n32_22s : codeB Try.prog LL ⟨32, 78, b, ro⟩ n32_22 st = normS b ⟨[6, 7], []⟩ .ret st := GE.ret_step (by kernel_rfl) (by kernel_rfl)
theorem n32_20s : codeB Try.prog E cx n32_20 st = thenS (codeB Try.prog E cx n32_21 st) (codeB Try.prog E cx n32_22) := GE.seq_step (by kernel_rfl)
theorem n32_23s : codeB Try.prog E cx n32_23 st = some (.normal, st) := GE.skip_step (by kernel_rfl)
theorem n32_19s : codeB Try.prog E cx n32_19 st = condS (codeB Try.prog E cx n32_20) (codeB Try.prog E cx n32_23) (lk st.σ 35) st := GE.cond_step (c := .tmp 35) (by kernel_rfl)
theorem n32_17s : codeB Try.prog E cx n32_17 st = thenS (codeB Try.prog E cx n32_18 st) (codeB Try.prog E cx n32_19) := GE.seq_step (by kernel_rfl)
theorem n32_25s : codeB Try.prog E ⟨f, 78, b, ro⟩ n32_25 st = plainS (runOps Try.prog E b q32_25 (ops [true, true, true, true, true, false] Try.f32) st) := GE.region_step (id := 8) (GE.reg_of (by kernel_rfl)) (by kernel_rfl)
theorem n32_27s : codeB Try.prog E ⟨f, 78, b, ro⟩ n32_27 st = plainS (runOps Try.prog E b q32_27 (ops [true, true, true, true, true, true, false] Try.f32) st) := GE.region_step (id := 9) (GE.reg_of (by kernel_rfl)) (by kernel_rfl)
theorem n32_30s : codeB Try.prog E ⟨f, 78, b, ro⟩ n32_30 st = plainS (runOps Try.prog E b q32_30 (ops [true, true, true, true, true, true, true, false, false] Try.f32) st) := GE.region_step (id := 10) (GE.reg_of (by kernel_rfl)) (by kernel_rfl)
theorem n32_35s : codeB Try.prog E ⟨f, 78, b, ro⟩ n32_35 st = plainS (runOps Try.prog E b q32_35 (ops [true, true, true, true, true, true, true, false, true, false, false, false, false] Try.f32) st) := GE.region_step (id := 11) (GE.reg_of (by kernel_rfl)) (by kernel_rfl)
theorem n32_37s : codeB Try.prog E cx n32_37 st = some (.normal, st) := GE.skip_step (by kernel_rfl)
theorem n32_38s : codeB Try.prog LL ⟨32, 78, b, ro⟩ n32_38 st = normS b ⟨[6, 10, 11], [⟨10, 0, 1, true⟩]⟩ (.exit 0) st := GE.exit_step (by kernel_rfl) (by kernel_rfl)
theorem n32_36s : codeB Try.prog E cx n32_36 st = condS (codeB Try.prog E cx n32_37) (codeB Try.prog E cx n32_38) (lk st.σ 45) st := GE.cond_step (c := .tmp 45) (by kernel_rfl)
theorem n32_34s : codeB Try.prog E cx n32_34 st = thenS (codeB Try.prog E cx n32_35 st) (codeB Try.prog E cx n32_36) := GE.seq_step (by kernel_rfl)
theorem q32_42g5 : gd q32_42 5 = some 53 := by kernel_rfl
theorem n32_42s : codeB Try.prog E ⟨f, 78, b, ro⟩ n32_42 st = plainS (runOps Try.prog E b q32_42 (ops [true, true, true, true, true, true, true, false, true, false, false, true, false, false, false] Try.f32) st) := GE.region_step (id := 13) (GE.reg_of (by kernel_rfl)) (by kernel_rfl)
theorem n32_44s : codeB Try.prog E ⟨f, 78, b, ro⟩ n32_44 st = drawS [0, 0, 0, 6, 14, 0, 0, 0, 128, 448, 992, 2016, 4094, 8191, 16383] (runOpsF Try.prog E b q32_44 (ops [true, true, true, true, true, true, true, false, true, false, false, true, false, false, true, false] Try.f32) st) := GE.draw_step (id := 14) (GE.reg_of (by kernel_rfl)) (by kernel_rfl) (by kernel_rfl) (by kernel_rfl)
theorem n32_45s : codeB Try.prog E cx n32_45 st = some (.normal, st) := GE.skip_step (by kernel_rfl)
theorem n32_43s : codeB Try.prog E cx n32_43 st = condS (codeB Try.prog E cx n32_44) (codeB Try.prog E cx n32_45) (lk st.σ 58) st := GE.cond_step (c := .tmp 58) (by kernel_rfl)
theorem n32_41s : codeB Try.prog E cx n32_41 st = thenS (codeB Try.prog E cx n32_42 st) (codeB Try.prog E cx n32_43) := GE.seq_step (by kernel_rfl)
theorem n32_40s : codeB Try.prog E cx n32_40 st = blockS 1 (codeB Try.prog E cx n32_41 st) st := GE.block_step (by kernel_rfl)
theorem n32_46s : codeB Try.prog E ⟨f, 78, b, ro⟩ n32_46 st = plainS (runOps Try.prog E b q32_46 (ops [true, true, true, true, true, true, true, false, true, false, false, true, true] Try.f32) st) := GE.region_step (id := 12) (GE.reg_of (by kernel_rfl)) (by kernel_rfl)
theorem n32_39s : codeB Try.prog E cx n32_39 st = thenS (codeB Try.prog E cx n32_40 st) (codeB Try.prog E cx n32_46) := GE.seq_step (by kernel_rfl)
theorem n32_33s : codeB Try.prog E cx n32_33 st = thenS (codeB Try.prog E cx n32_34 st) (codeB Try.prog E cx n32_39) := GE.seq_step (by kernel_rfl)
theorem n32_32k : LL.kp (⟨32, 78, b, ro⟩ : Cx).fn (4 * rid n32_33 + 3) = some ⟨[0, 1, 2, 6, 9, 10, 11, 12], [⟨0, 0, 2, true⟩, ⟨9, 0, 1, true⟩, ⟨10, 0, 1, true⟩]⟩ := by kernel_rfl
theorem n32_32s : codeB Try.prog LL ⟨32, 78, b, ro⟩ n32_32 st = headS b ⟨[0, 1, 2, 6, 9, 10, 11, 12], [⟨0, 0, 2, true⟩, ⟨9, 0, 1, true⟩, ⟨10, 0, 1, true⟩]⟩ st (lpB Try.prog LL ⟨32, 78, b, ro⟩ n32_32 n32_33) := GE.lpB_step (by kernel_rfl) (n32_32k b ro)
theorem n32_32g : LL.code ⟨32, 78, b, ro⟩ n32_32 st = headS b ⟨[0, 1, 2, 6, 9, 10, 11, 12], [⟨0, 0, 2, true⟩, ⟨9, 0, 1, true⟩, ⟨10, 0, 1, true⟩]⟩ st (lpB Try.prog LL ⟨32, 78, b, ro⟩ n32_32 n32_33) := GE.lpB_again (by kernel_rfl) (n32_32k b ro)
theorem n32_31s : codeB Try.prog E cx n32_31 st = blockS 0 (codeB Try.prog E cx n32_32 st) st := GE.block_step (by kernel_rfl)
theorem n32_29s : codeB Try.prog E cx n32_29 st = thenS (codeB Try.prog E cx n32_30 st) (codeB Try.prog E cx n32_31) := GE.seq_step (by kernel_rfl)
theorem n32_48s : codeB Try.prog E ⟨f, 78, b, ro⟩ n32_48 st = plainS (runOps Try.prog E b q32_48 (ops [true, true, true, true, true, true, true, true, false] Try.f32) st) := GE.region_step (id := 15) (GE.reg_of (by kernel_rfl)) (by kernel_rfl)
theorem n32_49s : codeB Try.prog LL ⟨32, 78, b, ro⟩ n32_49 st = normS b ⟨[6, 7], []⟩ .ret st := GE.ret_step (by kernel_rfl) (by kernel_rfl)
theorem n32_47s : codeB Try.prog E cx n32_47 st = thenS (codeB Try.prog E cx n32_48 st) (codeB Try.prog E cx n32_49) := GE.seq_step (by kernel_rfl)
theorem n32_28s : codeB Try.prog E cx n32_28 st = thenS (codeB Try.prog E cx n32_29 st) (codeB Try.prog E cx n32_47) := GE.seq_step (by kernel_rfl)
theorem n32_26s : codeB Try.prog E cx n32_26 st = thenS (codeB Try.prog E cx n32_27 st) (codeB Try.prog E cx n32_28) := GE.seq_step (by kernel_rfl)
theorem n32_24s : codeB Try.prog E cx n32_24 st = thenS (codeB Try.prog E cx n32_25 st) (codeB Try.prog E cx n32_26) := GE.seq_step (by kernel_rfl)
theorem n32_16s : codeB Try.prog E cx n32_16 st = thenS (codeB Try.prog E cx n32_17 st) (codeB Try.prog E cx n32_24) := GE.seq_step (by kernel_rfl)
theorem n32_10s : codeB Try.prog E cx n32_10 st = thenS (codeB Try.prog E cx n32_11 st) (codeB Try.prog E cx n32_16) := GE.seq_step (by kernel_rfl)
theorem n32_4s : codeB Try.prog E cx n32_4 st = thenS (codeB Try.prog E cx n32_5 st) (codeB Try.prog E cx n32_10) := GE.seq_step (by kernel_rfl)
theorem n32_2s : codeB Try.prog E cx n32_2 st = thenS (codeB Try.prog E cx n32_3 st) (codeB Try.prog E cx n32_4) := GE.seq_step (by kernel_rfl)
theorem n32_0s : codeB Try.prog E cx n32_0 st = thenS (codeB Try.prog E cx n32_1 st) (codeB Try.prog E cx n32_2) := GE.seq_step (by kernel_rfl)
noncomputable def n33_0 : Code := bodyOf Try.f33
noncomputable def n33_1 : Code := cl n33_0
noncomputable def q33_1 : List Oper := opsOf n33_1
noncomputable def n33_2 : Code := cr n33_0
noncomputable def n33_3 : Code := cl n33_2
noncomputable def q33_3 : List Oper := opsOf n33_3
noncomputable def n33_4 : Code := cr n33_2
noncomputable def n33_5 : Code := cl n33_4
noncomputable def n33_6 : Code := cl n33_5
noncomputable def n33_7 : Code := cl n33_6
noncomputable def q33_7 : List Oper := opsOf n33_7
noncomputable def n33_8 : Code := cr n33_6
noncomputable def n33_9 : Code := cl n33_8
noncomputable def n33_10 : Code := cl n33_9
noncomputable def q33_10 : List Oper := opsOf n33_10
noncomputable def n33_11 : Code := cr n33_9
noncomputable def n33_12 : Code := cr n33_8
noncomputable def n33_13 : Code := cl n33_12
noncomputable def q33_13 : List Oper := opsOf n33_13
noncomputable def n33_14 : Code := cr n33_12
noncomputable def n33_15 : Code := cl n33_14
noncomputable def n33_16 : Code := cl n33_15
noncomputable def q33_16 : List Oper := opsOf n33_16
noncomputable def n33_17 : Code := cr n33_15
noncomputable def n33_18 : Code := cr n33_14
noncomputable def n33_19 : Code := cl n33_18
noncomputable def q33_19 : List Oper := opsOf n33_19
noncomputable def n33_20 : Code := cr n33_18
noncomputable def n33_21 : Code := cl n33_20
noncomputable def n33_22 : Code := cl n33_21
noncomputable def q33_22 : List Oper := opsOf n33_22
noncomputable def n33_23 : Code := cr n33_21
noncomputable def n33_24 : Code := cr n33_20
noncomputable def n33_25 : Code := cr n33_4
noncomputable def n33_26 : Code := cl n33_25
noncomputable def q33_26 : List Oper := opsOf n33_26
noncomputable def n33_27 : Code := cr n33_25
noncomputable def n33_28 : Code := cl n33_27
noncomputable def q33_28 : List Oper := opsOf n33_28
noncomputable def n33_29 : Code := cr n33_27
theorem body33 : Try.f33.body = some n33_0 := by kernel_rfl
theorem run33 (E : Ev) (args : List Value) (h : List Blk) (hl : args.length ≤ 56) : runB Try.prog E 33 args h = endS Try.prog [.cell 6 42, .tmp 7] h.length (codeB Try.prog E ⟨33, 56, h.length, none⟩ n33_0 ⟨enumT 0 args, h, []⟩) := GE.run_step Try.func33 body33 (by kernel_rfl) (by decide) (by kernel_rfl) hl
theorem n33_1s : codeB Try.prog E ⟨f, 56, b, ro⟩ n33_1 st = plainS (runOps Try.prog E b q33_1 (ops [false] Try.f33) st) := GE.region_step (id := 0) (GE.reg_of (by kernel_rfl)) (by kernel_rfl)
theorem n33_3s : codeB Try.prog E ⟨f, 56, b, ro⟩ n33_3 st = plainS (runOps Try.prog E b q33_3 (ops [true, false] Try.f33) st) := GE.region_step (id := 1) (GE.reg_of (by kernel_rfl)) (by kernel_rfl)
theorem n33_7s : codeB Try.prog E ⟨f, 56, b, ro⟩ n33_7 st = plainS (runOps Try.prog E b q33_7 (ops [true, true, false, false, false] Try.f33) st) := GE.region_step (id := 2) (GE.reg_of (by kernel_rfl)) (by kernel_rfl)
theorem n33_10s : codeB Try.prog E ⟨f, 56, b, ro⟩ n33_10 st = plainS (runOps Try.prog E b q33_10 (ops [true, true, false, false, true, false, false] Try.f33) st) := GE.region_step (id := 3) (GE.reg_of (by kernel_rfl)) (by kernel_rfl)
theorem n33_11s : codeB Try.prog LL ⟨33, 56, b, ro⟩ n33_11 st = normS b ⟨[6, 7], []⟩ .ret st := GE.ret_step (by kernel_rfl) (by kernel_rfl)
theorem n33_9s : codeB Try.prog E cx n33_9 st = thenS (codeB Try.prog E cx n33_10 st) (codeB Try.prog E cx n33_11) := GE.seq_step (by kernel_rfl)
theorem q33_13g6 : gd q33_13 6 = some 28 := by kernel_rfl
theorem n33_13s : codeB Try.prog E ⟨f, 56, b, ro⟩ n33_13 st = plainS (runOps Try.prog E b q33_13 (ops [true, true, false, false, true, true, false] Try.f33) st) := GE.region_step (id := 4) (GE.reg_of (by kernel_rfl)) (by kernel_rfl)
theorem n33_16s : codeB Try.prog E ⟨f, 56, b, ro⟩ n33_16 st = plainS (runOps Try.prog E b q33_16 (ops [true, true, false, false, true, true, true, false, false] Try.f33) st) := GE.region_step (id := 5) (GE.reg_of (by kernel_rfl)) (by kernel_rfl)
theorem n33_17s : codeB Try.prog LL ⟨33, 56, b, ro⟩ n33_17 st = normS b ⟨[6, 7], []⟩ .ret st := GE.ret_step (by kernel_rfl) (by kernel_rfl)
theorem n33_15s : codeB Try.prog E cx n33_15 st = thenS (codeB Try.prog E cx n33_16 st) (codeB Try.prog E cx n33_17) := GE.seq_step (by kernel_rfl)
theorem n33_19s : codeB Try.prog E ⟨f, 56, b, ro⟩ n33_19 st = plainS (runOps Try.prog E b q33_19 (ops [true, true, false, false, true, true, true, true, false] Try.f33) st) := GE.region_step (id := 6) (GE.reg_of (by kernel_rfl)) (by kernel_rfl)
theorem n33_22s : codeB Try.prog E ⟨f, 56, b, ro⟩ n33_22 st = plainS (runOps Try.prog E b q33_22 (ops [true, true, false, false, true, true, true, true, true, false, false] Try.f33) st) := GE.region_step (id := 7) (GE.reg_of (by kernel_rfl)) (by kernel_rfl)
theorem n33_23s : codeB Try.prog LL ⟨33, 56, b, ro⟩ n33_23 st = normS b ⟨[6, 7], []⟩ .ret st := GE.ret_step (by kernel_rfl) (by kernel_rfl)
theorem n33_21s : codeB Try.prog E cx n33_21 st = thenS (codeB Try.prog E cx n33_22 st) (codeB Try.prog E cx n33_23) := GE.seq_step (by kernel_rfl)
theorem n33_24s : codeB Try.prog E cx n33_24 st = some (.normal, st) := GE.skip_step (by kernel_rfl)
theorem n33_20s : codeB Try.prog E cx n33_20 st = condS (codeB Try.prog E cx n33_21) (codeB Try.prog E cx n33_24) (lk st.σ 37) st := GE.cond_step (c := .tmp 37) (by kernel_rfl)
theorem n33_18s : codeB Try.prog E cx n33_18 st = thenS (codeB Try.prog E cx n33_19 st) (codeB Try.prog E cx n33_20) := GE.seq_step (by kernel_rfl)
theorem n33_14s : codeB Try.prog E cx n33_14 st = condS (codeB Try.prog E cx n33_15) (codeB Try.prog E cx n33_18) (lk st.σ 21) st := GE.cond_step (c := .tmp 21) (by kernel_rfl)
theorem n33_12s : codeB Try.prog E cx n33_12 st = thenS (codeB Try.prog E cx n33_13 st) (codeB Try.prog E cx n33_14) := GE.seq_step (by kernel_rfl)
theorem n33_8s : codeB Try.prog E cx n33_8 st = condS (codeB Try.prog E cx n33_9) (codeB Try.prog E cx n33_12) (lk st.σ 16) st := GE.cond_step (c := .tmp 16) (by kernel_rfl)
theorem n33_6s : codeB Try.prog E cx n33_6 st = thenS (codeB Try.prog E cx n33_7 st) (codeB Try.prog E cx n33_8) := GE.seq_step (by kernel_rfl)
theorem n33_5s : codeB Try.prog E cx n33_5 st = blockS 0 (codeB Try.prog E cx n33_6 st) st := GE.block_step (by kernel_rfl)
theorem n33_26s : codeB Try.prog E ⟨f, 56, b, ro⟩ n33_26 st = plainS (runOps Try.prog E b q33_26 (ops [true, true, true, false] Try.f33) st) := GE.region_step (id := 8) (GE.reg_of (by kernel_rfl)) (by kernel_rfl)
theorem n33_28s : codeB Try.prog E ⟨f, 56, b, ro⟩ n33_28 st = drawS [0, 1, 3, 7, 15, 0, 32, 96, 224, 511, 1023, 2047, 4095] (runOpsF Try.prog E b q33_28 (ops [true, true, true, true, false] Try.f33) st) := GE.draw_step (id := 9) (GE.reg_of (by kernel_rfl)) (by kernel_rfl) (by kernel_rfl) (by kernel_rfl)
theorem n33_29s : codeB Try.prog LL ⟨33, 56, b, ro⟩ n33_29 st = normS b ⟨[6, 7], []⟩ .ret st := GE.ret_step (by kernel_rfl) (by kernel_rfl)
theorem n33_27s : codeB Try.prog E cx n33_27 st = thenS (codeB Try.prog E cx n33_28 st) (codeB Try.prog E cx n33_29) := GE.seq_step (by kernel_rfl)
theorem n33_25s : codeB Try.prog E cx n33_25 st = thenS (codeB Try.prog E cx n33_26 st) (codeB Try.prog E cx n33_27) := GE.seq_step (by kernel_rfl)
theorem n33_4s : codeB Try.prog E cx n33_4 st = thenS (codeB Try.prog E cx n33_5 st) (codeB Try.prog E cx n33_25) := GE.seq_step (by kernel_rfl)
theorem n33_2s : codeB Try.prog E cx n33_2 st = thenS (codeB Try.prog E cx n33_3 st) (codeB Try.prog E cx n33_4) := GE.seq_step (by kernel_rfl)
theorem n33_0s : codeB Try.prog E cx n33_0 st = thenS (codeB Try.prog E cx n33_1 st) (codeB Try.prog E cx n33_2) := GE.seq_step (by kernel_rfl)
noncomputable def n34_0 : Code := bodyOf Try.f34
noncomputable def n34_1 : Code := cl n34_0
noncomputable def q34_1 : List Oper := opsOf n34_1
noncomputable def n34_2 : Code := cr n34_0
noncomputable def n34_3 : Code := cl n34_2
noncomputable def q34_3 : List Oper := opsOf n34_3
noncomputable def n34_4 : Code := cr n34_2
noncomputable def n34_5 : Code := cl n34_4
noncomputable def n34_6 : Code := cl n34_5
noncomputable def q34_6 : List Oper := opsOf n34_6
noncomputable def n34_7 : Code := cr n34_5
noncomputable def n34_8 : Code := cl n34_7
noncomputable def q34_8 : List Oper := opsOf n34_8
noncomputable def n34_9 : Code := cr n34_7
noncomputable def n34_10 : Code := cr n34_4
noncomputable def n34_11 : Code := cl n34_10
noncomputable def n34_12 : Code := cl n34_11
noncomputable def q34_12 : List Oper := opsOf n34_12
noncomputable def n34_13 : Code := cr n34_11
noncomputable def n34_14 : Code := cl n34_13
noncomputable def q34_14 : List Oper := opsOf n34_14
noncomputable def n34_15 : Code := cr n34_13
noncomputable def n34_16 : Code := cr n34_10
noncomputable def n34_17 : Code := cl n34_16
noncomputable def n34_18 : Code := cl n34_17
noncomputable def q34_18 : List Oper := opsOf n34_18
noncomputable def n34_19 : Code := cr n34_17
noncomputable def n34_20 : Code := cl n34_19
noncomputable def n34_21 : Code := cl n34_20
noncomputable def q34_21 : List Oper := opsOf n34_21
noncomputable def n34_22 : Code := cr n34_20
noncomputable def n34_23 : Code := cr n34_19
noncomputable def n34_24 : Code := cr n34_16
noncomputable def n34_25 : Code := cl n34_24
noncomputable def q34_25 : List Oper := opsOf n34_25
noncomputable def n34_26 : Code := cr n34_24
theorem body34 : Try.f34.body = some n34_0 := by kernel_rfl
theorem run34 (E : Ev) (args : List Value) (h : List Blk) (hl : args.length ≤ 51) : runB Try.prog E 34 args h = endS Try.prog [.cell 6 42, .tmp 7] h.length (codeB Try.prog E ⟨34, 51, h.length, none⟩ n34_0 ⟨enumT 0 args, h, []⟩) := GE.run_step Try.func34 body34 (by kernel_rfl) (by decide) (by kernel_rfl) hl
theorem n34_1s : codeB Try.prog E ⟨f, 51, b, ro⟩ n34_1 st = plainS (runOps Try.prog E b q34_1 (ops [false] Try.f34) st) := GE.region_step (id := 0) (GE.reg_of (by kernel_rfl)) (by kernel_rfl)
theorem n34_3s : codeB Try.prog E ⟨f, 51, b, ro⟩ n34_3 st = plainS (runOps Try.prog E b q34_3 (ops [true, false] Try.f34) st) := GE.region_step (id := 1) (GE.reg_of (by kernel_rfl)) (by kernel_rfl)
theorem q34_6g2 : gd q34_6 2 = some 13 := by kernel_rfl
theorem q34_6g9 : gd q34_6 9 = some 20 := by kernel_rfl
theorem n34_6s : codeB Try.prog E ⟨f, 51, b, ro⟩ n34_6 st = plainS (runOps Try.prog E b q34_6 (ops [true, true, false, false] Try.f34) st) := GE.region_step (id := 2) (GE.reg_of (by kernel_rfl)) (by kernel_rfl)
theorem n34_8s : codeB Try.prog E ⟨f, 51, b, ro⟩ n34_8 st = plainS (runOps Try.prog E b q34_8 (ops [true, true, false, true, false] Try.f34) st) := GE.region_step (id := 3) (GE.reg_of (by kernel_rfl)) (by kernel_rfl)
theorem n34_9s : codeB Try.prog E cx n34_9 st = some (.normal, st) := GE.skip_step (by kernel_rfl)
theorem n34_7s : codeB Try.prog E cx n34_7 st = condS (codeB Try.prog E cx n34_8) (codeB Try.prog E cx n34_9) (lk st.σ 28) st := GE.cond_step (c := .tmp 28) (by kernel_rfl)
theorem n34_5s : codeB Try.prog E cx n34_5 st = thenS (codeB Try.prog E cx n34_6 st) (codeB Try.prog E cx n34_7) := GE.seq_step (by kernel_rfl)
theorem q34_12g2 : gd q34_12 2 = some 31 := by kernel_rfl
theorem n34_12s : codeB Try.prog E ⟨f, 51, b, ro⟩ n34_12 st = plainS (runOps Try.prog E b q34_12 (ops [true, true, true, false, false] Try.f34) st) := GE.region_step (id := 4) (GE.reg_of (by kernel_rfl)) (by kernel_rfl)
theorem n34_14s : codeB Try.prog E ⟨f, 51, b, ro⟩ n34_14 st = plainS (runOps Try.prog E b q34_14 (ops [true, true, true, false, true, false] Try.f34) st) := GE.region_step (id := 5) (GE.reg_of (by kernel_rfl)) (by kernel_rfl)
theorem n34_15s : codeB Try.prog E cx n34_15 st = some (.normal, st) := GE.skip_step (by kernel_rfl)
theorem n34_13s : codeB Try.prog E cx n34_13 st = condS (codeB Try.prog E cx n34_14) (codeB Try.prog E cx n34_15) (lk st.σ 35) st := GE.cond_step (c := .tmp 35) (by kernel_rfl)
theorem n34_11s : codeB Try.prog E cx n34_11 st = thenS (codeB Try.prog E cx n34_12 st) (codeB Try.prog E cx n34_13) := GE.seq_step (by kernel_rfl)
theorem n34_18s : codeB Try.prog E ⟨f, 51, b, ro⟩ n34_18 st = plainS (runOps Try.prog E b q34_18 (ops [true, true, true, true, false, false] Try.f34) st) := GE.region_step (id := 6) (GE.reg_of (by kernel_rfl)) (by kernel_rfl)
theorem n34_21s : codeB Try.prog E ⟨f, 51, b, ro⟩ n34_21 st = plainS (runOps Try.prog E b q34_21 (ops [true, true, true, true, false, true, false, false] Try.f34) st) := GE.region_step (id := 7) (GE.reg_of (by kernel_rfl)) (by kernel_rfl)
theorem n34_22s : codeB Try.prog LL ⟨34, 51, b, ro⟩ n34_22 st = normS b ⟨[6, 7], []⟩ .ret st := GE.ret_step (by kernel_rfl) (by kernel_rfl)
theorem n34_20s : codeB Try.prog E cx n34_20 st = thenS (codeB Try.prog E cx n34_21 st) (codeB Try.prog E cx n34_22) := GE.seq_step (by kernel_rfl)
theorem n34_23s : codeB Try.prog E cx n34_23 st = some (.normal, st) := GE.skip_step (by kernel_rfl)
theorem n34_19s : codeB Try.prog E cx n34_19 st = condS (codeB Try.prog E cx n34_20) (codeB Try.prog E cx n34_23) (lk st.σ 37) st := GE.cond_step (c := .tmp 37) (by kernel_rfl)
theorem n34_17s : codeB Try.prog E cx n34_17 st = thenS (codeB Try.prog E cx n34_18 st) (codeB Try.prog E cx n34_19) := GE.seq_step (by kernel_rfl)
theorem n34_25s : codeB Try.prog E ⟨f, 51, b, ro⟩ n34_25 st = drawS [0, 0, 0, 7, 15, 31, 0, 79, 207, 463, 1023, 2047, 4095] (runOpsF Try.prog E b q34_25 (ops [true, true, true, true, true, false] Try.f34) st) := GE.draw_step (id := 8) (GE.reg_of (by kernel_rfl)) (by kernel_rfl) (by kernel_rfl) (by kernel_rfl)
theorem n34_26s : codeB Try.prog LL ⟨34, 51, b, ro⟩ n34_26 st = normS b ⟨[6, 7], []⟩ .ret st := GE.ret_step (by kernel_rfl) (by kernel_rfl)
theorem n34_24s : codeB Try.prog E cx n34_24 st = thenS (codeB Try.prog E cx n34_25 st) (codeB Try.prog E cx n34_26) := GE.seq_step (by kernel_rfl)
theorem n34_16s : codeB Try.prog E cx n34_16 st = thenS (codeB Try.prog E cx n34_17 st) (codeB Try.prog E cx n34_24) := GE.seq_step (by kernel_rfl)
theorem n34_10s : codeB Try.prog E cx n34_10 st = thenS (codeB Try.prog E cx n34_11 st) (codeB Try.prog E cx n34_16) := GE.seq_step (by kernel_rfl)
theorem n34_4s : codeB Try.prog E cx n34_4 st = thenS (codeB Try.prog E cx n34_5 st) (codeB Try.prog E cx n34_10) := GE.seq_step (by kernel_rfl)
theorem n34_2s : codeB Try.prog E cx n34_2 st = thenS (codeB Try.prog E cx n34_3 st) (codeB Try.prog E cx n34_4) := GE.seq_step (by kernel_rfl)
theorem n34_0s : codeB Try.prog E cx n34_0 st = thenS (codeB Try.prog E cx n34_1 st) (codeB Try.prog E cx n34_2) := GE.seq_step (by kernel_rfl)
noncomputable def n45_0 : Code := bodyOf Try.f45
noncomputable def n45_1 : Code := cl n45_0
noncomputable def q45_1 : List Oper := opsOf n45_1
noncomputable def n45_2 : Code := cr n45_0
noncomputable def n45_3 : Code := cl n45_2
noncomputable def n45_4 : Code := cl n45_3
noncomputable def n45_5 : Code := cl n45_4
noncomputable def q45_5 : List Oper := opsOf n45_5
noncomputable def n45_6 : Code := cr n45_4
noncomputable def n45_7 : Code := cl n45_6
noncomputable def n45_8 : Code := cl n45_7
noncomputable def q45_8 : List Oper := opsOf n45_8
noncomputable def n45_9 : Code := cr n45_7
noncomputable def n45_10 : Code := cr n45_6
noncomputable def n45_11 : Code := cl n45_10
noncomputable def q45_11 : List Oper := opsOf n45_11
noncomputable def n45_12 : Code := cr n45_10
noncomputable def n45_13 : Code := cl n45_12
noncomputable def n45_14 : Code := cl n45_13
noncomputable def q45_14 : List Oper := opsOf n45_14
noncomputable def n45_15 : Code := cr n45_13
noncomputable def n45_16 : Code := cr n45_12
noncomputable def n45_17 : Code := cl n45_16
noncomputable def q45_17 : List Oper := opsOf n45_17
noncomputable def n45_18 : Code := cr n45_16
noncomputable def n45_19 : Code := cl n45_18
noncomputable def n45_20 : Code := cl n45_19
noncomputable def q45_20 : List Oper := opsOf n45_20
noncomputable def n45_21 : Code := cr n45_19
noncomputable def n45_22 : Code := cr n45_18
noncomputable def n45_23 : Code := cr n45_2
noncomputable def n45_24 : Code := cl n45_23
noncomputable def q45_24 : List Oper := opsOf n45_24
noncomputable def n45_25 : Code := cr n45_23
theorem body45 : Try.f45.body = some n45_0 := by kernel_rfl
theorem run45 (E : Ev) (args : List Value) (h : List Blk) (hl : args.length ≤ 14) : runB Try.prog E 45 args h = endS Try.prog [.tmp 2] h.length (codeB Try.prog E ⟨45, 14, h.length, none⟩ n45_0 ⟨enumT 0 args, h, []⟩) := GE.run_step Try.func45 body45 (by kernel_rfl) (by decide) (by kernel_rfl) hl
theorem n45_1s : codeB Try.prog E ⟨f, 14, b, ro⟩ n45_1 st = plainS (runOps Try.prog E b q45_1 (ops [false] Try.f45) st) := GE.region_step (id := 0) (GE.reg_of (by kernel_rfl)) (by kernel_rfl)
theorem n45_5s : codeB Try.prog E ⟨f, 14, b, ro⟩ n45_5 st = plainS (runOps Try.prog E b q45_5 (ops [true, false, false, false] Try.f45) st) := GE.region_step (id := 1) (GE.reg_of (by kernel_rfl)) (by kernel_rfl)
theorem n45_8s : codeB Try.prog E ⟨f, 14, b, ro⟩ n45_8 st = plainS (runOps Try.prog E b q45_8 (ops [true, false, false, true, false, false] Try.f45) st) := GE.region_step (id := 2) (GE.reg_of (by kernel_rfl)) (by kernel_rfl)
theorem n45_9s : codeB Try.prog LL ⟨45, 14, b, ro⟩ n45_9 st = normS b ⟨[2], []⟩ .ret st := GE.ret_step (by kernel_rfl) (by kernel_rfl)
theorem n45_7s : codeB Try.prog E cx n45_7 st = thenS (codeB Try.prog E cx n45_8 st) (codeB Try.prog E cx n45_9) := GE.seq_step (by kernel_rfl)
theorem n45_11s : codeB Try.prog E ⟨f, 14, b, ro⟩ n45_11 st = plainS (runOps Try.prog E b q45_11 (ops [true, false, false, true, true, false] Try.f45) st) := GE.region_step (id := 3) (GE.reg_of (by kernel_rfl)) (by kernel_rfl)
theorem n45_14s : codeB Try.prog E ⟨f, 14, b, ro⟩ n45_14 st = plainS (runOps Try.prog E b q45_14 (ops [true, false, false, true, true, true, false, false] Try.f45) st) := GE.region_step (id := 4) (GE.reg_of (by kernel_rfl)) (by kernel_rfl)
theorem n45_15s : codeB Try.prog LL ⟨45, 14, b, ro⟩ n45_15 st = normS b ⟨[2], []⟩ .ret st := GE.ret_step (by kernel_rfl) (by kernel_rfl)
theorem n45_13s : codeB Try.prog E cx n45_13 st = thenS (codeB Try.prog E cx n45_14 st) (codeB Try.prog E cx n45_15) := GE.seq_step (by kernel_rfl)
theorem n45_17s : codeB Try.prog E ⟨f, 14, b, ro⟩ n45_17 st = plainS (runOps Try.prog E b q45_17 (ops [true, false, false, true, true, true, true, false] Try.f45) st) := GE.region_step (id := 5) (GE.reg_of (by kernel_rfl)) (by kernel_rfl)
theorem n45_20s : codeB Try.prog E ⟨f, 14, b, ro⟩ n45_20 st = plainS (runOps Try.prog E b q45_20 (ops [true, false, false, true, true, true, true, true, false, false] Try.f45) st) := GE.region_step (id := 6) (GE.reg_of (by kernel_rfl)) (by kernel_rfl)
theorem n45_21s : codeB Try.prog LL ⟨45, 14, b, ro⟩ n45_21 st = normS b ⟨[2], []⟩ .ret st := GE.ret_step (by kernel_rfl) (by kernel_rfl)
theorem n45_19s : codeB Try.prog E cx n45_19 st = thenS (codeB Try.prog E cx n45_20 st) (codeB Try.prog E cx n45_21) := GE.seq_step (by kernel_rfl)
theorem n45_22s : codeB Try.prog E cx n45_22 st = some (.normal, st) := GE.skip_step (by kernel_rfl)
theorem n45_18s : codeB Try.prog E cx n45_18 st = condS (codeB Try.prog E cx n45_19) (codeB Try.prog E cx n45_22) (lk st.σ 11) st := GE.cond_step (c := .tmp 11) (by kernel_rfl)
theorem n45_16s : codeB Try.prog E cx n45_16 st = thenS (codeB Try.prog E cx n45_17 st) (codeB Try.prog E cx n45_18) := GE.seq_step (by kernel_rfl)
theorem n45_12s : codeB Try.prog E cx n45_12 st = condS (codeB Try.prog E cx n45_13) (codeB Try.prog E cx n45_16) (lk st.σ 7) st := GE.cond_step (c := .tmp 7) (by kernel_rfl)
theorem n45_10s : codeB Try.prog E cx n45_10 st = thenS (codeB Try.prog E cx n45_11 st) (codeB Try.prog E cx n45_12) := GE.seq_step (by kernel_rfl)
theorem n45_6s : codeB Try.prog E cx n45_6 st = condS (codeB Try.prog E cx n45_7) (codeB Try.prog E cx n45_10) (lk st.σ 3) st := GE.cond_step (c := .tmp 3) (by kernel_rfl)
theorem n45_4s : codeB Try.prog E cx n45_4 st = thenS (codeB Try.prog E cx n45_5 st) (codeB Try.prog E cx n45_6) := GE.seq_step (by kernel_rfl)
theorem n45_3s : codeB Try.prog E cx n45_3 st = blockS 0 (codeB Try.prog E cx n45_4 st) st := GE.block_step (by kernel_rfl)
theorem n45_24s : codeB Try.prog E ⟨f, 14, b, ro⟩ n45_24 st = plainS (runOps Try.prog E b q45_24 (ops [true, true, false] Try.f45) st) := GE.region_step (id := 7) (GE.reg_of (by kernel_rfl)) (by kernel_rfl)
theorem n45_25s : codeB Try.prog LL ⟨45, 14, b, ro⟩ n45_25 st = normS b ⟨[2], []⟩ .ret st := GE.ret_step (by kernel_rfl) (by kernel_rfl)
theorem n45_23s : codeB Try.prog E cx n45_23 st = thenS (codeB Try.prog E cx n45_24 st) (codeB Try.prog E cx n45_25) := GE.seq_step (by kernel_rfl)
theorem n45_2s : codeB Try.prog E cx n45_2 st = thenS (codeB Try.prog E cx n45_3 st) (codeB Try.prog E cx n45_23) := GE.seq_step (by kernel_rfl)
theorem n45_0s : codeB Try.prog E cx n45_0 st = thenS (codeB Try.prog E cx n45_1 st) (codeB Try.prog E cx n45_2) := GE.seq_step (by kernel_rfl)
noncomputable def n50_0 : Code := bodyOf Try.f50
noncomputable def n50_1 : Code := cl n50_0
noncomputable def q50_1 : List Oper := opsOf n50_1
noncomputable def n50_2 : Code := cr n50_0
noncomputable def n50_3 : Code := cl n50_2
noncomputable def n50_4 : Code := cl n50_3
noncomputable def q50_4 : List Oper := opsOf n50_4
noncomputable def n50_5 : Code := cr n50_3
noncomputable def n50_6 : Code := cl n50_5
noncomputable def n50_7 : Code := cl n50_6
noncomputable def q50_7 : List Oper := opsOf n50_7
noncomputable def n50_8 : Code := cr n50_6
noncomputable def n50_9 : Code := cr n50_5
noncomputable def n50_10 : Code := cr n50_2
noncomputable def n50_11 : Code := cl n50_10
noncomputable def n50_12 : Code := cl n50_11
noncomputable def q50_12 : List Oper := opsOf n50_12
noncomputable def n50_13 : Code := cr n50_11
noncomputable def n50_14 : Code := cl n50_13
noncomputable def n50_15 : Code := cl n50_14
noncomputable def q50_15 : List Oper := opsOf n50_15
noncomputable def n50_16 : Code := cr n50_14
noncomputable def n50_17 : Code := cr n50_13
noncomputable def n50_18 : Code := cr n50_10
noncomputable def n50_19 : Code := cl n50_18
noncomputable def n50_20 : Code := cl n50_19
noncomputable def q50_20 : List Oper := opsOf n50_20
noncomputable def n50_21 : Code := cr n50_19
noncomputable def n50_22 : Code := cl n50_21
noncomputable def n50_23 : Code := cl n50_22
noncomputable def n50_24 : Code := cl n50_23
noncomputable def n50_25 : Code := cl n50_24
noncomputable def q50_25 : List Oper := opsOf n50_25
noncomputable def n50_26 : Code := cr n50_24
noncomputable def n50_27 : Code := cl n50_26
noncomputable def n50_28 : Code := cr n50_26
noncomputable def n50_29 : Code := cr n50_23
noncomputable def n50_30 : Code := cl n50_29
noncomputable def n50_31 : Code := cl n50_30
noncomputable def n50_32 : Code := cl n50_31
noncomputable def q50_32 : List Oper := opsOf n50_32
noncomputable def n50_33 : Code := cr n50_31
noncomputable def n50_34 : Code := cl n50_33
noncomputable def n50_35 : Code := cl n50_34
noncomputable def q50_35 : List Oper := opsOf n50_35
noncomputable def n50_36 : Code := cr n50_34
noncomputable def n50_37 : Code := cr n50_33
noncomputable def n50_38 : Code := cr n50_29
noncomputable def q50_38 : List Oper := opsOf n50_38
noncomputable def n50_39 : Code := cr n50_18
noncomputable def n50_40 : Code := cl n50_39
noncomputable def q50_40 : List Oper := opsOf n50_40
noncomputable def n50_41 : Code := cr n50_39
theorem body50 : Try.f50.body = some n50_0 := by kernel_rfl
theorem run50 (E : Ev) (args : List Value) (h : List Blk) (hl : args.length ≤ 36) : runB Try.prog E 50 args h = endS Try.prog [.tmp 2] h.length (codeB Try.prog E ⟨50, 36, h.length, none⟩ n50_0 ⟨enumT 0 args, h, []⟩) := GE.run_step Try.func50 body50 (by kernel_rfl) (by decide) (by kernel_rfl) hl
theorem n50_1s : codeB Try.prog E ⟨f, 36, b, ro⟩ n50_1 st = plainS (runOps Try.prog E b q50_1 (ops [false] Try.f50) st) := GE.region_step (id := 0) (GE.reg_of (by kernel_rfl)) (by kernel_rfl)
theorem n50_4s : codeB Try.prog E ⟨f, 36, b, ro⟩ n50_4 st = plainS (runOps Try.prog E b q50_4 (ops [true, false, false] Try.f50) st) := GE.region_step (id := 1) (GE.reg_of (by kernel_rfl)) (by kernel_rfl)
theorem n50_7s : codeB Try.prog E ⟨f, 36, b, ro⟩ n50_7 st = plainS (runOps Try.prog E b q50_7 (ops [true, false, true, false, false] Try.f50) st) := GE.region_step (id := 2) (GE.reg_of (by kernel_rfl)) (by kernel_rfl)
theorem n50_8s : codeB Try.prog LL ⟨50, 36, b, ro⟩ n50_8 st = normS b ⟨[2], []⟩ .ret st := GE.ret_step (by kernel_rfl) (by kernel_rfl)
theorem n50_6s : codeB Try.prog E cx n50_6 st = thenS (codeB Try.prog E cx n50_7 st) (codeB Try.prog E cx n50_8) := GE.seq_step (by kernel_rfl)
theorem n50_9s : codeB Try.prog E cx n50_9 st = some (.normal, st) := GE.skip_step (by kernel_rfl)
theorem n50_5s : codeB Try.prog E cx n50_5 st = condS (codeB Try.prog E cx n50_6) (codeB Try.prog E cx n50_9) (lk st.σ 6) st := GE.cond_step (c := .tmp 6) (by kernel_rfl)
theorem n50_3s : codeB Try.prog E cx n50_3 st = thenS (codeB Try.prog E cx n50_4 st) (codeB Try.prog E cx n50_5) := GE.seq_step (by kernel_rfl)
theorem n50_12s : codeB Try.prog E ⟨f, 36, b, ro⟩ n50_12 st = plainS (runOps Try.prog E b q50_12 (ops [true, true, false, false] Try.f50) st) := GE.region_step (id := 3) (GE.reg_of (by kernel_rfl)) (by kernel_rfl)
theorem n50_15s : codeB Try.prog E ⟨f, 36, b, ro⟩ n50_15 st = plainS (runOps Try.prog E b q50_15 (ops [true, true, false, true, false, false] Try.f50) st) := GE.region_step (id := 4) (GE.reg_of (by kernel_rfl)) (by kernel_rfl)
theorem n50_16s : codeB Try.prog LL ⟨50, 36, b, ro⟩ n50_16 st = normS b ⟨[2], []⟩ .ret st := GE.ret_step (by kernel_rfl) (by kernel_rfl)
theorem n50_14s : codeB Try.prog E cx n50_14 st = thenS (codeB Try.prog E cx n50_15 st) (codeB Try.prog E cx n50_16) := GE.seq_step (by kernel_rfl)
theorem n50_17s : codeB Try.prog E cx n50_17 st = some (.normal, st) := GE.skip_step (by kernel_rfl)
theorem n50_13s : codeB Try.prog E cx n50_13 st = condS (codeB Try.prog E cx n50_14) (codeB Try.prog E cx n50_17) (lk st.σ 9) st := GE.cond_step (c := .tmp 9) (by kernel_rfl)
theorem n50_11s : codeB Try.prog E cx n50_11 st = thenS (codeB Try.prog E cx n50_12 st) (codeB Try.prog E cx n50_13) := GE.seq_step (by kernel_rfl)
theorem n50_20s : codeB Try.prog E ⟨f, 36, b, ro⟩ n50_20 st = plainS (runOps Try.prog E b q50_20 (ops [true, true, true, false, false] Try.f50) st) := GE.region_step (id := 5) (GE.reg_of (by kernel_rfl)) (by kernel_rfl)
theorem n50_25s : codeB Try.prog E ⟨f, 36, b, ro⟩ n50_25 st = plainS (runOps Try.prog E b q50_25 (ops [true, true, true, false, true, false, false, false, false] Try.f50) st) := GE.region_step (id := 6) (GE.reg_of (by kernel_rfl)) (by kernel_rfl)
theorem n50_27s : codeB Try.prog E cx n50_27 st = some (.normal, st) := GE.skip_step (by kernel_rfl)
theorem n50_28s : codeB Try.prog LL ⟨50, 36, b, ro⟩ n50_28 st = normS b ⟨[], []⟩ (.exit 0) st := GE.exit_step (by kernel_rfl) (by kernel_rfl)
theorem n50_26s : codeB Try.prog E cx n50_26 st = condS (codeB Try.prog E cx n50_27) (codeB Try.prog E cx n50_28) (lk st.σ 13) st := GE.cond_step (c := .tmp 13) (by kernel_rfl)
theorem n50_24s : codeB Try.prog E cx n50_24 st = thenS (codeB Try.prog E cx n50_25 st) (codeB Try.prog E cx n50_26) := GE.seq_step (by kernel_rfl)
theorem q50_32g12 : gd q50_32 12 = some 28 := by kernel_rfl
theorem n50_32s : codeB Try.prog E ⟨f, 36, b, ro⟩ n50_32 st = drawS [0, 0, 3, 7, 15, 0, 0, 96, 224, 480, 1023, 2047, 4095, 8191, 8191, 32767, 65535, 131071, 262143, 524287] (runOpsF Try.prog E b q50_32 (ops [true, true, true, false, true, false, false, true, false, false, false] Try.f50) st) := GE.draw_step (id := 8) (GE.reg_of (by kernel_rfl)) (by kernel_rfl) (by kernel_rfl) (by kernel_rfl)
theorem n50_35s : codeB Try.prog E ⟨f, 36, b, ro⟩ n50_35 st = plainS (runOps Try.prog E b q50_35 (ops [true, true, true, false, true, false, false, true, false, false, true, false, false] Try.f50) st) := GE.region_step (id := 9) (GE.reg_of (by kernel_rfl)) (by kernel_rfl)
theorem n50_36s : codeB Try.prog LL ⟨50, 36, b, ro⟩ n50_36 st = normS b ⟨[2], []⟩ .ret st := GE.ret_step (by kernel_rfl) (by kernel_rfl)
theorem n50_34s : codeB Try.prog E cx n50_34 st = thenS (codeB Try.prog E cx n50_35 st) (codeB Try.prog E cx n50_36) := GE.seq_step (by kernel_rfl)
theorem n50_37s : codeB Try.prog E cx n50_37 st = some (.normal, st) := GE.skip_step (by kernel_rfl)
theorem n50_33s : codeB Try.prog E cx n50_33 st = condS (codeB Try.prog E cx n50_34) (codeB Try.prog E cx n50_37) (lk st.σ 35) st := GE.cond_step (c := .tmp 35) (by kernel_rfl)
theorem n50_31s : codeB Try.prog E cx n50_31 st = thenS (codeB Try.prog E cx n50_32 st) (codeB Try.prog E cx n50_33) := GE.seq_step (by kernel_rfl)
theorem n50_30s : codeB Try.prog E cx n50_30 st = blockS 1 (codeB Try.prog E cx n50_31 st) st := GE.block_step (by kernel_rfl)
theorem n50_38s : codeB Try.prog E ⟨f, 36, b, ro⟩ n50_38 st = plainS (runOps Try.prog E b q50_38 (ops [true, true, true, false, true, false, false, true, true] Try.f50) st) := GE.region_step (id := 7) (GE.reg_of (by kernel_rfl)) (by kernel_rfl)
theorem n50_29s : codeB Try.prog E cx n50_29 st = thenS (codeB Try.prog E cx n50_30 st) (codeB Try.prog E cx n50_38) := GE.seq_step (by kernel_rfl)
theorem n50_23s : codeB Try.prog E cx n50_23 st = thenS (codeB Try.prog E cx n50_24 st) (codeB Try.prog E cx n50_29) := GE.seq_step (by kernel_rfl)
theorem n50_22k : LL.kp (⟨50, 36, b, ro⟩ : Cx).fn (4 * rid n50_23 + 3) = some ⟨[0, 3], [⟨0, 0, 2, true⟩]⟩ := by kernel_rfl
theorem n50_22s : codeB Try.prog LL ⟨50, 36, b, ro⟩ n50_22 st = headS b ⟨[0, 3], [⟨0, 0, 2, true⟩]⟩ st (lpB Try.prog LL ⟨50, 36, b, ro⟩ n50_22 n50_23) := GE.lpB_step (by kernel_rfl) (n50_22k b ro)
theorem n50_22g : LL.code ⟨50, 36, b, ro⟩ n50_22 st = headS b ⟨[0, 3], [⟨0, 0, 2, true⟩]⟩ st (lpB Try.prog LL ⟨50, 36, b, ro⟩ n50_22 n50_23) := GE.lpB_again (by kernel_rfl) (n50_22k b ro)
theorem n50_21s : codeB Try.prog E cx n50_21 st = blockS 0 (codeB Try.prog E cx n50_22 st) st := GE.block_step (by kernel_rfl)
theorem n50_19s : codeB Try.prog E cx n50_19 st = thenS (codeB Try.prog E cx n50_20 st) (codeB Try.prog E cx n50_21) := GE.seq_step (by kernel_rfl)
theorem n50_40s : codeB Try.prog E ⟨f, 36, b, ro⟩ n50_40 st = plainS (runOps Try.prog E b q50_40 (ops [true, true, true, true, false] Try.f50) st) := GE.region_step (id := 10) (GE.reg_of (by kernel_rfl)) (by kernel_rfl)
theorem n50_41s : codeB Try.prog LL ⟨50, 36, b, ro⟩ n50_41 st = normS b ⟨[2], []⟩ .ret st := GE.ret_step (by kernel_rfl) (by kernel_rfl)
theorem n50_39s : codeB Try.prog E cx n50_39 st = thenS (codeB Try.prog E cx n50_40 st) (codeB Try.prog E cx n50_41) := GE.seq_step (by kernel_rfl)
theorem n50_18s : codeB Try.prog E cx n50_18 st = thenS (codeB Try.prog E cx n50_19 st) (codeB Try.prog E cx n50_39) := GE.seq_step (by kernel_rfl)
theorem n50_10s : codeB Try.prog E cx n50_10 st = thenS (codeB Try.prog E cx n50_11 st) (codeB Try.prog E cx n50_18) := GE.seq_step (by kernel_rfl)
theorem n50_2s : codeB Try.prog E cx n50_2 st = thenS (codeB Try.prog E cx n50_3 st) (codeB Try.prog E cx n50_10) := GE.seq_step (by kernel_rfl)
theorem n50_0s : codeB Try.prog E cx n50_0 st = thenS (codeB Try.prog E cx n50_1 st) (codeB Try.prog E cx n50_2) := GE.seq_step (by kernel_rfl)
noncomputable def n53_0 : Code := bodyOf Try.f53
noncomputable def n53_1 : Code := cl n53_0
noncomputable def q53_1 : List Oper := opsOf n53_1
noncomputable def n53_2 : Code := cr n53_0
noncomputable def n53_3 : Code := cl n53_2
noncomputable def n53_4 : Code := cl n53_3
noncomputable def q53_4 : List Oper := opsOf n53_4
noncomputable def n53_5 : Code := cr n53_3
noncomputable def n53_6 : Code := cl n53_5
noncomputable def n53_7 : Code := cl n53_6
noncomputable def q53_7 : List Oper := opsOf n53_7
noncomputable def n53_8 : Code := cr n53_6
noncomputable def n53_9 : Code := cr n53_5
noncomputable def n53_10 : Code := cr n53_2
noncomputable def n53_11 : Code := cl n53_10
noncomputable def q53_11 : List Oper := opsOf n53_11
noncomputable def n53_12 : Code := cr n53_10
noncomputable def n53_13 : Code := cl n53_12
noncomputable def n53_14 : Code := cl n53_13
noncomputable def q53_14 : List Oper := opsOf n53_14
noncomputable def n53_15 : Code := cr n53_13
noncomputable def n53_16 : Code := cl n53_15
noncomputable def n53_17 : Code := cl n53_16
noncomputable def n53_18 : Code := cl n53_17
noncomputable def q53_18 : List Oper := opsOf n53_18
noncomputable def n53_19 : Code := cr n53_17
noncomputable def n53_20 : Code := cl n53_19
noncomputable def n53_21 : Code := cl n53_20
noncomputable def n53_22 : Code := cr n53_20
noncomputable def n53_23 : Code := cr n53_19
noncomputable def n53_24 : Code := cl n53_23
noncomputable def n53_25 : Code := cl n53_24
noncomputable def n53_26 : Code := cl n53_25
noncomputable def q53_26 : List Oper := opsOf n53_26
noncomputable def n53_27 : Code := cr n53_25
noncomputable def n53_28 : Code := cl n53_27
noncomputable def q53_28 : List Oper := opsOf n53_28
noncomputable def n53_29 : Code := cr n53_27
noncomputable def n53_30 : Code := cl n53_29
noncomputable def n53_31 : Code := cl n53_30
noncomputable def q53_31 : List Oper := opsOf n53_31
noncomputable def n53_32 : Code := cr n53_30
noncomputable def n53_33 : Code := cr n53_29
noncomputable def n53_34 : Code := cr n53_23
noncomputable def q53_34 : List Oper := opsOf n53_34
noncomputable def n53_35 : Code := cr n53_12
noncomputable def n53_36 : Code := cl n53_35
noncomputable def q53_36 : List Oper := opsOf n53_36
noncomputable def n53_37 : Code := cr n53_35
theorem body53 : Try.f53.body = some n53_0 := by kernel_rfl
theorem run53 (E : Ev) (args : List Value) (h : List Blk) (hl : args.length ≤ 30) : runB Try.prog E 53 args h = endS Try.prog [.tmp 6] h.length (codeB Try.prog E ⟨53, 30, h.length, none⟩ n53_0 ⟨enumT 0 args, h, []⟩) := GE.run_step Try.func53 body53 (by kernel_rfl) (by decide) (by kernel_rfl) hl
theorem n53_1s : codeB Try.prog E ⟨f, 30, b, ro⟩ n53_1 st = plainS (runOps Try.prog E b q53_1 (ops [false] Try.f53) st) := GE.region_step (id := 0) (GE.reg_of (by kernel_rfl)) (by kernel_rfl)
theorem n53_4s : codeB Try.prog E ⟨f, 30, b, ro⟩ n53_4 st = plainS (runOps Try.prog E b q53_4 (ops [true, false, false] Try.f53) st) := GE.region_step (id := 1) (GE.reg_of (by kernel_rfl)) (by kernel_rfl)
theorem n53_7s : codeB Try.prog E ⟨f, 30, b, ro⟩ n53_7 st = plainS (runOps Try.prog E b q53_7 (ops [true, false, true, false, false] Try.f53) st) := GE.region_step (id := 2) (GE.reg_of (by kernel_rfl)) (by kernel_rfl)
theorem n53_8s : codeB Try.prog LL ⟨53, 30, b, ro⟩ n53_8 st = normS b ⟨[6], []⟩ .ret st := GE.ret_step (by kernel_rfl) (by kernel_rfl)
theorem n53_6s : codeB Try.prog E cx n53_6 st = thenS (codeB Try.prog E cx n53_7 st) (codeB Try.prog E cx n53_8) := GE.seq_step (by kernel_rfl)
theorem n53_9s : codeB Try.prog E cx n53_9 st = some (.normal, st) := GE.skip_step (by kernel_rfl)
theorem n53_5s : codeB Try.prog E cx n53_5 st = condS (codeB Try.prog E cx n53_6) (codeB Try.prog E cx n53_9) (lk st.σ 11) st := GE.cond_step (c := .tmp 11) (by kernel_rfl)
theorem n53_3s : codeB Try.prog E cx n53_3 st = thenS (codeB Try.prog E cx n53_4 st) (codeB Try.prog E cx n53_5) := GE.seq_step (by kernel_rfl)
theorem n53_11s : codeB Try.prog E ⟨f, 30, b, ro⟩ n53_11 st = plainS (runOps Try.prog E b q53_11 (ops [true, true, false] Try.f53) st) := GE.region_step (id := 3) (GE.reg_of (by kernel_rfl)) (by kernel_rfl)
theorem n53_14s : codeB Try.prog E ⟨f, 30, b, ro⟩ n53_14 st = plainS (runOps Try.prog E b q53_14 (ops [true, true, true, false, false] Try.f53) st) := GE.region_step (id := 4) (GE.reg_of (by kernel_rfl)) (by kernel_rfl)
theorem n53_18s : codeB Try.prog E ⟨f, 30, b, ro⟩ n53_18 st = plainS (runOps Try.prog E b q53_18 (ops [true, true, true, false, true, false, false, false] Try.f53) st) := GE.region_step (id := 5) (GE.reg_of (by kernel_rfl)) (by kernel_rfl)
theorem n53_21s : codeB Try.prog E cx n53_21 st = some (.normal, st) := GE.skip_step (by kernel_rfl)
theorem n53_22s : codeB Try.prog LL ⟨53, 30, b, ro⟩ n53_22 st = normS b ⟨[], []⟩ (.exit 0) st := GE.exit_step (by kernel_rfl) (by kernel_rfl)
theorem n53_20s : codeB Try.prog E cx n53_20 st = condS (codeB Try.prog E cx n53_21) (codeB Try.prog E cx n53_22) (lk st.σ 17) st := GE.cond_step (c := .tmp 17) (by kernel_rfl)
theorem n53_26s : codeB Try.prog E ⟨f, 30, b, ro⟩ n53_26 st = plainS (runOps Try.prog E b q53_26 (ops [true, true, true, false, true, false, false, true, true, false, false, false] Try.f53) st) := GE.region_step (id := 6) (GE.reg_of (by kernel_rfl)) (by kernel_rfl)
theorem q53_28g4 : gd q53_28 4 = some 23 := by kernel_rfl
theorem n53_28s : codeB Try.prog E ⟨f, 30, b, ro⟩ n53_28 st = plainS (runOps Try.prog E b q53_28 (ops [true, true, true, false, true, false, false, true, true, false, false, true, false] Try.f53) st) := GE.region_step (id := 7) (GE.reg_of (by kernel_rfl)) (by kernel_rfl)
theorem n53_31s : codeB Try.prog E ⟨f, 30, b, ro⟩ n53_31 st = plainS (runOps Try.prog E b q53_31 (ops [true, true, true, false, true, false, false, true, true, false, false, true, true, false, false] Try.f53) st) := GE.region_step (id := 8) (GE.reg_of (by kernel_rfl)) (by kernel_rfl)
theorem n53_32s : codeB Try.prog LL ⟨53, 30, b, ro⟩ n53_32 st = normS b ⟨[6], []⟩ .ret st := GE.ret_step (by kernel_rfl) (by kernel_rfl)
theorem n53_30s : codeB Try.prog E cx n53_30 st = thenS (codeB Try.prog E cx n53_31 st) (codeB Try.prog E cx n53_32) := GE.seq_step (by kernel_rfl)
theorem n53_33s : codeB Try.prog E cx n53_33 st = some (.normal, st) := GE.skip_step (by kernel_rfl)
theorem n53_29s : codeB Try.prog E cx n53_29 st = condS (codeB Try.prog E cx n53_30) (codeB Try.prog E cx n53_33) (lk st.σ 28) st := GE.cond_step (c := .tmp 28) (by kernel_rfl)
theorem n53_27s : codeB Try.prog E cx n53_27 st = thenS (codeB Try.prog E cx n53_28 st) (codeB Try.prog E cx n53_29) := GE.seq_step (by kernel_rfl)
theorem n53_25s : codeB Try.prog E cx n53_25 st = thenS (codeB Try.prog E cx n53_26 st) (codeB Try.prog E cx n53_27) := GE.seq_step (by kernel_rfl)
theorem n53_24s : codeB Try.prog E cx n53_24 st = blockS 1 (codeB Try.prog E cx n53_25 st) st := GE.block_step (by kernel_rfl)
theorem n53_34s : codeB Try.prog E ⟨f, 30, b, ro⟩ n53_34 st = plainS (runOps Try.prog E b q53_34 (ops [true, true, true, false, true, false, false, true, true, true] Try.f53) st) := GE.region_step (id := 9) (GE.reg_of (by kernel_rfl)) (by kernel_rfl)
theorem n53_23s : codeB Try.prog E cx n53_23 st = thenS (codeB Try.prog E cx n53_24 st) (codeB Try.prog E cx n53_34) := GE.seq_step (by kernel_rfl)
theorem n53_19s : codeB Try.prog E cx n53_19 st = thenS (codeB Try.prog E cx n53_20 st) (codeB Try.prog E cx n53_23) := GE.seq_step (by kernel_rfl)
theorem n53_17s : codeB Try.prog E cx n53_17 st = thenS (codeB Try.prog E cx n53_18 st) (codeB Try.prog E cx n53_19) := GE.seq_step (by kernel_rfl)
theorem n53_16k : LL.kp (⟨53, 30, b, ro⟩ : Cx).fn (4 * rid n53_17 + 3) = some ⟨[1, 2, 7, 15, 16], []⟩ := by kernel_rfl
theorem n53_16s : codeB Try.prog LL ⟨53, 30, b, ro⟩ n53_16 st = headS b ⟨[1, 2, 7, 15, 16], []⟩ st (lpB Try.prog LL ⟨53, 30, b, ro⟩ n53_16 n53_17) := GE.lpB_step (by kernel_rfl) (n53_16k b ro)
theorem n53_16g : LL.code ⟨53, 30, b, ro⟩ n53_16 st = headS b ⟨[1, 2, 7, 15, 16], []⟩ st (lpB Try.prog LL ⟨53, 30, b, ro⟩ n53_16 n53_17) := GE.lpB_again (by kernel_rfl) (n53_16k b ro)
theorem n53_15s : codeB Try.prog E cx n53_15 st = blockS 0 (codeB Try.prog E cx n53_16 st) st := GE.block_step (by kernel_rfl)
theorem n53_13s : codeB Try.prog E cx n53_13 st = thenS (codeB Try.prog E cx n53_14 st) (codeB Try.prog E cx n53_15) := GE.seq_step (by kernel_rfl)
theorem n53_36s : codeB Try.prog E ⟨f, 30, b, ro⟩ n53_36 st = plainS (runOps Try.prog E b q53_36 (ops [true, true, true, true, false] Try.f53) st) := GE.region_step (id := 10) (GE.reg_of (by kernel_rfl)) (by kernel_rfl)
theorem n53_37s : codeB Try.prog LL ⟨53, 30, b, ro⟩ n53_37 st = normS b ⟨[6], []⟩ .ret st := GE.ret_step (by kernel_rfl) (by kernel_rfl)
theorem n53_35s : codeB Try.prog E cx n53_35 st = thenS (codeB Try.prog E cx n53_36 st) (codeB Try.prog E cx n53_37) := GE.seq_step (by kernel_rfl)
theorem n53_12s : codeB Try.prog E cx n53_12 st = thenS (codeB Try.prog E cx n53_13 st) (codeB Try.prog E cx n53_35) := GE.seq_step (by kernel_rfl)
theorem n53_10s : codeB Try.prog E cx n53_10 st = thenS (codeB Try.prog E cx n53_11 st) (codeB Try.prog E cx n53_12) := GE.seq_step (by kernel_rfl)
theorem n53_2s : codeB Try.prog E cx n53_2 st = thenS (codeB Try.prog E cx n53_3 st) (codeB Try.prog E cx n53_10) := GE.seq_step (by kernel_rfl)
theorem n53_0s : codeB Try.prog E cx n53_0 st = thenS (codeB Try.prog E cx n53_1 st) (codeB Try.prog E cx n53_2) := GE.seq_step (by kernel_rfl)
noncomputable def n54_0 : Code := bodyOf Try.f54
noncomputable def n54_1 : Code := cl n54_0
noncomputable def q54_1 : List Oper := opsOf n54_1
noncomputable def n54_2 : Code := cr n54_0
noncomputable def n54_3 : Code := cl n54_2
noncomputable def q54_3 : List Oper := opsOf n54_3
noncomputable def n54_4 : Code := cr n54_2
theorem body54 : Try.f54.body = some n54_0 := by kernel_rfl
theorem run54 (E : Ev) (args : List Value) (h : List Blk) (hl : args.length ≤ 9) : runB Try.prog E 54 args h = endS Try.prog [.tmp 4] h.length (codeB Try.prog E ⟨54, 9, h.length, none⟩ n54_0 ⟨enumT 0 args, h, []⟩) := GE.run_step Try.func54 body54 (by kernel_rfl) (by decide) (by kernel_rfl) hl
theorem n54_1s : codeB Try.prog E ⟨f, 9, b, ro⟩ n54_1 st = plainS (runOps Try.prog E b q54_1 (ops [false] Try.f54) st) := GE.region_step (id := 0) (GE.reg_of (by kernel_rfl)) (by kernel_rfl)
theorem n54_3s : codeB Try.prog E ⟨f, 9, b, ro⟩ n54_3 st = plainS (runOps Try.prog E b q54_3 (ops [true, false] Try.f54) st) := GE.region_step (id := 1) (GE.reg_of (by kernel_rfl)) (by kernel_rfl)
theorem n54_4s : codeB Try.prog LL ⟨54, 9, b, ro⟩ n54_4 st = normS b ⟨[4], []⟩ .ret st := GE.ret_step (by kernel_rfl) (by kernel_rfl)
theorem n54_2s : codeB Try.prog E cx n54_2 st = thenS (codeB Try.prog E cx n54_3 st) (codeB Try.prog E cx n54_4) := GE.seq_step (by kernel_rfl)
theorem n54_0s : codeB Try.prog E cx n54_0 st = thenS (codeB Try.prog E cx n54_1 st) (codeB Try.prog E cx n54_2) := GE.seq_step (by kernel_rfl)
noncomputable def n55_0 : Code := bodyOf Try.f55
noncomputable def n55_1 : Code := cl n55_0
noncomputable def q55_1 : List Oper := opsOf n55_1
noncomputable def n55_2 : Code := cr n55_0
noncomputable def n55_3 : Code := cl n55_2
noncomputable def q55_3 : List Oper := opsOf n55_3
noncomputable def n55_4 : Code := cr n55_2
theorem body55 : Try.f55.body = some n55_0 := by kernel_rfl
theorem run55 (E : Ev) (args : List Value) (h : List Blk) (hl : args.length ≤ 18) : runB Try.prog E 55 args h = endS Try.prog [.tmp 6] h.length (codeB Try.prog E ⟨55, 18, h.length, none⟩ n55_0 ⟨enumT 0 args, h, []⟩) := GE.run_step Try.func55 body55 (by kernel_rfl) (by decide) (by kernel_rfl) hl
theorem n55_1s : codeB Try.prog E ⟨f, 18, b, ro⟩ n55_1 st = plainS (runOps Try.prog E b q55_1 (ops [false] Try.f55) st) := GE.region_step (id := 0) (GE.reg_of (by kernel_rfl)) (by kernel_rfl)
theorem n55_3s : codeB Try.prog E ⟨f, 18, b, ro⟩ n55_3 st = drawS [0, 0, 3, 7, 15, 0, 0, 96, 224, 480, 1023, 2047] (runOpsF Try.prog E b q55_3 (ops [true, false] Try.f55) st) := GE.draw_step (id := 1) (GE.reg_of (by kernel_rfl)) (by kernel_rfl) (by kernel_rfl) (by kernel_rfl)
theorem n55_4s : codeB Try.prog LL ⟨55, 18, b, ro⟩ n55_4 st = normS b ⟨[6], []⟩ .ret st := GE.ret_step (by kernel_rfl) (by kernel_rfl)
theorem n55_2s : codeB Try.prog E cx n55_2 st = thenS (codeB Try.prog E cx n55_3 st) (codeB Try.prog E cx n55_4) := GE.seq_step (by kernel_rfl)
theorem n55_0s : codeB Try.prog E cx n55_0 st = thenS (codeB Try.prog E cx n55_1 st) (codeB Try.prog E cx n55_2) := GE.seq_step (by kernel_rfl)
noncomputable def n57_0 : Code := bodyOf Try.f57
noncomputable def n57_1 : Code := cl n57_0
noncomputable def q57_1 : List Oper := opsOf n57_1
noncomputable def n57_2 : Code := cr n57_0
noncomputable def n57_3 : Code := cl n57_2
noncomputable def q57_3 : List Oper := opsOf n57_3
noncomputable def n57_4 : Code := cr n57_2
theorem body57 : Try.f57.body = some n57_0 := by kernel_rfl
theorem run57 (E : Ev) (args : List Value) (h : List Blk) (hl : args.length ≤ 15) : runB Try.prog E 57 args h = endS Try.prog [.tmp 6] h.length (codeB Try.prog E ⟨57, 15, h.length, none⟩ n57_0 ⟨enumT 0 args, h, []⟩) := GE.run_step Try.func57 body57 (by kernel_rfl) (by decide) (by kernel_rfl) hl
theorem n57_1s : codeB Try.prog E ⟨f, 15, b, ro⟩ n57_1 st = plainS (runOps Try.prog E b q57_1 (ops [false] Try.f57) st) := GE.region_step (id := 0) (GE.reg_of (by kernel_rfl)) (by kernel_rfl)
theorem q57_3g3 : gd q57_3 3 = some 10 := by kernel_rfl
theorem n57_3s : codeB Try.prog E ⟨f, 15, b, ro⟩ n57_3 st = plainS (runOps Try.prog E b q57_3 (ops [true, false] Try.f57) st) := GE.region_step (id := 1) (GE.reg_of (by kernel_rfl)) (by kernel_rfl)
theorem n57_4s : codeB Try.prog LL ⟨57, 15, b, ro⟩ n57_4 st = normS b ⟨[6], []⟩ .ret st := GE.ret_step (by kernel_rfl) (by kernel_rfl)
theorem n57_2s : codeB Try.prog E cx n57_2 st = thenS (codeB Try.prog E cx n57_3 st) (codeB Try.prog E cx n57_4) := GE.seq_step (by kernel_rfl)
theorem n57_0s : codeB Try.prog E cx n57_0 st = thenS (codeB Try.prog E cx n57_1 st) (codeB Try.prog E cx n57_2) := GE.seq_step (by kernel_rfl)
noncomputable def n58_0 : Code := bodyOf Try.f58
noncomputable def n58_1 : Code := cl n58_0
noncomputable def q58_1 : List Oper := opsOf n58_1
noncomputable def n58_2 : Code := cr n58_0
noncomputable def n58_3 : Code := cl n58_2
noncomputable def q58_3 : List Oper := opsOf n58_3
noncomputable def n58_4 : Code := cr n58_2
theorem body58 : Try.f58.body = some n58_0 := by kernel_rfl
theorem run58 (E : Ev) (args : List Value) (h : List Blk) (hl : args.length ≤ 15) : runB Try.prog E 58 args h = endS Try.prog [.tmp 6] h.length (codeB Try.prog E ⟨58, 15, h.length, none⟩ n58_0 ⟨enumT 0 args, h, []⟩) := GE.run_step Try.func58 body58 (by kernel_rfl) (by decide) (by kernel_rfl) hl
theorem n58_1s : codeB Try.prog E ⟨f, 15, b, ro⟩ n58_1 st = plainS (runOps Try.prog E b q58_1 (ops [false] Try.f58) st) := GE.region_step (id := 0) (GE.reg_of (by kernel_rfl)) (by kernel_rfl)
theorem q58_3g3 : gd q58_3 3 = some 10 := by kernel_rfl
theorem n58_3s : codeB Try.prog E ⟨f, 15, b, ro⟩ n58_3 st = plainS (runOps Try.prog E b q58_3 (ops [true, false] Try.f58) st) := GE.region_step (id := 1) (GE.reg_of (by kernel_rfl)) (by kernel_rfl)
theorem n58_4s : codeB Try.prog LL ⟨58, 15, b, ro⟩ n58_4 st = normS b ⟨[6], []⟩ .ret st := GE.ret_step (by kernel_rfl) (by kernel_rfl)
theorem n58_2s : codeB Try.prog E cx n58_2 st = thenS (codeB Try.prog E cx n58_3 st) (codeB Try.prog E cx n58_4) := GE.seq_step (by kernel_rfl)
theorem n58_0s : codeB Try.prog E cx n58_0 st = thenS (codeB Try.prog E cx n58_1 st) (codeB Try.prog E cx n58_2) := GE.seq_step (by kernel_rfl)
noncomputable def n59_0 : Code := bodyOf Try.f59
noncomputable def n59_1 : Code := cl n59_0
noncomputable def q59_1 : List Oper := opsOf n59_1
noncomputable def n59_2 : Code := cr n59_0
noncomputable def n59_3 : Code := cl n59_2
noncomputable def q59_3 : List Oper := opsOf n59_3
noncomputable def n59_4 : Code := cr n59_2
noncomputable def n59_5 : Code := cl n59_4
noncomputable def n59_6 : Code := cl n59_5
noncomputable def n59_7 : Code := cl n59_6
noncomputable def q59_7 : List Oper := opsOf n59_7
noncomputable def n59_8 : Code := cr n59_6
noncomputable def n59_9 : Code := cl n59_8
noncomputable def n59_10 : Code := cl n59_9
noncomputable def q59_10 : List Oper := opsOf n59_10
noncomputable def n59_11 : Code := cr n59_9
noncomputable def n59_12 : Code := cr n59_8
noncomputable def n59_13 : Code := cl n59_12
noncomputable def q59_13 : List Oper := opsOf n59_13
noncomputable def n59_14 : Code := cr n59_12
noncomputable def n59_15 : Code := cl n59_14
noncomputable def n59_16 : Code := cl n59_15
noncomputable def q59_16 : List Oper := opsOf n59_16
noncomputable def n59_17 : Code := cr n59_15
noncomputable def n59_18 : Code := cr n59_14
noncomputable def n59_19 : Code := cr n59_4
noncomputable def n59_20 : Code := cl n59_19
noncomputable def q59_20 : List Oper := opsOf n59_20
noncomputable def n59_21 : Code := cr n59_19
theorem body59 : Try.f59.body = some n59_0 := by kernel_rfl
theorem run59 (E : Ev) (args : List Value) (h : List Blk) (hl : args.length ≤ 17) : runB Try.prog E 59 args h = endS Try.prog [.tmp 2, .tmp 3] h.length (codeB Try.prog E ⟨59, 17, h.length, none⟩ n59_0 ⟨enumT 0 args, h, []⟩) := GE.run_step Try.func59 body59 (by kernel_rfl) (by decide) (by kernel_rfl) hl
theorem n59_1s : codeB Try.prog E ⟨f, 17, b, ro⟩ n59_1 st = plainS (runOps Try.prog E b q59_1 (ops [false] Try.f59) st) := GE.region_step (id := 0) (GE.reg_of (by kernel_rfl)) (by kernel_rfl)
theorem n59_3s : codeB Try.prog E ⟨f, 17, b, ro⟩ n59_3 st = plainS (runOps Try.prog E b q59_3 (ops [true, false] Try.f59) st) := GE.region_step (id := 1) (GE.reg_of (by kernel_rfl)) (by kernel_rfl)
theorem n59_7s : codeB Try.prog E ⟨f, 17, b, ro⟩ n59_7 st = plainS (runOps Try.prog E b q59_7 (ops [true, true, false, false, false] Try.f59) st) := GE.region_step (id := 2) (GE.reg_of (by kernel_rfl)) (by kernel_rfl)
theorem n59_10s : codeB Try.prog E ⟨f, 17, b, ro⟩ n59_10 st = plainS (runOps Try.prog E b q59_10 (ops [true, true, false, false, true, false, false] Try.f59) st) := GE.region_step (id := 3) (GE.reg_of (by kernel_rfl)) (by kernel_rfl)
theorem n59_11s : codeB Try.prog LL ⟨59, 17, b, ro⟩ n59_11 st = normS b ⟨[2, 3], []⟩ .ret st := GE.ret_step (by kernel_rfl) (by kernel_rfl)
theorem n59_9s : codeB Try.prog E cx n59_9 st = thenS (codeB Try.prog E cx n59_10 st) (codeB Try.prog E cx n59_11) := GE.seq_step (by kernel_rfl)
theorem n59_13s : codeB Try.prog E ⟨f, 17, b, ro⟩ n59_13 st = plainS (runOps Try.prog E b q59_13 (ops [true, true, false, false, true, true, false] Try.f59) st) := GE.region_step (id := 4) (GE.reg_of (by kernel_rfl)) (by kernel_rfl)
theorem n59_16s : codeB Try.prog E ⟨f, 17, b, ro⟩ n59_16 st = plainS (runOps Try.prog E b q59_16 (ops [true, true, false, false, true, true, true, false, false] Try.f59) st) := GE.region_step (id := 5) (GE.reg_of (by kernel_rfl)) (by kernel_rfl)
theorem n59_17s : codeB Try.prog LL ⟨59, 17, b, ro⟩ n59_17 st = normS b ⟨[2, 3], []⟩ .ret st := GE.ret_step (by kernel_rfl) (by kernel_rfl)
theorem n59_15s : codeB Try.prog E cx n59_15 st = thenS (codeB Try.prog E cx n59_16 st) (codeB Try.prog E cx n59_17) := GE.seq_step (by kernel_rfl)
theorem n59_18s : codeB Try.prog E cx n59_18 st = some (.normal, st) := GE.skip_step (by kernel_rfl)
theorem n59_14s : codeB Try.prog E cx n59_14 st = condS (codeB Try.prog E cx n59_15) (codeB Try.prog E cx n59_18) (lk st.σ 11) st := GE.cond_step (c := .tmp 11) (by kernel_rfl)
theorem n59_12s : codeB Try.prog E cx n59_12 st = thenS (codeB Try.prog E cx n59_13 st) (codeB Try.prog E cx n59_14) := GE.seq_step (by kernel_rfl)
theorem n59_8s : codeB Try.prog E cx n59_8 st = condS (codeB Try.prog E cx n59_9) (codeB Try.prog E cx n59_12) (lk st.σ 7) st := GE.cond_step (c := .tmp 7) (by kernel_rfl)
theorem n59_6s : codeB Try.prog E cx n59_6 st = thenS (codeB Try.prog E cx n59_7 st) (codeB Try.prog E cx n59_8) := GE.seq_step (by kernel_rfl)
theorem n59_5s : codeB Try.prog E cx n59_5 st = blockS 0 (codeB Try.prog E cx n59_6 st) st := GE.block_step (by kernel_rfl)
theorem n59_20s : codeB Try.prog E ⟨f, 17, b, ro⟩ n59_20 st = plainS (runOps Try.prog E b q59_20 (ops [true, true, true, false] Try.f59) st) := GE.region_step (id := 6) (GE.reg_of (by kernel_rfl)) (by kernel_rfl)
theorem n59_21s : codeB Try.prog LL ⟨59, 17, b, ro⟩ n59_21 st = normS b ⟨[2, 3], []⟩ .ret st := GE.ret_step (by kernel_rfl) (by kernel_rfl)
theorem n59_19s : codeB Try.prog E cx n59_19 st = thenS (codeB Try.prog E cx n59_20 st) (codeB Try.prog E cx n59_21) := GE.seq_step (by kernel_rfl)
theorem n59_4s : codeB Try.prog E cx n59_4 st = thenS (codeB Try.prog E cx n59_5 st) (codeB Try.prog E cx n59_19) := GE.seq_step (by kernel_rfl)
theorem n59_2s : codeB Try.prog E cx n59_2 st = thenS (codeB Try.prog E cx n59_3 st) (codeB Try.prog E cx n59_4) := GE.seq_step (by kernel_rfl)
theorem n59_0s : codeB Try.prog E cx n59_0 st = thenS (codeB Try.prog E cx n59_1 st) (codeB Try.prog E cx n59_2) := GE.seq_step (by kernel_rfl)
noncomputable def n60_0 : Code := bodyOf Try.f60
noncomputable def n60_1 : Code := cl n60_0
noncomputable def q60_1 : List Oper := opsOf n60_1
noncomputable def n60_2 : Code := cr n60_0
noncomputable def n60_3 : Code := cl n60_2
noncomputable def q60_3 : List Oper := opsOf n60_3
noncomputable def n60_4 : Code := cr n60_2
noncomputable def n60_5 : Code := cl n60_4
noncomputable def n60_6 : Code := cl n60_5
noncomputable def q60_6 : List Oper := opsOf n60_6
noncomputable def n60_7 : Code := cr n60_5
noncomputable def n60_8 : Code := cl n60_7
noncomputable def n60_9 : Code := cl n60_8
noncomputable def q60_9 : List Oper := opsOf n60_9
noncomputable def n60_10 : Code := cr n60_8
noncomputable def q60_10 : List Oper := opsOf n60_10
noncomputable def n60_11 : Code := cr n60_7
noncomputable def n60_12 : Code := cr n60_4
noncomputable def n60_13 : Code := cl n60_12
noncomputable def q60_13 : List Oper := opsOf n60_13
noncomputable def n60_14 : Code := cr n60_12
theorem body60 : Try.f60.body = some n60_0 := by kernel_rfl
theorem run60 (E : Ev) (args : List Value) (h : List Blk) (hl : args.length ≤ 31) : runB Try.prog E 60 args h = endS Try.prog [.tmp 4] h.length (codeB Try.prog E ⟨60, 31, h.length, none⟩ n60_0 ⟨enumT 0 args, h, []⟩) := GE.run_step Try.func60 body60 (by kernel_rfl) (by decide) (by kernel_rfl) hl
theorem n60_1s : codeB Try.prog E ⟨f, 31, b, ro⟩ n60_1 st = plainS (runOps Try.prog E b q60_1 (ops [false] Try.f60) st) := GE.region_step (id := 0) (GE.reg_of (by kernel_rfl)) (by kernel_rfl)
theorem n60_3s : codeB Try.prog E ⟨f, 31, b, ro⟩ n60_3 st = plainS (runOps Try.prog E b q60_3 (ops [true, false] Try.f60) st) := GE.region_step (id := 1) (GE.reg_of (by kernel_rfl)) (by kernel_rfl)
theorem n60_6s : codeB Try.prog E ⟨f, 31, b, ro⟩ n60_6 st = plainS (runOps Try.prog E b q60_6 (ops [true, true, false, false] Try.f60) st) := GE.region_step (id := 2) (GE.reg_of (by kernel_rfl)) (by kernel_rfl)
theorem n60_9s : codeB Try.prog E ⟨f, 31, b, ro⟩ n60_9 st = plainS (runOps Try.prog E b q60_9 (ops [true, true, false, true, false, false] Try.f60) st) := GE.region_step (id := 3) (GE.reg_of (by kernel_rfl)) (by kernel_rfl)
theorem n60_10s : codeB Try.prog E ⟨f, 31, b, ro⟩ n60_10 st = plainS (runOps Try.prog E b q60_10 (ops [true, true, false, true, false, true] Try.f60) st) := GE.region_step (id := 4) (GE.reg_of (by kernel_rfl)) (by kernel_rfl)
theorem n60_8s : codeB Try.prog E cx n60_8 st = thenS (codeB Try.prog E cx n60_9 st) (codeB Try.prog E cx n60_10) := GE.seq_step (by kernel_rfl)
theorem n60_11s : codeB Try.prog E cx n60_11 st = some (.normal, st) := GE.skip_step (by kernel_rfl)
theorem n60_7s : codeB Try.prog E cx n60_7 st = condS (codeB Try.prog E cx n60_8) (codeB Try.prog E cx n60_11) (lk st.σ 17) st := GE.cond_step (c := .tmp 17) (by kernel_rfl)
theorem n60_5s : codeB Try.prog E cx n60_5 st = thenS (codeB Try.prog E cx n60_6 st) (codeB Try.prog E cx n60_7) := GE.seq_step (by kernel_rfl)
theorem n60_13s : codeB Try.prog E ⟨f, 31, b, ro⟩ n60_13 st = plainS (runOps Try.prog E b q60_13 (ops [true, true, true, false] Try.f60) st) := GE.region_step (id := 5) (GE.reg_of (by kernel_rfl)) (by kernel_rfl)
theorem n60_14s : codeB Try.prog LL ⟨60, 31, b, ro⟩ n60_14 st = normS b ⟨[4], []⟩ .ret st := GE.ret_step (by kernel_rfl) (by kernel_rfl)
theorem n60_12s : codeB Try.prog E cx n60_12 st = thenS (codeB Try.prog E cx n60_13 st) (codeB Try.prog E cx n60_14) := GE.seq_step (by kernel_rfl)
theorem n60_4s : codeB Try.prog E cx n60_4 st = thenS (codeB Try.prog E cx n60_5 st) (codeB Try.prog E cx n60_12) := GE.seq_step (by kernel_rfl)
theorem n60_2s : codeB Try.prog E cx n60_2 st = thenS (codeB Try.prog E cx n60_3 st) (codeB Try.prog E cx n60_4) := GE.seq_step (by kernel_rfl)
theorem n60_0s : codeB Try.prog E cx n60_0 st = thenS (codeB Try.prog E cx n60_1 st) (codeB Try.prog E cx n60_2) := GE.seq_step (by kernel_rfl)
noncomputable def n61_0 : Code := bodyOf Try.f61
noncomputable def n61_1 : Code := cl n61_0
noncomputable def q61_1 : List Oper := opsOf n61_1
noncomputable def n61_2 : Code := cr n61_0
noncomputable def n61_3 : Code := cl n61_2
noncomputable def q61_3 : List Oper := opsOf n61_3
noncomputable def n61_4 : Code := cr n61_2
noncomputable def n61_5 : Code := cl n61_4
noncomputable def n61_6 : Code := cl n61_5
noncomputable def q61_6 : List Oper := opsOf n61_6
noncomputable def n61_7 : Code := cr n61_5
noncomputable def n61_8 : Code := cl n61_7
noncomputable def q61_8 : List Oper := opsOf n61_8
noncomputable def n61_9 : Code := cr n61_7
noncomputable def n61_10 : Code := cr n61_4
noncomputable def n61_11 : Code := cl n61_10
noncomputable def q61_11 : List Oper := opsOf n61_11
noncomputable def n61_12 : Code := cr n61_10
theorem body61 : Try.f61.body = some n61_0 := by kernel_rfl
theorem run61 (E : Ev) (args : List Value) (h : List Blk) (hl : args.length ≤ 14) : runB Try.prog E 61 args h = endS Try.prog [.tmp 2] h.length (codeB Try.prog E ⟨61, 14, h.length, none⟩ n61_0 ⟨enumT 0 args, h, []⟩) := GE.run_step Try.func61 body61 (by kernel_rfl) (by decide) (by kernel_rfl) hl
theorem n61_1s : codeB Try.prog E ⟨f, 14, b, ro⟩ n61_1 st = plainS (runOps Try.prog E b q61_1 (ops [false] Try.f61) st) := GE.region_step (id := 0) (GE.reg_of (by kernel_rfl)) (by kernel_rfl)
theorem n61_3s : codeB Try.prog E ⟨f, 14, b, ro⟩ n61_3 st = plainS (runOps Try.prog E b q61_3 (ops [true, false] Try.f61) st) := GE.region_step (id := 1) (GE.reg_of (by kernel_rfl)) (by kernel_rfl)
theorem q61_6g2 : gd q61_6 2 = some 8 := by kernel_rfl
theorem n61_6s : codeB Try.prog E ⟨f, 14, b, ro⟩ n61_6 st = plainS (runOps Try.prog E b q61_6 (ops [true, true, false, false] Try.f61) st) := GE.region_step (id := 2) (GE.reg_of (by kernel_rfl)) (by kernel_rfl)
theorem n61_8s : codeB Try.prog E ⟨f, 14, b, ro⟩ n61_8 st = plainS (runOps Try.prog E b q61_8 (ops [true, true, false, true, false] Try.f61) st) := GE.region_step (id := 3) (GE.reg_of (by kernel_rfl)) (by kernel_rfl)
theorem n61_9s : codeB Try.prog E cx n61_9 st = some (.normal, st) := GE.skip_step (by kernel_rfl)
theorem n61_7s : codeB Try.prog E cx n61_7 st = condS (codeB Try.prog E cx n61_8) (codeB Try.prog E cx n61_9) (lk st.σ 12) st := GE.cond_step (c := .tmp 12) (by kernel_rfl)
theorem n61_5s : codeB Try.prog E cx n61_5 st = thenS (codeB Try.prog E cx n61_6 st) (codeB Try.prog E cx n61_7) := GE.seq_step (by kernel_rfl)
theorem n61_11s : codeB Try.prog E ⟨f, 14, b, ro⟩ n61_11 st = plainS (runOps Try.prog E b q61_11 (ops [true, true, true, false] Try.f61) st) := GE.region_step (id := 4) (GE.reg_of (by kernel_rfl)) (by kernel_rfl)
theorem n61_12s : codeB Try.prog LL ⟨61, 14, b, ro⟩ n61_12 st = normS b ⟨[2], []⟩ .ret st := GE.ret_step (by kernel_rfl) (by kernel_rfl)
theorem n61_10s : codeB Try.prog E cx n61_10 st = thenS (codeB Try.prog E cx n61_11 st) (codeB Try.prog E cx n61_12) := GE.seq_step (by kernel_rfl)
theorem n61_4s : codeB Try.prog E cx n61_4 st = thenS (codeB Try.prog E cx n61_5 st) (codeB Try.prog E cx n61_10) := GE.seq_step (by kernel_rfl)
theorem n61_2s : codeB Try.prog E cx n61_2 st = thenS (codeB Try.prog E cx n61_3 st) (codeB Try.prog E cx n61_4) := GE.seq_step (by kernel_rfl)
theorem n61_0s : codeB Try.prog E cx n61_0 st = thenS (codeB Try.prog E cx n61_1 st) (codeB Try.prog E cx n61_2) := GE.seq_step (by kernel_rfl)
noncomputable def n62_0 : Code := bodyOf Try.f62
noncomputable def n62_1 : Code := cl n62_0
noncomputable def q62_1 : List Oper := opsOf n62_1
noncomputable def n62_2 : Code := cr n62_0
noncomputable def n62_3 : Code := cl n62_2
noncomputable def q62_3 : List Oper := opsOf n62_3
noncomputable def n62_4 : Code := cr n62_2
noncomputable def n62_5 : Code := cl n62_4
noncomputable def q62_5 : List Oper := opsOf n62_5
noncomputable def n62_6 : Code := cr n62_4
noncomputable def n62_7 : Code := cl n62_6
noncomputable def n62_8 : Code := cl n62_7
noncomputable def q62_8 : List Oper := opsOf n62_8
noncomputable def n62_9 : Code := cr n62_7
noncomputable def n62_10 : Code := cl n62_9
noncomputable def n62_11 : Code := cl n62_10
noncomputable def n62_12 : Code := cl n62_11
noncomputable def n62_13 : Code := cl n62_12
noncomputable def q62_13 : List Oper := opsOf n62_13
noncomputable def n62_14 : Code := cr n62_12
noncomputable def n62_15 : Code := cl n62_14
noncomputable def n62_16 : Code := cr n62_14
noncomputable def n62_17 : Code := cr n62_11
noncomputable def n62_18 : Code := cl n62_17
noncomputable def n62_19 : Code := cl n62_18
noncomputable def n62_20 : Code := cl n62_19
noncomputable def q62_20 : List Oper := opsOf n62_20
noncomputable def n62_21 : Code := cr n62_19
noncomputable def n62_22 : Code := cl n62_21
noncomputable def n62_23 : Code := cl n62_22
noncomputable def n62_24 : Code := cl n62_23
noncomputable def n62_25 : Code := cl n62_24
noncomputable def q62_25 : List Oper := opsOf n62_25
noncomputable def n62_26 : Code := cr n62_24
noncomputable def n62_27 : Code := cl n62_26
noncomputable def n62_28 : Code := cr n62_26
noncomputable def n62_29 : Code := cr n62_23
noncomputable def n62_30 : Code := cl n62_29
noncomputable def n62_31 : Code := cl n62_30
noncomputable def n62_32 : Code := cl n62_31
noncomputable def q62_32 : List Oper := opsOf n62_32
noncomputable def n62_33 : Code := cr n62_31
noncomputable def n62_34 : Code := cl n62_33
noncomputable def q62_34 : List Oper := opsOf n62_34
noncomputable def n62_35 : Code := cr n62_33
noncomputable def n62_36 : Code := cr n62_29
noncomputable def q62_36 : List Oper := opsOf n62_36
noncomputable def n62_37 : Code := cr n62_17
noncomputable def q62_37 : List Oper := opsOf n62_37
noncomputable def n62_38 : Code := cr n62_6
noncomputable def n62_39 : Code := cl n62_38
noncomputable def q62_39 : List Oper := opsOf n62_39
noncomputable def n62_40 : Code := cr n62_38
theorem body62 : Try.f62.body = some n62_0 := by kernel_rfl
theorem run62 (E : Ev) (args : List Value) (h : List Blk) (hl : args.length ≤ 52) : runB Try.prog E 62 args h = endS Try.prog [.tmp 6] h.length (codeB Try.prog E ⟨62, 52, h.length, none⟩ n62_0 ⟨enumT 0 args, h, []⟩) := GE.run_step Try.func62 body62 (by kernel_rfl) (by decide) (by kernel_rfl) hl
theorem n62_1s : codeB Try.prog E ⟨f, 52, b, ro⟩ n62_1 st = plainS (runOps Try.prog E b q62_1 (ops [false] Try.f62) st) := GE.region_step (id := 0) (GE.reg_of (by kernel_rfl)) (by kernel_rfl)
theorem n62_3s : codeB Try.prog E ⟨f, 52, b, ro⟩ n62_3 st = plainS (runOps Try.prog E b q62_3 (ops [true, false] Try.f62) st) := GE.region_step (id := 1) (GE.reg_of (by kernel_rfl)) (by kernel_rfl)
theorem n62_5s : codeB Try.prog E ⟨f, 52, b, ro⟩ n62_5 st = plainS (runOps Try.prog E b q62_5 (ops [true, true, false] Try.f62) st) := GE.region_step (id := 2) (GE.reg_of (by kernel_rfl)) (by kernel_rfl)
theorem n62_8s : codeB Try.prog E ⟨f, 52, b, ro⟩ n62_8 st = plainS (runOps Try.prog E b q62_8 (ops [true, true, true, false, false] Try.f62) st) := GE.region_step (id := 3) (GE.reg_of (by kernel_rfl)) (by kernel_rfl)
theorem n62_13s : codeB Try.prog E ⟨f, 52, b, ro⟩ n62_13 st = plainS (runOps Try.prog E b q62_13 (ops [true, true, true, false, true, false, false, false, false] Try.f62) st) := GE.region_step (id := 4) (GE.reg_of (by kernel_rfl)) (by kernel_rfl)
theorem n62_15s : codeB Try.prog E cx n62_15 st = some (.normal, st) := GE.skip_step (by kernel_rfl)
theorem n62_16s : codeB Try.prog LL ⟨62, 52, b, ro⟩ n62_16 st = normS b ⟨[7], [⟨7, 0, 1, true⟩]⟩ (.exit 0) st := GE.exit_step (by kernel_rfl) (by kernel_rfl)
theorem n62_14s : codeB Try.prog E cx n62_14 st = condS (codeB Try.prog E cx n62_15) (codeB Try.prog E cx n62_16) (lk st.σ 23) st := GE.cond_step (c := .tmp 23) (by kernel_rfl)
theorem n62_12s : codeB Try.prog E cx n62_12 st = thenS (codeB Try.prog E cx n62_13 st) (codeB Try.prog E cx n62_14) := GE.seq_step (by kernel_rfl)
theorem n62_20s : codeB Try.prog E ⟨f, 52, b, ro⟩ n62_20 st = plainS (runOps Try.prog E b q62_20 (ops [true, true, true, false, true, false, false, true, false, false, false] Try.f62) st) := GE.region_step (id := 6) (GE.reg_of (by kernel_rfl)) (by kernel_rfl)
theorem n62_25s : codeB Try.prog E ⟨f, 52, b, ro⟩ n62_25 st = plainS (runOps Try.prog E b q62_25 (ops [true, true, true, false, true, false, false, true, false, false, true, false, false, false, false] Try.f62) st) := GE.region_step (id := 7) (GE.reg_of (by kernel_rfl)) (by kernel_rfl)
theorem n62_27s : codeB Try.prog E cx n62_27 st = some (.normal, st) := GE.skip_step (by kernel_rfl)
theorem n62_28s : codeB Try.prog LL ⟨62, 52, b, ro⟩ n62_28 st = normS b ⟨[0, 1, 2, 7, 8], [⟨0, 0, 2, true⟩, ⟨7, 0, 1, true⟩]⟩ (.exit 2) st := GE.exit_step (by kernel_rfl) (by kernel_rfl)
theorem n62_26s : codeB Try.prog E cx n62_26 st = condS (codeB Try.prog E cx n62_27) (codeB Try.prog E cx n62_28) (lk st.σ 29) st := GE.cond_step (c := .tmp 29) (by kernel_rfl)
theorem n62_24s : codeB Try.prog E cx n62_24 st = thenS (codeB Try.prog E cx n62_25 st) (codeB Try.prog E cx n62_26) := GE.seq_step (by kernel_rfl)
theorem n62_32s : codeB Try.prog E ⟨f, 52, b, ro⟩ n62_32 st = plainS (runOps Try.prog E b q62_32 (ops [true, true, true, false, true, false, false, true, false, false, true, false, false, true, false, false, false] Try.f62) st) := GE.region_step (id := 9) (GE.reg_of (by kernel_rfl)) (by kernel_rfl)
theorem n62_34s : codeB Try.prog E ⟨f, 52, b, ro⟩ n62_34 st = drawS [0, 0, 3, 7, 0, 0, 0, 64, 224, 496, 1008, 2047, 4095, 8191] (runOpsF Try.prog E b q62_34 (ops [true, true, true, false, true, false, false, true, false, false, true, false, false, true, false, false, true, false] Try.f62) st) := GE.draw_step (id := 10) (GE.reg_of (by kernel_rfl)) (by kernel_rfl) (by kernel_rfl) (by kernel_rfl)
theorem n62_35s : codeB Try.prog E cx n62_35 st = some (.normal, st) := GE.skip_step (by kernel_rfl)
theorem n62_33s : codeB Try.prog E cx n62_33 st = condS (codeB Try.prog E cx n62_34) (codeB Try.prog E cx n62_35) (lk st.σ 37) st := GE.cond_step (c := .tmp 37) (by kernel_rfl)
theorem n62_31s : codeB Try.prog E cx n62_31 st = thenS (codeB Try.prog E cx n62_32 st) (codeB Try.prog E cx n62_33) := GE.seq_step (by kernel_rfl)
theorem n62_30s : codeB Try.prog E cx n62_30 st = blockS 3 (codeB Try.prog E cx n62_31 st) st := GE.block_step (by kernel_rfl)
theorem n62_36s : codeB Try.prog E ⟨f, 52, b, ro⟩ n62_36 st = plainS (runOps Try.prog E b q62_36 (ops [true, true, true, false, true, false, false, true, false, false, true, false, false, true, true] Try.f62) st) := GE.region_step (id := 8) (GE.reg_of (by kernel_rfl)) (by kernel_rfl)
theorem n62_29s : codeB Try.prog E cx n62_29 st = thenS (codeB Try.prog E cx n62_30 st) (codeB Try.prog E cx n62_36) := GE.seq_step (by kernel_rfl)
theorem n62_23s : codeB Try.prog E cx n62_23 st = thenS (codeB Try.prog E cx n62_24 st) (codeB Try.prog E cx n62_29) := GE.seq_step (by kernel_rfl)
theorem n62_22k : LL.kp (⟨62, 52, b, ro⟩ : Cx).fn (4 * rid n62_23 + 3) = some ⟨[9, 0, 1, 2, 7, 8], [⟨0, 0, 2, true⟩, ⟨7, 0, 1, true⟩]⟩ := by kernel_rfl
theorem n62_22s : codeB Try.prog LL ⟨62, 52, b, ro⟩ n62_22 st = headS b ⟨[9, 0, 1, 2, 7, 8], [⟨0, 0, 2, true⟩, ⟨7, 0, 1, true⟩]⟩ st (lpB Try.prog LL ⟨62, 52, b, ro⟩ n62_22 n62_23) := GE.lpB_step (by kernel_rfl) (n62_22k b ro)
theorem n62_22g : LL.code ⟨62, 52, b, ro⟩ n62_22 st = headS b ⟨[9, 0, 1, 2, 7, 8], [⟨0, 0, 2, true⟩, ⟨7, 0, 1, true⟩]⟩ st (lpB Try.prog LL ⟨62, 52, b, ro⟩ n62_22 n62_23) := GE.lpB_again (by kernel_rfl) (n62_22k b ro)
theorem n62_21s : codeB Try.prog E cx n62_21 st = blockS 2 (codeB Try.prog E cx n62_22 st) st := GE.block_step (by kernel_rfl)
theorem n62_19s : codeB Try.prog E cx n62_19 st = thenS (codeB Try.prog E cx n62_20 st) (codeB Try.prog E cx n62_21) := GE.seq_step (by kernel_rfl)
theorem n62_18s : codeB Try.prog E cx n62_18 st = blockS 1 (codeB Try.prog E cx n62_19 st) st := GE.block_step (by kernel_rfl)
theorem n62_37s : codeB Try.prog E ⟨f, 52, b, ro⟩ n62_37 st = plainS (runOps Try.prog E b q62_37 (ops [true, true, true, false, true, false, false, true, true] Try.f62) st) := GE.region_step (id := 5) (GE.reg_of (by kernel_rfl)) (by kernel_rfl)
theorem n62_17s : codeB Try.prog E cx n62_17 st = thenS (codeB Try.prog E cx n62_18 st) (codeB Try.prog E cx n62_37) := GE.seq_step (by kernel_rfl)
theorem n62_11s : codeB Try.prog E cx n62_11 st = thenS (codeB Try.prog E cx n62_12 st) (codeB Try.prog E cx n62_17) := GE.seq_step (by kernel_rfl)
theorem n62_10k : LL.kp (⟨62, 52, b, ro⟩ : Cx).fn (4 * rid n62_11 + 3) = some ⟨[0, 1, 2, 7, 8], [⟨0, 0, 2, true⟩, ⟨7, 0, 1, true⟩]⟩ := by kernel_rfl
theorem n62_10s : codeB Try.prog LL ⟨62, 52, b, ro⟩ n62_10 st = headS b ⟨[0, 1, 2, 7, 8], [⟨0, 0, 2, true⟩, ⟨7, 0, 1, true⟩]⟩ st (lpB Try.prog LL ⟨62, 52, b, ro⟩ n62_10 n62_11) := GE.lpB_step (by kernel_rfl) (n62_10k b ro)
theorem n62_10g : LL.code ⟨62, 52, b, ro⟩ n62_10 st = headS b ⟨[0, 1, 2, 7, 8], [⟨0, 0, 2, true⟩, ⟨7, 0, 1, true⟩]⟩ st (lpB Try.prog LL ⟨62, 52, b, ro⟩ n62_10 n62_11) := GE.lpB_again (by kernel_rfl) (n62_10k b ro)
theorem n62_9s : codeB Try.prog E cx n62_9 st = blockS 0 (codeB Try.prog E cx n62_10 st) st := GE.block_step (by kernel_rfl)
theorem n62_7s : codeB Try.prog E cx n62_7 st = thenS (codeB Try.prog E cx n62_8 st) (codeB Try.prog E cx n62_9) := GE.seq_step (by kernel_rfl)
theorem n62_39s : codeB Try.prog E ⟨f, 52, b, ro⟩ n62_39 st = plainS (runOps Try.prog E b q62_39 (ops [true, true, true, true, false] Try.f62) st) := GE.region_step (id := 11) (GE.reg_of (by kernel_rfl)) (by kernel_rfl)
theorem n62_40s : codeB Try.prog LL ⟨62, 52, b, ro⟩ n62_40 st = normS b ⟨[6], [⟨6, 0, 1, true⟩]⟩ .ret st := GE.ret_step (by kernel_rfl) (by kernel_rfl)
theorem n62_38s : codeB Try.prog E cx n62_38 st = thenS (codeB Try.prog E cx n62_39 st) (codeB Try.prog E cx n62_40) := GE.seq_step (by kernel_rfl)
theorem n62_6s : codeB Try.prog E cx n62_6 st = thenS (codeB Try.prog E cx n62_7 st) (codeB Try.prog E cx n62_38) := GE.seq_step (by kernel_rfl)
theorem n62_4s : codeB Try.prog E cx n62_4 st = thenS (codeB Try.prog E cx n62_5 st) (codeB Try.prog E cx n62_6) := GE.seq_step (by kernel_rfl)
theorem n62_2s : codeB Try.prog E cx n62_2 st = thenS (codeB Try.prog E cx n62_3 st) (codeB Try.prog E cx n62_4) := GE.seq_step (by kernel_rfl)
theorem n62_0s : codeB Try.prog E cx n62_0 st = thenS (codeB Try.prog E cx n62_1 st) (codeB Try.prog E cx n62_2) := GE.seq_step (by kernel_rfl)
noncomputable def n63_0 : Code := bodyOf Try.f63
noncomputable def n63_1 : Code := cl n63_0
noncomputable def q63_1 : List Oper := opsOf n63_1
noncomputable def n63_2 : Code := cr n63_0
noncomputable def n63_3 : Code := cl n63_2
noncomputable def n63_4 : Code := cl n63_3
noncomputable def q63_4 : List Oper := opsOf n63_4
noncomputable def n63_5 : Code := cr n63_3
noncomputable def n63_6 : Code := cl n63_5
noncomputable def n63_7 : Code := cl n63_6
noncomputable def q63_7 : List Oper := opsOf n63_7
noncomputable def n63_8 : Code := cr n63_6
noncomputable def n63_9 : Code := cr n63_5
noncomputable def n63_10 : Code := cr n63_2
noncomputable def n63_11 : Code := cl n63_10
noncomputable def n63_12 : Code := cl n63_11
noncomputable def q63_12 : List Oper := opsOf n63_12
noncomputable def n63_13 : Code := cr n63_11
noncomputable def n63_14 : Code := cl n63_13
noncomputable def n63_15 : Code := cl n63_14
noncomputable def n63_16 : Code := cl n63_15
noncomputable def n63_17 : Code := cl n63_16
noncomputable def q63_17 : List Oper := opsOf n63_17
noncomputable def n63_18 : Code := cr n63_16
noncomputable def n63_19 : Code := cl n63_18
noncomputable def n63_20 : Code := cr n63_18
noncomputable def n63_21 : Code := cr n63_15
noncomputable def n63_22 : Code := cl n63_21
noncomputable def n63_23 : Code := cl n63_22
noncomputable def n63_24 : Code := cl n63_23
noncomputable def q63_24 : List Oper := opsOf n63_24
noncomputable def n63_25 : Code := cr n63_23
noncomputable def n63_26 : Code := cl n63_25
noncomputable def n63_27 : Code := cl n63_26
noncomputable def q63_27 : List Oper := opsOf n63_27
noncomputable def n63_28 : Code := cr n63_26
noncomputable def n63_29 : Code := cr n63_25
noncomputable def n63_30 : Code := cr n63_21
noncomputable def q63_30 : List Oper := opsOf n63_30
noncomputable def n63_31 : Code := cr n63_10
noncomputable def n63_32 : Code := cl n63_31
noncomputable def q63_32 : List Oper := opsOf n63_32
noncomputable def n63_33 : Code := cr n63_31
theorem body63 : Try.f63.body = some n63_0 := by kernel_rfl
theorem run63 (E : Ev) (args : List Value) (h : List Blk) (hl : args.length ≤ 50) : runB Try.prog E 63 args h = endS Try.prog [.tmp 10] h.length (codeB Try.prog E ⟨63, 50, h.length, none⟩ n63_0 ⟨enumT 0 args, h, []⟩) := GE.run_step Try.func63 body63 (by kernel_rfl) (by decide) (by kernel_rfl) hl
theorem n63_1s : codeB Try.prog E ⟨f, 50, b, ro⟩ n63_1 st = plainS (runOps Try.prog E b q63_1 (ops [false] Try.f63) st) := GE.region_step (id := 0) (GE.reg_of (by kernel_rfl)) (by kernel_rfl)
theorem q63_4g5 : gd q63_4 5 = some 17 := by kernel_rfl
theorem q63_4g9 : gd q63_4 9 = some 21 := by kernel_rfl
theorem q63_4g13 : gd q63_4 13 = some 25 := by kernel_rfl
theorem n63_4s : codeB Try.prog E ⟨f, 50, b, ro⟩ n63_4 st = plainS (runOps Try.prog E b q63_4 (ops [true, false, false] Try.f63) st) := GE.region_step (id := 1) (GE.reg_of (by kernel_rfl)) (by kernel_rfl)
theorem n63_7s : codeB Try.prog E ⟨f, 50, b, ro⟩ n63_7 st = plainS (runOps Try.prog E b q63_7 (ops [true, false, true, false, false] Try.f63) st) := GE.region_step (id := 2) (GE.reg_of (by kernel_rfl)) (by kernel_rfl)
theorem n63_8s : codeB Try.prog LL ⟨63, 50, b, ro⟩ n63_8 st = normS b ⟨[10], []⟩ .ret st := GE.ret_step (by kernel_rfl) (by kernel_rfl)
theorem n63_6s : codeB Try.prog E cx n63_6 st = thenS (codeB Try.prog E cx n63_7 st) (codeB Try.prog E cx n63_8) := GE.seq_step (by kernel_rfl)
theorem n63_9s : codeB Try.prog E cx n63_9 st = some (.normal, st) := GE.skip_step (by kernel_rfl)
theorem n63_5s : codeB Try.prog E cx n63_5 st = condS (codeB Try.prog E cx n63_6) (codeB Try.prog E cx n63_9) (lk st.σ 32) st := GE.cond_step (c := .tmp 32) (by kernel_rfl)
theorem n63_3s : codeB Try.prog E cx n63_3 st = thenS (codeB Try.prog E cx n63_4 st) (codeB Try.prog E cx n63_5) := GE.seq_step (by kernel_rfl)
theorem n63_12s : codeB Try.prog E ⟨f, 50, b, ro⟩ n63_12 st = plainS (runOps Try.prog E b q63_12 (ops [true, true, false, false] Try.f63) st) := GE.region_step (id := 3) (GE.reg_of (by kernel_rfl)) (by kernel_rfl)
theorem n63_17s : codeB Try.prog E ⟨f, 50, b, ro⟩ n63_17 st = plainS (runOps Try.prog E b q63_17 (ops [true, true, false, true, false, false, false, false] Try.f63) st) := GE.region_step (id := 4) (GE.reg_of (by kernel_rfl)) (by kernel_rfl)
theorem n63_19s : codeB Try.prog E cx n63_19 st = some (.normal, st) := GE.skip_step (by kernel_rfl)
theorem n63_20s : codeB Try.prog LL ⟨63, 50, b, ro⟩ n63_20 st = normS b ⟨[], []⟩ (.exit 0) st := GE.exit_step (by kernel_rfl) (by kernel_rfl)
theorem n63_18s : codeB Try.prog E cx n63_18 st = condS (codeB Try.prog E cx n63_19) (codeB Try.prog E cx n63_20) (lk st.σ 36) st := GE.cond_step (c := .tmp 36) (by kernel_rfl)
theorem n63_16s : codeB Try.prog E cx n63_16 st = thenS (codeB Try.prog E cx n63_17 st) (codeB Try.prog E cx n63_18) := GE.seq_step (by kernel_rfl)
theorem q63_24g5 : gd q63_24 5 = some 44 := by kernel_rfl
theorem n63_24s : codeB Try.prog E ⟨f, 50, b, ro⟩ n63_24 st = plainS (runOps Try.prog E b q63_24 (ops [true, true, false, true, false, false, true, false, false, false] Try.f63) st) := GE.region_step (id := 6) (GE.reg_of (by kernel_rfl)) (by kernel_rfl)
theorem n63_27s : codeB Try.prog E ⟨f, 50, b, ro⟩ n63_27 st = plainS (runOps Try.prog E b q63_27 (ops [true, true, false, true, false, false, true, false, false, true, false, false] Try.f63) st) := GE.region_step (id := 7) (GE.reg_of (by kernel_rfl)) (by kernel_rfl)
theorem n63_28s : codeB Try.prog LL ⟨63, 50, b, ro⟩ n63_28 st = normS b ⟨[10], []⟩ .ret st := GE.ret_step (by kernel_rfl) (by kernel_rfl)
theorem n63_26s : codeB Try.prog E cx n63_26 st = thenS (codeB Try.prog E cx n63_27 st) (codeB Try.prog E cx n63_28) := GE.seq_step (by kernel_rfl)
theorem n63_29s : codeB Try.prog E cx n63_29 st = some (.normal, st) := GE.skip_step (by kernel_rfl)
theorem n63_25s : codeB Try.prog E cx n63_25 st = condS (codeB Try.prog E cx n63_26) (codeB Try.prog E cx n63_29) (lk st.σ 49) st := GE.cond_step (c := .tmp 49) (by kernel_rfl)
theorem n63_23s : codeB Try.prog E cx n63_23 st = thenS (codeB Try.prog E cx n63_24 st) (codeB Try.prog E cx n63_25) := GE.seq_step (by kernel_rfl)
theorem n63_22s : codeB Try.prog E cx n63_22 st = blockS 1 (codeB Try.prog E cx n63_23 st) st := GE.block_step (by kernel_rfl)
theorem n63_30s : codeB Try.prog E ⟨f, 50, b, ro⟩ n63_30 st = plainS (runOps Try.prog E b q63_30 (ops [true, true, false, true, false, false, true, true] Try.f63) st) := GE.region_step (id := 5) (GE.reg_of (by kernel_rfl)) (by kernel_rfl)
theorem n63_21s : codeB Try.prog E cx n63_21 st = thenS (codeB Try.prog E cx n63_22 st) (codeB Try.prog E cx n63_30) := GE.seq_step (by kernel_rfl)
theorem n63_15s : codeB Try.prog E cx n63_15 st = thenS (codeB Try.prog E cx n63_16 st) (codeB Try.prog E cx n63_21) := GE.seq_step (by kernel_rfl)
theorem n63_14k : LL.kp (⟨63, 50, b, ro⟩ : Cx).fn (4 * rid n63_15 + 3) = some ⟨[0, 1, 2, 11], [⟨0, 0, 2, true⟩]⟩ := by kernel_rfl
theorem n63_14s : codeB Try.prog LL ⟨63, 50, b, ro⟩ n63_14 st = headS b ⟨[0, 1, 2, 11], [⟨0, 0, 2, true⟩]⟩ st (lpB Try.prog LL ⟨63, 50, b, ro⟩ n63_14 n63_15) := GE.lpB_step (by kernel_rfl) (n63_14k b ro)
theorem n63_14g : LL.code ⟨63, 50, b, ro⟩ n63_14 st = headS b ⟨[0, 1, 2, 11], [⟨0, 0, 2, true⟩]⟩ st (lpB Try.prog LL ⟨63, 50, b, ro⟩ n63_14 n63_15) := GE.lpB_again (by kernel_rfl) (n63_14k b ro)
theorem n63_13s : codeB Try.prog E cx n63_13 st = blockS 0 (codeB Try.prog E cx n63_14 st) st := GE.block_step (by kernel_rfl)
theorem n63_11s : codeB Try.prog E cx n63_11 st = thenS (codeB Try.prog E cx n63_12 st) (codeB Try.prog E cx n63_13) := GE.seq_step (by kernel_rfl)
theorem n63_32s : codeB Try.prog E ⟨f, 50, b, ro⟩ n63_32 st = plainS (runOps Try.prog E b q63_32 (ops [true, true, true, false] Try.f63) st) := GE.region_step (id := 8) (GE.reg_of (by kernel_rfl)) (by kernel_rfl)
theorem n63_33s : codeB Try.prog LL ⟨63, 50, b, ro⟩ n63_33 st = normS b ⟨[10], []⟩ .ret st := GE.ret_step (by kernel_rfl) (by kernel_rfl)
theorem n63_31s : codeB Try.prog E cx n63_31 st = thenS (codeB Try.prog E cx n63_32 st) (codeB Try.prog E cx n63_33) := GE.seq_step (by kernel_rfl)
theorem n63_10s : codeB Try.prog E cx n63_10 st = thenS (codeB Try.prog E cx n63_11 st) (codeB Try.prog E cx n63_31) := GE.seq_step (by kernel_rfl)
theorem n63_2s : codeB Try.prog E cx n63_2 st = thenS (codeB Try.prog E cx n63_3 st) (codeB Try.prog E cx n63_10) := GE.seq_step (by kernel_rfl)
theorem n63_0s : codeB Try.prog E cx n63_0 st = thenS (codeB Try.prog E cx n63_1 st) (codeB Try.prog E cx n63_2) := GE.seq_step (by kernel_rfl)
noncomputable def n64_0 : Code := bodyOf Try.f64
noncomputable def n64_1 : Code := cl n64_0
noncomputable def q64_1 : List Oper := opsOf n64_1
noncomputable def n64_2 : Code := cr n64_0
noncomputable def n64_3 : Code := cl n64_2
noncomputable def q64_3 : List Oper := opsOf n64_3
noncomputable def n64_4 : Code := cr n64_2
noncomputable def n64_5 : Code := cl n64_4
noncomputable def n64_6 : Code := cl n64_5
noncomputable def q64_6 : List Oper := opsOf n64_6
noncomputable def n64_7 : Code := cr n64_5
noncomputable def n64_8 : Code := cl n64_7
noncomputable def n64_9 : Code := cl n64_8
noncomputable def n64_10 : Code := cl n64_9
noncomputable def q64_10 : List Oper := opsOf n64_10
noncomputable def n64_11 : Code := cr n64_9
noncomputable def n64_12 : Code := cl n64_11
noncomputable def n64_13 : Code := cl n64_12
noncomputable def n64_14 : Code := cr n64_12
noncomputable def n64_15 : Code := cr n64_11
noncomputable def n64_16 : Code := cl n64_15
noncomputable def n64_17 : Code := cl n64_16
noncomputable def n64_18 : Code := cl n64_17
noncomputable def q64_18 : List Oper := opsOf n64_18
noncomputable def n64_19 : Code := cr n64_17
noncomputable def n64_20 : Code := cl n64_19
noncomputable def q64_20 : List Oper := opsOf n64_20
noncomputable def n64_21 : Code := cr n64_19
noncomputable def n64_22 : Code := cl n64_21
noncomputable def q64_22 : List Oper := opsOf n64_22
noncomputable def n64_23 : Code := cr n64_21
noncomputable def n64_24 : Code := cr n64_15
noncomputable def q64_24 : List Oper := opsOf n64_24
noncomputable def n64_25 : Code := cr n64_4
noncomputable def n64_26 : Code := cl n64_25
noncomputable def q64_26 : List Oper := opsOf n64_26
noncomputable def n64_27 : Code := cr n64_25
theorem body64 : Try.f64.body = some n64_0 := by kernel_rfl
theorem run64 (E : Ev) (args : List Value) (h : List Blk) (hl : args.length ≤ 35) : runB Try.prog E 64 args h = endS Try.prog [.tmp 4] h.length (codeB Try.prog E ⟨64, 35, h.length, none⟩ n64_0 ⟨enumT 0 args, h, []⟩) := GE.run_step Try.func64 body64 (by kernel_rfl) (by decide) (by kernel_rfl) hl
theorem n64_1s : codeB Try.prog E ⟨f, 35, b, ro⟩ n64_1 st = plainS (runOps Try.prog E b q64_1 (ops [false] Try.f64) st) := GE.region_step (id := 0) (GE.reg_of (by kernel_rfl)) (by kernel_rfl)
theorem n64_3s : codeB Try.prog E ⟨f, 35, b, ro⟩ n64_3 st = plainS (runOps Try.prog E b q64_3 (ops [true, false] Try.f64) st) := GE.region_step (id := 1) (GE.reg_of (by kernel_rfl)) (by kernel_rfl)
theorem n64_6s : codeB Try.prog E ⟨f, 35, b, ro⟩ n64_6 st = plainS (runOps Try.prog E b q64_6 (ops [true, true, false, false] Try.f64) st) := GE.region_step (id := 2) (GE.reg_of (by kernel_rfl)) (by kernel_rfl)
theorem n64_10s : codeB Try.prog E ⟨f, 35, b, ro⟩ n64_10 st = plainS (runOps Try.prog E b q64_10 (ops [true, true, false, true, false, false, false] Try.f64) st) := GE.region_step (id := 3) (GE.reg_of (by kernel_rfl)) (by kernel_rfl)
theorem n64_13s : codeB Try.prog E cx n64_13 st = some (.normal, st) := GE.skip_step (by kernel_rfl)
theorem n64_14s : codeB Try.prog LL ⟨64, 35, b, ro⟩ n64_14 st = normS b ⟨[5], [⟨5, 0, 1, true⟩]⟩ (.exit 0) st := GE.exit_step (by kernel_rfl) (by kernel_rfl)
theorem n64_12s : codeB Try.prog E cx n64_12 st = condS (codeB Try.prog E cx n64_13) (codeB Try.prog E cx n64_14) (lk st.σ 14) st := GE.cond_step (c := .tmp 14) (by kernel_rfl)
theorem n64_18s : codeB Try.prog E ⟨f, 35, b, ro⟩ n64_18 st = plainS (runOps Try.prog E b q64_18 (ops [true, true, false, true, false, false, true, true, false, false, false] Try.f64) st) := GE.region_step (id := 4) (GE.reg_of (by kernel_rfl)) (by kernel_rfl)
theorem q64_20g4 : gd q64_20 4 = some 20 := by kernel_rfl
theorem n64_20s : codeB Try.prog E ⟨f, 35, b, ro⟩ n64_20 st = plainS (runOps Try.prog E b q64_20 (ops [true, true, false, true, false, false, true, true, false, false, true, false] Try.f64) st) := GE.region_step (id := 5) (GE.reg_of (by kernel_rfl)) (by kernel_rfl)
theorem n64_22s : codeB Try.prog E ⟨f, 35, b, ro⟩ n64_22 st = plainS (runOps Try.prog E b q64_22 (ops [true, true, false, true, false, false, true, true, false, false, true, true, false] Try.f64) st) := GE.region_step (id := 6) (GE.reg_of (by kernel_rfl)) (by kernel_rfl)
theorem n64_23s : codeB Try.prog E cx n64_23 st = some (.normal, st) := GE.skip_step (by kernel_rfl)
theorem n64_21s : codeB Try.prog E cx n64_21 st = condS (codeB Try.prog E cx n64_22) (codeB Try.prog E cx n64_23) (lk st.σ 28) st := GE.cond_step (c := .tmp 28) (by kernel_rfl)
theorem n64_19s : codeB Try.prog E cx n64_19 st = thenS (codeB Try.prog E cx n64_20 st) (codeB Try.prog E cx n64_21) := GE.seq_step (by kernel_rfl)
theorem n64_17s : codeB Try.prog E cx n64_17 st = thenS (codeB Try.prog E cx n64_18 st) (codeB Try.prog E cx n64_19) := GE.seq_step (by kernel_rfl)
theorem n64_16s : codeB Try.prog E cx n64_16 st = blockS 1 (codeB Try.prog E cx n64_17 st) st := GE.block_step (by kernel_rfl)
theorem n64_24s : codeB Try.prog E ⟨f, 35, b, ro⟩ n64_24 st = plainS (runOps Try.prog E b q64_24 (ops [true, true, false, true, false, false, true, true, true] Try.f64) st) := GE.region_step (id := 7) (GE.reg_of (by kernel_rfl)) (by kernel_rfl)
theorem n64_15s : codeB Try.prog E cx n64_15 st = thenS (codeB Try.prog E cx n64_16 st) (codeB Try.prog E cx n64_24) := GE.seq_step (by kernel_rfl)
theorem n64_11s : codeB Try.prog E cx n64_11 st = thenS (codeB Try.prog E cx n64_12 st) (codeB Try.prog E cx n64_15) := GE.seq_step (by kernel_rfl)
theorem n64_9s : codeB Try.prog E cx n64_9 st = thenS (codeB Try.prog E cx n64_10 st) (codeB Try.prog E cx n64_11) := GE.seq_step (by kernel_rfl)
theorem n64_8k : LL.kp (⟨64, 35, b, ro⟩ : Cx).fn (4 * rid n64_9 + 3) = some ⟨[0, 1, 5, 12, 13], [⟨5, 0, 1, true⟩]⟩ := by kernel_rfl
theorem n64_8s : codeB Try.prog LL ⟨64, 35, b, ro⟩ n64_8 st = headS b ⟨[0, 1, 5, 12, 13], [⟨5, 0, 1, true⟩]⟩ st (lpB Try.prog LL ⟨64, 35, b, ro⟩ n64_8 n64_9) := GE.lpB_step (by kernel_rfl) (n64_8k b ro)
theorem n64_8g : LL.code ⟨64, 35, b, ro⟩ n64_8 st = headS b ⟨[0, 1, 5, 12, 13], [⟨5, 0, 1, true⟩]⟩ st (lpB Try.prog LL ⟨64, 35, b, ro⟩ n64_8 n64_9) := GE.lpB_again (by kernel_rfl) (n64_8k b ro)
theorem n64_7s : codeB Try.prog E cx n64_7 st = blockS 0 (codeB Try.prog E cx n64_8 st) st := GE.block_step (by kernel_rfl)
theorem n64_5s : codeB Try.prog E cx n64_5 st = thenS (codeB Try.prog E cx n64_6 st) (codeB Try.prog E cx n64_7) := GE.seq_step (by kernel_rfl)
theorem n64_26s : codeB Try.prog E ⟨f, 35, b, ro⟩ n64_26 st = plainS (runOps Try.prog E b q64_26 (ops [true, true, true, false] Try.f64) st) := GE.region_step (id := 8) (GE.reg_of (by kernel_rfl)) (by kernel_rfl)
theorem n64_27s : codeB Try.prog LL ⟨64, 35, b, ro⟩ n64_27 st = normS b ⟨[4], [⟨4, 0, 1, true⟩]⟩ .ret st := GE.ret_step (by kernel_rfl) (by kernel_rfl)
theorem n64_25s : codeB Try.prog E cx n64_25 st = thenS (codeB Try.prog E cx n64_26 st) (codeB Try.prog E cx n64_27) := GE.seq_step (by kernel_rfl)
theorem n64_4s : codeB Try.prog E cx n64_4 st = thenS (codeB Try.prog E cx n64_5 st) (codeB Try.prog E cx n64_25) := GE.seq_step (by kernel_rfl)
theorem n64_2s : codeB Try.prog E cx n64_2 st = thenS (codeB Try.prog E cx n64_3 st) (codeB Try.prog E cx n64_4) := GE.seq_step (by kernel_rfl)
theorem n64_0s : codeB Try.prog E cx n64_0 st = thenS (codeB Try.prog E cx n64_1 st) (codeB Try.prog E cx n64_2) := GE.seq_step (by kernel_rfl)
noncomputable def n65_0 : Code := bodyOf Try.f65
noncomputable def n65_1 : Code := cl n65_0
noncomputable def q65_1 : List Oper := opsOf n65_1
noncomputable def n65_2 : Code := cr n65_0
noncomputable def n65_3 : Code := cl n65_2
noncomputable def q65_3 : List Oper := opsOf n65_3
noncomputable def n65_4 : Code := cr n65_2
noncomputable def n65_5 : Code := cl n65_4
noncomputable def q65_5 : List Oper := opsOf n65_5
noncomputable def n65_6 : Code := cr n65_4
noncomputable def n65_7 : Code := cl n65_6
noncomputable def n65_8 : Code := cl n65_7
noncomputable def q65_8 : List Oper := opsOf n65_8
noncomputable def n65_9 : Code := cr n65_7
noncomputable def n65_10 : Code := cl n65_9
noncomputable def n65_11 : Code := cl n65_10
noncomputable def n65_12 : Code := cl n65_11
noncomputable def n65_13 : Code := cl n65_12
noncomputable def q65_13 : List Oper := opsOf n65_13
noncomputable def n65_14 : Code := cr n65_12
noncomputable def n65_15 : Code := cl n65_14
noncomputable def n65_16 : Code := cr n65_14
noncomputable def n65_17 : Code := cr n65_11
noncomputable def n65_18 : Code := cl n65_17
noncomputable def n65_19 : Code := cl n65_18
noncomputable def n65_20 : Code := cl n65_19
noncomputable def q65_20 : List Oper := opsOf n65_20
noncomputable def n65_21 : Code := cr n65_19
noncomputable def n65_22 : Code := cl n65_21
noncomputable def n65_23 : Code := cl n65_22
noncomputable def n65_24 : Code := cl n65_23
noncomputable def n65_25 : Code := cl n65_24
noncomputable def q65_25 : List Oper := opsOf n65_25
noncomputable def n65_26 : Code := cr n65_24
noncomputable def n65_27 : Code := cl n65_26
noncomputable def n65_28 : Code := cr n65_26
noncomputable def n65_29 : Code := cr n65_23
noncomputable def n65_30 : Code := cl n65_29
noncomputable def n65_31 : Code := cl n65_30
noncomputable def n65_32 : Code := cl n65_31
noncomputable def q65_32 : List Oper := opsOf n65_32
noncomputable def n65_33 : Code := cr n65_31
noncomputable def n65_34 : Code := cl n65_33
noncomputable def q65_34 : List Oper := opsOf n65_34
noncomputable def n65_35 : Code := cr n65_33
noncomputable def n65_36 : Code := cr n65_29
noncomputable def q65_36 : List Oper := opsOf n65_36
noncomputable def n65_37 : Code := cr n65_17
noncomputable def q65_37 : List Oper := opsOf n65_37
noncomputable def n65_38 : Code := cr n65_6
noncomputable def n65_39 : Code := cl n65_38
noncomputable def q65_39 : List Oper := opsOf n65_39
noncomputable def n65_40 : Code := cr n65_38
theorem body65 : Try.f65.body = some n65_0 := by kernel_rfl
theorem run65 (E : Ev) (args : List Value) (h : List Blk) (hl : args.length ≤ 49) : runB Try.prog E 65 args h = endS Try.prog [.tmp 2] h.length (codeB Try.prog E ⟨65, 49, h.length, none⟩ n65_0 ⟨enumT 0 args, h, []⟩) := GE.run_step Try.func65 body65 (by kernel_rfl) (by decide) (by kernel_rfl) hl
theorem n65_1s : codeB Try.prog E ⟨f, 49, b, ro⟩ n65_1 st = plainS (runOps Try.prog E b q65_1 (ops [false] Try.f65) st) := GE.region_step (id := 0) (GE.reg_of (by kernel_rfl)) (by kernel_rfl)
theorem n65_3s : codeB Try.prog E ⟨f, 49, b, ro⟩ n65_3 st = plainS (runOps Try.prog E b q65_3 (ops [true, false] Try.f65) st) := GE.region_step (id := 1) (GE.reg_of (by kernel_rfl)) (by kernel_rfl)
theorem n65_5s : codeB Try.prog E ⟨f, 49, b, ro⟩ n65_5 st = plainS (runOps Try.prog E b q65_5 (ops [true, true, false] Try.f65) st) := GE.region_step (id := 2) (GE.reg_of (by kernel_rfl)) (by kernel_rfl)
theorem n65_8s : codeB Try.prog E ⟨f, 49, b, ro⟩ n65_8 st = plainS (runOps Try.prog E b q65_8 (ops [true, true, true, false, false] Try.f65) st) := GE.region_step (id := 3) (GE.reg_of (by kernel_rfl)) (by kernel_rfl)
theorem n65_13s : codeB Try.prog E ⟨f, 49, b, ro⟩ n65_13 st = plainS (runOps Try.prog E b q65_13 (ops [true, true, true, false, true, false, false, false, false] Try.f65) st) := GE.region_step (id := 4) (GE.reg_of (by kernel_rfl)) (by kernel_rfl)
theorem n65_15s : codeB Try.prog E cx n65_15 st = some (.normal, st) := GE.skip_step (by kernel_rfl)
theorem n65_16s : codeB Try.prog LL ⟨65, 49, b, ro⟩ n65_16 st = normS b ⟨[3], [⟨3, 0, 1, true⟩]⟩ (.exit 0) st := GE.exit_step (by kernel_rfl) (by kernel_rfl)
theorem n65_14s : codeB Try.prog E cx n65_14 st = condS (codeB Try.prog E cx n65_15) (codeB Try.prog E cx n65_16) (lk st.σ 15) st := GE.cond_step (c := .tmp 15) (by kernel_rfl)
theorem n65_12s : codeB Try.prog E cx n65_12 st = thenS (codeB Try.prog E cx n65_13 st) (codeB Try.prog E cx n65_14) := GE.seq_step (by kernel_rfl)
theorem n65_20s : codeB Try.prog E ⟨f, 49, b, ro⟩ n65_20 st = plainS (runOps Try.prog E b q65_20 (ops [true, true, true, false, true, false, false, true, false, false, false] Try.f65) st) := GE.region_step (id := 6) (GE.reg_of (by kernel_rfl)) (by kernel_rfl)
theorem n65_25s : codeB Try.prog E ⟨f, 49, b, ro⟩ n65_25 st = plainS (runOps Try.prog E b q65_25 (ops [true, true, true, false, true, false, false, true, false, false, true, false, false, false, false] Try.f65) st) := GE.region_step (id := 7) (GE.reg_of (by kernel_rfl)) (by kernel_rfl)
theorem n65_27s : codeB Try.prog E cx n65_27 st = some (.normal, st) := GE.skip_step (by kernel_rfl)
theorem n65_28s : codeB Try.prog LL ⟨65, 49, b, ro⟩ n65_28 st = normS b ⟨[0, 3, 4], [⟨0, 0, 2, true⟩, ⟨3, 0, 1, true⟩]⟩ (.exit 2) st := GE.exit_step (by kernel_rfl) (by kernel_rfl)
theorem n65_26s : codeB Try.prog E cx n65_26 st = condS (codeB Try.prog E cx n65_27) (codeB Try.prog E cx n65_28) (lk st.σ 21) st := GE.cond_step (c := .tmp 21) (by kernel_rfl)
theorem n65_24s : codeB Try.prog E cx n65_24 st = thenS (codeB Try.prog E cx n65_25 st) (codeB Try.prog E cx n65_26) := GE.seq_step (by kernel_rfl)
theorem q65_32g5 : gd q65_32 5 = some 29 := by kernel_rfl
theorem n65_32s : codeB Try.prog E ⟨f, 49, b, ro⟩ n65_32 st = plainS (runOps Try.prog E b q65_32 (ops [true, true, true, false, true, false, false, true, false, false, true, false, false, true, false, false, false] Try.f65) st) := GE.region_step (id := 9) (GE.reg_of (by kernel_rfl)) (by kernel_rfl)
theorem n65_34s : codeB Try.prog E ⟨f, 49, b, ro⟩ n65_34 st = drawS [0, 0, 0, 4, 14, 31, 63, 0, 0, 384, 896, 2047, 4095, 8191] (runOpsF Try.prog E b q65_34 (ops [true, true, true, false, true, false, false, true, false, false, true, false, false, true, false, false, true, false] Try.f65) st) := GE.draw_step (id := 10) (GE.reg_of (by kernel_rfl)) (by kernel_rfl) (by kernel_rfl) (by kernel_rfl)
theorem n65_35s : codeB Try.prog E cx n65_35 st = some (.normal, st) := GE.skip_step (by kernel_rfl)
theorem n65_33s : codeB Try.prog E cx n65_33 st = condS (codeB Try.prog E cx n65_34) (codeB Try.prog E cx n65_35) (lk st.σ 34) st := GE.cond_step (c := .tmp 34) (by kernel_rfl)
theorem n65_31s : codeB Try.prog E cx n65_31 st = thenS (codeB Try.prog E cx n65_32 st) (codeB Try.prog E cx n65_33) := GE.seq_step (by kernel_rfl)
theorem n65_30s : codeB Try.prog E cx n65_30 st = blockS 3 (codeB Try.prog E cx n65_31 st) st := GE.block_step (by kernel_rfl)
theorem n65_36s : codeB Try.prog E ⟨f, 49, b, ro⟩ n65_36 st = plainS (runOps Try.prog E b q65_36 (ops [true, true, true, false, true, false, false, true, false, false, true, false, false, true, true] Try.f65) st) := GE.region_step (id := 8) (GE.reg_of (by kernel_rfl)) (by kernel_rfl)
theorem n65_29s : codeB Try.prog E cx n65_29 st = thenS (codeB Try.prog E cx n65_30 st) (codeB Try.prog E cx n65_36) := GE.seq_step (by kernel_rfl)
theorem n65_23s : codeB Try.prog E cx n65_23 st = thenS (codeB Try.prog E cx n65_24 st) (codeB Try.prog E cx n65_29) := GE.seq_step (by kernel_rfl)
theorem n65_22k : LL.kp (⟨65, 49, b, ro⟩ : Cx).fn (4 * rid n65_23 + 3) = some ⟨[5, 0, 3, 4], [⟨0, 0, 2, true⟩, ⟨3, 0, 1, true⟩]⟩ := by kernel_rfl
theorem n65_22s : codeB Try.prog LL ⟨65, 49, b, ro⟩ n65_22 st = headS b ⟨[5, 0, 3, 4], [⟨0, 0, 2, true⟩, ⟨3, 0, 1, true⟩]⟩ st (lpB Try.prog LL ⟨65, 49, b, ro⟩ n65_22 n65_23) := GE.lpB_step (by kernel_rfl) (n65_22k b ro)
theorem n65_22g : LL.code ⟨65, 49, b, ro⟩ n65_22 st = headS b ⟨[5, 0, 3, 4], [⟨0, 0, 2, true⟩, ⟨3, 0, 1, true⟩]⟩ st (lpB Try.prog LL ⟨65, 49, b, ro⟩ n65_22 n65_23) := GE.lpB_again (by kernel_rfl) (n65_22k b ro)
theorem n65_21s : codeB Try.prog E cx n65_21 st = blockS 2 (codeB Try.prog E cx n65_22 st) st := GE.block_step (by kernel_rfl)
theorem n65_19s : codeB Try.prog E cx n65_19 st = thenS (codeB Try.prog E cx n65_20 st) (codeB Try.prog E cx n65_21) := GE.seq_step (by kernel_rfl)
theorem n65_18s : codeB Try.prog E cx n65_18 st = blockS 1 (codeB Try.prog E cx n65_19 st) st := GE.block_step (by kernel_rfl)
theorem n65_37s : codeB Try.prog E ⟨f, 49, b, ro⟩ n65_37 st = plainS (runOps Try.prog E b q65_37 (ops [true, true, true, false, true, false, false, true, true] Try.f65) st) := GE.region_step (id := 5) (GE.reg_of (by kernel_rfl)) (by kernel_rfl)
theorem n65_17s : codeB Try.prog E cx n65_17 st = thenS (codeB Try.prog E cx n65_18 st) (codeB Try.prog E cx n65_37) := GE.seq_step (by kernel_rfl)
theorem n65_11s : codeB Try.prog E cx n65_11 st = thenS (codeB Try.prog E cx n65_12 st) (codeB Try.prog E cx n65_17) := GE.seq_step (by kernel_rfl)
theorem n65_10k : LL.kp (⟨65, 49, b, ro⟩ : Cx).fn (4 * rid n65_11 + 3) = some ⟨[0, 3, 4], [⟨0, 0, 2, true⟩, ⟨3, 0, 1, true⟩]⟩ := by kernel_rfl
theorem n65_10s : codeB Try.prog LL ⟨65, 49, b, ro⟩ n65_10 st = headS b ⟨[0, 3, 4], [⟨0, 0, 2, true⟩, ⟨3, 0, 1, true⟩]⟩ st (lpB Try.prog LL ⟨65, 49, b, ro⟩ n65_10 n65_11) := GE.lpB_step (by kernel_rfl) (n65_10k b ro)
theorem n65_10g : LL.code ⟨65, 49, b, ro⟩ n65_10 st = headS b ⟨[0, 3, 4], [⟨0, 0, 2, true⟩, ⟨3, 0, 1, true⟩]⟩ st (lpB Try.prog LL ⟨65, 49, b, ro⟩ n65_10 n65_11) := GE.lpB_again (by kernel_rfl) (n65_10k b ro)
theorem n65_9s : codeB Try.prog E cx n65_9 st = blockS 0 (codeB Try.prog E cx n65_10 st) st := GE.block_step (by kernel_rfl)
theorem n65_7s : codeB Try.prog E cx n65_7 st = thenS (codeB Try.prog E cx n65_8 st) (codeB Try.prog E cx n65_9) := GE.seq_step (by kernel_rfl)
theorem n65_39s : codeB Try.prog E ⟨f, 49, b, ro⟩ n65_39 st = plainS (runOps Try.prog E b q65_39 (ops [true, true, true, true, false] Try.f65) st) := GE.region_step (id := 11) (GE.reg_of (by kernel_rfl)) (by kernel_rfl)
theorem n65_40s : codeB Try.prog LL ⟨65, 49, b, ro⟩ n65_40 st = normS b ⟨[2], [⟨2, 0, 1, true⟩]⟩ .ret st := GE.ret_step (by kernel_rfl) (by kernel_rfl)
theorem n65_38s : codeB Try.prog E cx n65_38 st = thenS (codeB Try.prog E cx n65_39 st) (codeB Try.prog E cx n65_40) := GE.seq_step (by kernel_rfl)
theorem n65_6s : codeB Try.prog E cx n65_6 st = thenS (codeB Try.prog E cx n65_7 st) (codeB Try.prog E cx n65_38) := GE.seq_step (by kernel_rfl)
theorem n65_4s : codeB Try.prog E cx n65_4 st = thenS (codeB Try.prog E cx n65_5 st) (codeB Try.prog E cx n65_6) := GE.seq_step (by kernel_rfl)
theorem n65_2s : codeB Try.prog E cx n65_2 st = thenS (codeB Try.prog E cx n65_3 st) (codeB Try.prog E cx n65_4) := GE.seq_step (by kernel_rfl)
theorem n65_0s : codeB Try.prog E cx n65_0 st = thenS (codeB Try.prog E cx n65_1 st) (codeB Try.prog E cx n65_2) := GE.seq_step (by kernel_rfl)
noncomputable def n66_0 : Code := bodyOf Try.f66
noncomputable def n66_1 : Code := cl n66_0
noncomputable def q66_1 : List Oper := opsOf n66_1
noncomputable def n66_2 : Code := cr n66_0
noncomputable def n66_3 : Code := cl n66_2
noncomputable def q66_3 : List Oper := opsOf n66_3
noncomputable def n66_4 : Code := cr n66_2
noncomputable def n66_5 : Code := cl n66_4
noncomputable def n66_6 : Code := cl n66_5
noncomputable def n66_7 : Code := cl n66_6
noncomputable def n66_8 : Code := cl n66_7
noncomputable def n66_9 : Code := cl n66_8
noncomputable def q66_9 : List Oper := opsOf n66_9
noncomputable def n66_10 : Code := cr n66_8
noncomputable def n66_11 : Code := cl n66_10
noncomputable def n66_12 : Code := cr n66_10
noncomputable def n66_13 : Code := cr n66_7
noncomputable def n66_14 : Code := cl n66_13
noncomputable def n66_15 : Code := cl n66_14
noncomputable def q66_15 : List Oper := opsOf n66_15
noncomputable def n66_16 : Code := cr n66_14
noncomputable def q66_16 : List Oper := opsOf n66_16
noncomputable def n66_17 : Code := cr n66_4
noncomputable def n66_18 : Code := cl n66_17
noncomputable def q66_18 : List Oper := opsOf n66_18
noncomputable def n66_19 : Code := cr n66_17
theorem body66 : Try.f66.body = some n66_0 := by kernel_rfl
theorem run66 (E : Ev) (args : List Value) (h : List Blk) (hl : args.length ≤ 13) : runB Try.prog E 66 args h = endS Try.prog [.tmp 2] h.length (codeB Try.prog E ⟨66, 13, h.length, none⟩ n66_0 ⟨enumT 0 args, h, []⟩) := GE.run_step Try.func66 body66 (by kernel_rfl) (by decide) (by kernel_rfl) hl
theorem n66_1s : codeB Try.prog E ⟨f, 13, b, ro⟩ n66_1 st = plainS (runOps Try.prog E b q66_1 (ops [false] Try.f66) st) := GE.region_step (id := 0) (GE.reg_of (by kernel_rfl)) (by kernel_rfl)
theorem n66_3s : codeB Try.prog E ⟨f, 13, b, ro⟩ n66_3 st = plainS (runOps Try.prog E b q66_3 (ops [true, false] Try.f66) st) := GE.region_step (id := 1) (GE.reg_of (by kernel_rfl)) (by kernel_rfl)
theorem n66_9s : codeB Try.prog E ⟨f, 13, b, ro⟩ n66_9 st = plainS (runOps Try.prog E b q66_9 (ops [true, true, false, false, false, false, false] Try.f66) st) := GE.region_step (id := 2) (GE.reg_of (by kernel_rfl)) (by kernel_rfl)
theorem n66_11s : codeB Try.prog E cx n66_11 st = some (.normal, st) := GE.skip_step (by kernel_rfl)
theorem n66_12s : codeB Try.prog LL ⟨66, 13, b, ro⟩ n66_12 st = normS b ⟨[3], []⟩ (.exit 0) st := GE.exit_step (by kernel_rfl) (by kernel_rfl)
theorem n66_10s : codeB Try.prog E cx n66_10 st = condS (codeB Try.prog E cx n66_11) (codeB Try.prog E cx n66_12) (lk st.σ 5) st := GE.cond_step (c := .tmp 5) (by kernel_rfl)
theorem n66_8s : codeB Try.prog E cx n66_8 st = thenS (codeB Try.prog E cx n66_9 st) (codeB Try.prog E cx n66_10) := GE.seq_step (by kernel_rfl)
theorem n66_15s : codeB Try.prog E ⟨f, 13, b, ro⟩ n66_15 st = plainS (runOps Try.prog E b q66_15 (ops [true, true, false, false, false, true, false, false] Try.f66) st) := GE.region_step (id := 3) (GE.reg_of (by kernel_rfl)) (by kernel_rfl)
theorem n66_16s : codeB Try.prog E ⟨f, 13, b, ro⟩ n66_16 st = plainS (runOps Try.prog E b q66_16 (ops [true, true, false, false, false, true, false, true] Try.f66) st) := GE.region_step (id := 4) (GE.reg_of (by kernel_rfl)) (by kernel_rfl)
theorem n66_14s : codeB Try.prog E cx n66_14 st = thenS (codeB Try.prog E cx n66_15 st) (codeB Try.prog E cx n66_16) := GE.seq_step (by kernel_rfl)
theorem n66_13s : codeB Try.prog E cx n66_13 st = blockS 1 (codeB Try.prog E cx n66_14 st) st := GE.block_step (by kernel_rfl)
theorem n66_7s : codeB Try.prog E cx n66_7 st = thenS (codeB Try.prog E cx n66_8 st) (codeB Try.prog E cx n66_13) := GE.seq_step (by kernel_rfl)
theorem n66_6k : LL.kp (⟨66, 13, b, ro⟩ : Cx).fn (4 * rid n66_7 + 3) = some ⟨[0, 3], []⟩ := by kernel_rfl
theorem n66_6s : codeB Try.prog LL ⟨66, 13, b, ro⟩ n66_6 st = headS b ⟨[0, 3], []⟩ st (lpB Try.prog LL ⟨66, 13, b, ro⟩ n66_6 n66_7) := GE.lpB_step (by kernel_rfl) (n66_6k b ro)
theorem n66_6g : LL.code ⟨66, 13, b, ro⟩ n66_6 st = headS b ⟨[0, 3], []⟩ st (lpB Try.prog LL ⟨66, 13, b, ro⟩ n66_6 n66_7) := GE.lpB_again (by kernel_rfl) (n66_6k b ro)
theorem n66_5s : codeB Try.prog E cx n66_5 st = blockS 0 (codeB Try.prog E cx n66_6 st) st := GE.block_step (by kernel_rfl)
theorem n66_18s : codeB Try.prog E ⟨f, 13, b, ro⟩ n66_18 st = plainS (runOps Try.prog E b q66_18 (ops [true, true, true, false] Try.f66) st) := GE.region_step (id := 5) (GE.reg_of (by kernel_rfl)) (by kernel_rfl)
theorem n66_19s : codeB Try.prog LL ⟨66, 13, b, ro⟩ n66_19 st = normS b ⟨[2], []⟩ .ret st := GE.ret_step (by kernel_rfl) (by kernel_rfl)
theorem n66_17s : codeB Try.prog E cx n66_17 st = thenS (codeB Try.prog E cx n66_18 st) (codeB Try.prog E cx n66_19) := GE.seq_step (by kernel_rfl)
theorem n66_4s : codeB Try.prog E cx n66_4 st = thenS (codeB Try.prog E cx n66_5 st) (codeB Try.prog E cx n66_17) := GE.seq_step (by kernel_rfl)
theorem n66_2s : codeB Try.prog E cx n66_2 st = thenS (codeB Try.prog E cx n66_3 st) (codeB Try.prog E cx n66_4) := GE.seq_step (by kernel_rfl)
theorem n66_0s : codeB Try.prog E cx n66_0 st = thenS (codeB Try.prog E cx n66_1 st) (codeB Try.prog E cx n66_2) := GE.seq_step (by kernel_rfl)
noncomputable def n67_0 : Code := bodyOf Try.f67
noncomputable def n67_1 : Code := cl n67_0
noncomputable def q67_1 : List Oper := opsOf n67_1
noncomputable def n67_2 : Code := cr n67_0
noncomputable def n67_3 : Code := cl n67_2
noncomputable def q67_3 : List Oper := opsOf n67_3
noncomputable def n67_4 : Code := cr n67_2
noncomputable def n67_5 : Code := cl n67_4
noncomputable def n67_6 : Code := cl n67_5
noncomputable def n67_7 : Code := cl n67_6
noncomputable def n67_8 : Code := cl n67_7
noncomputable def n67_9 : Code := cl n67_8
noncomputable def q67_9 : List Oper := opsOf n67_9
noncomputable def n67_10 : Code := cr n67_8
noncomputable def n67_11 : Code := cl n67_10
noncomputable def n67_12 : Code := cr n67_10
noncomputable def n67_13 : Code := cr n67_7
noncomputable def n67_14 : Code := cl n67_13
noncomputable def q67_14 : List Oper := opsOf n67_14
noncomputable def n67_15 : Code := cr n67_4
noncomputable def n67_16 : Code := cl n67_15
noncomputable def q67_16 : List Oper := opsOf n67_16
noncomputable def n67_17 : Code := cr n67_15
theorem body67 : Try.f67.body = some n67_0 := by kernel_rfl
theorem run67 (E : Ev) (args : List Value) (h : List Blk) (hl : args.length ≤ 22) : runB Try.prog E 67 args h = endS Try.prog [.cell 4 42] h.length (codeB Try.prog E ⟨67, 22, h.length, none⟩ n67_0 ⟨enumT 0 args, h, []⟩) := GE.run_step Try.func67 body67 (by kernel_rfl) (by decide) (by kernel_rfl) hl
theorem n67_1s : codeB Try.prog E ⟨f, 22, b, ro⟩ n67_1 st = plainS (runOps Try.prog E b q67_1 (ops [false] Try.f67) st) := GE.region_step (id := 0) (GE.reg_of (by kernel_rfl)) (by kernel_rfl)
theorem n67_3s : codeB Try.prog E ⟨f, 22, b, ro⟩ n67_3 st = plainS (runOps Try.prog E b q67_3 (ops [true, false] Try.f67) st) := GE.region_step (id := 1) (GE.reg_of (by kernel_rfl)) (by kernel_rfl)
theorem n67_9s : codeB Try.prog E ⟨f, 22, b, ro⟩ n67_9 st = plainS (runOps Try.prog E b q67_9 (ops [true, true, false, false, false, false, false] Try.f67) st) := GE.region_step (id := 2) (GE.reg_of (by kernel_rfl)) (by kernel_rfl)
theorem n67_11s : codeB Try.prog E cx n67_11 st = some (.normal, st) := GE.skip_step (by kernel_rfl)
theorem n67_12s : codeB Try.prog LL ⟨67, 22, b, ro⟩ n67_12 st = normS b ⟨[0, 1, 4, 5], []⟩ (.exit 0) st := GE.exit_step (by kernel_rfl) (by kernel_rfl)
theorem n67_10s : codeB Try.prog E cx n67_10 st = condS (codeB Try.prog E cx n67_11) (codeB Try.prog E cx n67_12) (lk st.σ 10) st := GE.cond_step (c := .tmp 10) (by kernel_rfl)
theorem n67_8s : codeB Try.prog E cx n67_8 st = thenS (codeB Try.prog E cx n67_9 st) (codeB Try.prog E cx n67_10) := GE.seq_step (by kernel_rfl)
theorem n67_14s : codeB Try.prog E ⟨f, 22, b, ro⟩ n67_14 st = drawS [0, 0, 0, 6, 3, 31] (runOpsF Try.prog E b q67_14 (ops [true, true, false, false, false, true, false] Try.f67) st) := GE.draw_step (id := 3) (GE.reg_of (by kernel_rfl)) (by kernel_rfl) (by kernel_rfl) (by kernel_rfl)
theorem n67_13s : codeB Try.prog E cx n67_13 st = blockS 1 (codeB Try.prog E cx n67_14 st) st := GE.block_step (by kernel_rfl)
theorem n67_7s : codeB Try.prog E cx n67_7 st = thenS (codeB Try.prog E cx n67_8 st) (codeB Try.prog E cx n67_13) := GE.seq_step (by kernel_rfl)
theorem n67_6k : LL.kp (⟨67, 22, b, ro⟩ : Cx).fn (4 * rid n67_7 + 3) = some ⟨[0, 1, 4, 5, 6], []⟩ := by kernel_rfl
theorem n67_6s : codeB Try.prog LL ⟨67, 22, b, ro⟩ n67_6 st = headS b ⟨[0, 1, 4, 5, 6], []⟩ st (lpB Try.prog LL ⟨67, 22, b, ro⟩ n67_6 n67_7) := GE.lpB_step (by kernel_rfl) (n67_6k b ro)
theorem n67_6g : LL.code ⟨67, 22, b, ro⟩ n67_6 st = headS b ⟨[0, 1, 4, 5, 6], []⟩ st (lpB Try.prog LL ⟨67, 22, b, ro⟩ n67_6 n67_7) := GE.lpB_again (by kernel_rfl) (n67_6k b ro)
theorem n67_5s : codeB Try.prog E cx n67_5 st = blockS 0 (codeB Try.prog E cx n67_6 st) st := GE.block_step (by kernel_rfl)
theorem n67_16s : codeB Try.prog E ⟨f, 22, b, ro⟩ n67_16 st = drawS [0, 0, 3, 0, 0, 24, 63, 127] (runOpsF Try.prog E b q67_16 (ops [true, true, true, false] Try.f67) st) := GE.draw_step (id := 4) (GE.reg_of (by kernel_rfl)) (by kernel_rfl) (by kernel_rfl) (by kernel_rfl)
theorem n67_17s : codeB Try.prog LL ⟨67, 22, b, ro⟩ n67_17 st = normS b ⟨[4], []⟩ .ret st := GE.ret_step (by kernel_rfl) (by kernel_rfl)
theorem n67_15s : codeB Try.prog E cx n67_15 st = thenS (codeB Try.prog E cx n67_16 st) (codeB Try.prog E cx n67_17) := GE.seq_step (by kernel_rfl)
theorem n67_4s : codeB Try.prog E cx n67_4 st = thenS (codeB Try.prog E cx n67_5 st) (codeB Try.prog E cx n67_15) := GE.seq_step (by kernel_rfl)
theorem n67_2s : codeB Try.prog E cx n67_2 st = thenS (codeB Try.prog E cx n67_3 st) (codeB Try.prog E cx n67_4) := GE.seq_step (by kernel_rfl)
theorem n67_0s : codeB Try.prog E cx n67_0 st = thenS (codeB Try.prog E cx n67_1 st) (codeB Try.prog E cx n67_2) := GE.seq_step (by kernel_rfl)
noncomputable def n68_0 : Code := bodyOf Try.f68
noncomputable def n68_1 : Code := cl n68_0
noncomputable def q68_1 : List Oper := opsOf n68_1
noncomputable def n68_2 : Code := cr n68_0
noncomputable def n68_3 : Code := cl n68_2
noncomputable def q68_3 : List Oper := opsOf n68_3
noncomputable def n68_4 : Code := cr n68_2
noncomputable def n68_5 : Code := cl n68_4
noncomputable def n68_6 : Code := cl n68_5
noncomputable def n68_7 : Code := cl n68_6
noncomputable def n68_8 : Code := cl n68_7
noncomputable def n68_9 : Code := cl n68_8
noncomputable def q68_9 : List Oper := opsOf n68_9
noncomputable def n68_10 : Code := cr n68_8
noncomputable def n68_11 : Code := cl n68_10
noncomputable def n68_12 : Code := cr n68_10
noncomputable def n68_13 : Code := cr n68_7
noncomputable def n68_14 : Code := cl n68_13
noncomputable def q68_14 : List Oper := opsOf n68_14
noncomputable def n68_15 : Code := cr n68_4
noncomputable def n68_16 : Code := cl n68_15
noncomputable def q68_16 : List Oper := opsOf n68_16
noncomputable def n68_17 : Code := cr n68_15
theorem body68 : Try.f68.body = some n68_0 := by kernel_rfl
theorem run68 (E : Ev) (args : List Value) (h : List Blk) (hl : args.length ≤ 22) : runB Try.prog E 68 args h = endS Try.prog [.cell 4 42] h.length (codeB Try.prog E ⟨68, 22, h.length, none⟩ n68_0 ⟨enumT 0 args, h, []⟩) := GE.run_step Try.func68 body68 (by kernel_rfl) (by decide) (by kernel_rfl) hl
theorem n68_1s : codeB Try.prog E ⟨f, 22, b, ro⟩ n68_1 st = plainS (runOps Try.prog E b q68_1 (ops [false] Try.f68) st) := GE.region_step (id := 0) (GE.reg_of (by kernel_rfl)) (by kernel_rfl)
theorem n68_3s : codeB Try.prog E ⟨f, 22, b, ro⟩ n68_3 st = plainS (runOps Try.prog E b q68_3 (ops [true, false] Try.f68) st) := GE.region_step (id := 1) (GE.reg_of (by kernel_rfl)) (by kernel_rfl)
theorem n68_9s : codeB Try.prog E ⟨f, 22, b, ro⟩ n68_9 st = plainS (runOps Try.prog E b q68_9 (ops [true, true, false, false, false, false, false] Try.f68) st) := GE.region_step (id := 2) (GE.reg_of (by kernel_rfl)) (by kernel_rfl)
theorem n68_11s : codeB Try.prog E cx n68_11 st = some (.normal, st) := GE.skip_step (by kernel_rfl)
theorem n68_12s : codeB Try.prog LL ⟨68, 22, b, ro⟩ n68_12 st = normS b ⟨[0, 1, 4, 5], []⟩ (.exit 0) st := GE.exit_step (by kernel_rfl) (by kernel_rfl)
theorem n68_10s : codeB Try.prog E cx n68_10 st = condS (codeB Try.prog E cx n68_11) (codeB Try.prog E cx n68_12) (lk st.σ 10) st := GE.cond_step (c := .tmp 10) (by kernel_rfl)
theorem n68_8s : codeB Try.prog E cx n68_8 st = thenS (codeB Try.prog E cx n68_9 st) (codeB Try.prog E cx n68_10) := GE.seq_step (by kernel_rfl)
theorem n68_14s : codeB Try.prog E ⟨f, 22, b, ro⟩ n68_14 st = drawS [0, 0, 0, 6, 3, 31] (runOpsF Try.prog E b q68_14 (ops [true, true, false, false, false, true, false] Try.f68) st) := GE.draw_step (id := 3) (GE.reg_of (by kernel_rfl)) (by kernel_rfl) (by kernel_rfl) (by kernel_rfl)
theorem n68_13s : codeB Try.prog E cx n68_13 st = blockS 1 (codeB Try.prog E cx n68_14 st) st := GE.block_step (by kernel_rfl)
theorem n68_7s : codeB Try.prog E cx n68_7 st = thenS (codeB Try.prog E cx n68_8 st) (codeB Try.prog E cx n68_13) := GE.seq_step (by kernel_rfl)
theorem n68_6k : LL.kp (⟨68, 22, b, ro⟩ : Cx).fn (4 * rid n68_7 + 3) = some ⟨[0, 1, 4, 5, 6], []⟩ := by kernel_rfl
theorem n68_6s : codeB Try.prog LL ⟨68, 22, b, ro⟩ n68_6 st = headS b ⟨[0, 1, 4, 5, 6], []⟩ st (lpB Try.prog LL ⟨68, 22, b, ro⟩ n68_6 n68_7) := GE.lpB_step (by kernel_rfl) (n68_6k b ro)
theorem n68_6g : LL.code ⟨68, 22, b, ro⟩ n68_6 st = headS b ⟨[0, 1, 4, 5, 6], []⟩ st (lpB Try.prog LL ⟨68, 22, b, ro⟩ n68_6 n68_7) := GE.lpB_again (by kernel_rfl) (n68_6k b ro)
theorem n68_5s : codeB Try.prog E cx n68_5 st = blockS 0 (codeB Try.prog E cx n68_6 st) st := GE.block_step (by kernel_rfl)
theorem n68_16s : codeB Try.prog E ⟨f, 22, b, ro⟩ n68_16 st = drawS [0, 0, 3, 0, 0, 24, 63, 127] (runOpsF Try.prog E b q68_16 (ops [true, true, true, false] Try.f68) st) := GE.draw_step (id := 4) (GE.reg_of (by kernel_rfl)) (by kernel_rfl) (by kernel_rfl) (by kernel_rfl)
theorem n68_17s : codeB Try.prog LL ⟨68, 22, b, ro⟩ n68_17 st = normS b ⟨[4], []⟩ .ret st := GE.ret_step (by kernel_rfl) (by kernel_rfl)
theorem n68_15s : codeB Try.prog E cx n68_15 st = thenS (codeB Try.prog E cx n68_16 st) (codeB Try.prog E cx n68_17) := GE.seq_step (by kernel_rfl)
theorem n68_4s : codeB Try.prog E cx n68_4 st = thenS (codeB Try.prog E cx n68_5 st) (codeB Try.prog E cx n68_15) := GE.seq_step (by kernel_rfl)
theorem n68_2s : codeB Try.prog E cx n68_2 st = thenS (codeB Try.prog E cx n68_3 st) (codeB Try.prog E cx n68_4) := GE.seq_step (by kernel_rfl)
theorem n68_0s : codeB Try.prog E cx n68_0 st = thenS (codeB Try.prog E cx n68_1 st) (codeB Try.prog E cx n68_2) := GE.seq_step (by kernel_rfl)
noncomputable def n69_0 : Code := bodyOf Try.f69
noncomputable def n69_1 : Code := cl n69_0
noncomputable def q69_1 : List Oper := opsOf n69_1
noncomputable def n69_2 : Code := cr n69_0
noncomputable def n69_3 : Code := cl n69_2
noncomputable def q69_3 : List Oper := opsOf n69_3
noncomputable def n69_4 : Code := cr n69_2
noncomputable def n69_5 : Code := cl n69_4
noncomputable def q69_5 : List Oper := opsOf n69_5
noncomputable def n69_6 : Code := cr n69_4
noncomputable def n69_7 : Code := cl n69_6
noncomputable def q69_7 : List Oper := opsOf n69_7
noncomputable def n69_8 : Code := cr n69_6
noncomputable def n69_9 : Code := cl n69_8
noncomputable def q69_9 : List Oper := opsOf n69_9
noncomputable def n69_10 : Code := cr n69_8
noncomputable def n69_11 : Code := cl n69_10
noncomputable def q69_11 : List Oper := opsOf n69_11
noncomputable def n69_12 : Code := cr n69_10
theorem body69 : Try.f69.body = some n69_0 := by kernel_rfl
theorem run69 (E : Ev) (args : List Value) (h : List Blk) (hl : args.length ≤ 32) : runB Try.prog E 69 args h = endS Try.prog [.tmp 4] h.length (codeB Try.prog E ⟨69, 32, h.length, none⟩ n69_0 ⟨enumT 0 args, h, []⟩) := GE.run_step Try.func69 body69 (by kernel_rfl) (by decide) (by kernel_rfl) hl
theorem n69_1s : codeB Try.prog E ⟨f, 32, b, ro⟩ n69_1 st = plainS (runOps Try.prog E b q69_1 (ops [false] Try.f69) st) := GE.region_step (id := 0) (GE.reg_of (by kernel_rfl)) (by kernel_rfl)
theorem n69_3s : codeB Try.prog E ⟨f, 32, b, ro⟩ n69_3 st = plainS (runOps Try.prog E b q69_3 (ops [true, false] Try.f69) st) := GE.region_step (id := 1) (GE.reg_of (by kernel_rfl)) (by kernel_rfl)
theorem n69_5s : codeB Try.prog E ⟨f, 32, b, ro⟩ n69_5 st = plainS (runOps Try.prog E b q69_5 (ops [true, true, false] Try.f69) st) := GE.region_step (id := 2) (GE.reg_of (by kernel_rfl)) (by kernel_rfl)
theorem n69_7s : codeB Try.prog E ⟨f, 32, b, ro⟩ n69_7 st = plainS (runOps Try.prog E b q69_7 (ops [true, true, true, false] Try.f69) st) := GE.region_step (id := 3) (GE.reg_of (by kernel_rfl)) (by kernel_rfl)
theorem n69_9s : codeB Try.prog E ⟨f, 32, b, ro⟩ n69_9 st = plainS (runOps Try.prog E b q69_9 (ops [true, true, true, true, false] Try.f69) st) := GE.region_step (id := 4) (GE.reg_of (by kernel_rfl)) (by kernel_rfl)
theorem n69_11s : codeB Try.prog E ⟨f, 32, b, ro⟩ n69_11 st = plainS (runOps Try.prog E b q69_11 (ops [true, true, true, true, true, false] Try.f69) st) := GE.region_step (id := 5) (GE.reg_of (by kernel_rfl)) (by kernel_rfl)
theorem n69_12s : codeB Try.prog LL ⟨69, 32, b, ro⟩ n69_12 st = normS b ⟨[4], []⟩ .ret st := GE.ret_step (by kernel_rfl) (by kernel_rfl)
theorem n69_10s : codeB Try.prog E cx n69_10 st = thenS (codeB Try.prog E cx n69_11 st) (codeB Try.prog E cx n69_12) := GE.seq_step (by kernel_rfl)
theorem n69_8s : codeB Try.prog E cx n69_8 st = thenS (codeB Try.prog E cx n69_9 st) (codeB Try.prog E cx n69_10) := GE.seq_step (by kernel_rfl)
theorem n69_6s : codeB Try.prog E cx n69_6 st = thenS (codeB Try.prog E cx n69_7 st) (codeB Try.prog E cx n69_8) := GE.seq_step (by kernel_rfl)
theorem n69_4s : codeB Try.prog E cx n69_4 st = thenS (codeB Try.prog E cx n69_5 st) (codeB Try.prog E cx n69_6) := GE.seq_step (by kernel_rfl)
theorem n69_2s : codeB Try.prog E cx n69_2 st = thenS (codeB Try.prog E cx n69_3 st) (codeB Try.prog E cx n69_4) := GE.seq_step (by kernel_rfl)
theorem n69_0s : codeB Try.prog E cx n69_0 st = thenS (codeB Try.prog E cx n69_1 st) (codeB Try.prog E cx n69_2) := GE.seq_step (by kernel_rfl)
noncomputable def n70_0 : Code := bodyOf Try.f70
noncomputable def n70_1 : Code := cl n70_0
noncomputable def q70_1 : List Oper := opsOf n70_1
noncomputable def n70_2 : Code := cr n70_0
noncomputable def n70_3 : Code := cl n70_2
noncomputable def q70_3 : List Oper := opsOf n70_3
noncomputable def n70_4 : Code := cr n70_2
theorem body70 : Try.f70.body = some n70_0 := by kernel_rfl
theorem run70 (E : Ev) (args : List Value) (h : List Blk) (hl : args.length ≤ 15) : runB Try.prog E 70 args h = endS Try.prog [.tmp 6] h.length (codeB Try.prog E ⟨70, 15, h.length, none⟩ n70_0 ⟨enumT 0 args, h, []⟩) := GE.run_step Try.func70 body70 (by kernel_rfl) (by decide) (by kernel_rfl) hl
theorem n70_1s : codeB Try.prog E ⟨f, 15, b, ro⟩ n70_1 st = plainS (runOps Try.prog E b q70_1 (ops [false] Try.f70) st) := GE.region_step (id := 0) (GE.reg_of (by kernel_rfl)) (by kernel_rfl)
theorem q70_3g3 : gd q70_3 3 = some 10 := by kernel_rfl
theorem n70_3s : codeB Try.prog E ⟨f, 15, b, ro⟩ n70_3 st = plainS (runOps Try.prog E b q70_3 (ops [true, false] Try.f70) st) := GE.region_step (id := 1) (GE.reg_of (by kernel_rfl)) (by kernel_rfl)
theorem n70_4s : codeB Try.prog LL ⟨70, 15, b, ro⟩ n70_4 st = normS b ⟨[6], []⟩ .ret st := GE.ret_step (by kernel_rfl) (by kernel_rfl)
theorem n70_2s : codeB Try.prog E cx n70_2 st = thenS (codeB Try.prog E cx n70_3 st) (codeB Try.prog E cx n70_4) := GE.seq_step (by kernel_rfl)
theorem n70_0s : codeB Try.prog E cx n70_0 st = thenS (codeB Try.prog E cx n70_1 st) (codeB Try.prog E cx n70_2) := GE.seq_step (by kernel_rfl)
noncomputable def n71_0 : Code := bodyOf Try.f71
noncomputable def n71_1 : Code := cl n71_0
noncomputable def q71_1 : List Oper := opsOf n71_1
noncomputable def n71_2 : Code := cr n71_0
noncomputable def n71_3 : Code := cl n71_2
noncomputable def q71_3 : List Oper := opsOf n71_3
noncomputable def n71_4 : Code := cr n71_2
theorem body71 : Try.f71.body = some n71_0 := by kernel_rfl
theorem run71 (E : Ev) (args : List Value) (h : List Blk) (hl : args.length ≤ 10) : runB Try.prog E 71 args h = endS Try.prog [.tmp 4] h.length (codeB Try.prog E ⟨71, 10, h.length, none⟩ n71_0 ⟨enumT 0 args, h, []⟩) := GE.run_step Try.func71 body71 (by kernel_rfl) (by decide) (by kernel_rfl) hl
theorem n71_1s : codeB Try.prog E ⟨f, 10, b, ro⟩ n71_1 st = plainS (runOps Try.prog E b q71_1 (ops [false] Try.f71) st) := GE.region_step (id := 0) (GE.reg_of (by kernel_rfl)) (by kernel_rfl)
theorem n71_3s : codeB Try.prog E ⟨f, 10, b, ro⟩ n71_3 st = plainS (runOps Try.prog E b q71_3 (ops [true, false] Try.f71) st) := GE.region_step (id := 1) (GE.reg_of (by kernel_rfl)) (by kernel_rfl)
theorem n71_4s : codeB Try.prog LL ⟨71, 10, b, ro⟩ n71_4 st = normS b ⟨[4], []⟩ .ret st := GE.ret_step (by kernel_rfl) (by kernel_rfl)
theorem n71_2s : codeB Try.prog E cx n71_2 st = thenS (codeB Try.prog E cx n71_3 st) (codeB Try.prog E cx n71_4) := GE.seq_step (by kernel_rfl)
theorem n71_0s : codeB Try.prog E cx n71_0 st = thenS (codeB Try.prog E cx n71_1 st) (codeB Try.prog E cx n71_2) := GE.seq_step (by kernel_rfl)
noncomputable def n74_0 : Code := bodyOf Try.f74
noncomputable def n74_1 : Code := cl n74_0
noncomputable def q74_1 : List Oper := opsOf n74_1
noncomputable def n74_2 : Code := cr n74_0
noncomputable def n74_3 : Code := cl n74_2
noncomputable def q74_3 : List Oper := opsOf n74_3
noncomputable def n74_4 : Code := cr n74_2
theorem body74 : Try.f74.body = some n74_0 := by kernel_rfl
theorem run74 (E : Ev) (args : List Value) (h : List Blk) (hl : args.length ≤ 9) : runB Try.prog E 74 args h = endS Try.prog [.tmp 4] h.length (codeB Try.prog E ⟨74, 9, h.length, none⟩ n74_0 ⟨enumT 0 args, h, []⟩) := GE.run_step Try.func74 body74 (by kernel_rfl) (by decide) (by kernel_rfl) hl
theorem n74_1s : codeB Try.prog E ⟨f, 9, b, ro⟩ n74_1 st = plainS (runOps Try.prog E b q74_1 (ops [false] Try.f74) st) := GE.region_step (id := 0) (GE.reg_of (by kernel_rfl)) (by kernel_rfl)
theorem n74_3s : codeB Try.prog E ⟨f, 9, b, ro⟩ n74_3 st = plainS (runOps Try.prog E b q74_3 (ops [true, false] Try.f74) st) := GE.region_step (id := 1) (GE.reg_of (by kernel_rfl)) (by kernel_rfl)
theorem n74_4s : codeB Try.prog LL ⟨74, 9, b, ro⟩ n74_4 st = normS b ⟨[4], []⟩ .ret st := GE.ret_step (by kernel_rfl) (by kernel_rfl)
theorem n74_2s : codeB Try.prog E cx n74_2 st = thenS (codeB Try.prog E cx n74_3 st) (codeB Try.prog E cx n74_4) := GE.seq_step (by kernel_rfl)
theorem n74_0s : codeB Try.prog E cx n74_0 st = thenS (codeB Try.prog E cx n74_1 st) (codeB Try.prog E cx n74_2) := GE.seq_step (by kernel_rfl)
noncomputable def n75_0 : Code := bodyOf Try.f75
noncomputable def n75_1 : Code := cl n75_0
noncomputable def q75_1 : List Oper := opsOf n75_1
noncomputable def n75_2 : Code := cr n75_0
noncomputable def n75_3 : Code := cl n75_2
noncomputable def q75_3 : List Oper := opsOf n75_3
noncomputable def n75_4 : Code := cr n75_2
theorem body75 : Try.f75.body = some n75_0 := by kernel_rfl
theorem run75 (E : Ev) (args : List Value) (h : List Blk) (hl : args.length ≤ 14) : runB Try.prog E 75 args h = endS Try.prog [.tmp 2] h.length (codeB Try.prog E ⟨75, 14, h.length, none⟩ n75_0 ⟨enumT 0 args, h, []⟩) := GE.run_step Try.func75 body75 (by kernel_rfl) (by decide) (by kernel_rfl) hl
theorem n75_1s : codeB Try.prog E ⟨f, 14, b, ro⟩ n75_1 st = plainS (runOps Try.prog E b q75_1 (ops [false] Try.f75) st) := GE.region_step (id := 0) (GE.reg_of (by kernel_rfl)) (by kernel_rfl)
theorem q75_3g6 : gd q75_3 6 = some 9 := by kernel_rfl
theorem n75_3s : codeB Try.prog E ⟨f, 14, b, ro⟩ n75_3 st = plainS (runOps Try.prog E b q75_3 (ops [true, false] Try.f75) st) := GE.region_step (id := 1) (GE.reg_of (by kernel_rfl)) (by kernel_rfl)
theorem n75_4s : codeB Try.prog LL ⟨75, 14, b, ro⟩ n75_4 st = normS b ⟨[2], []⟩ .ret st := GE.ret_step (by kernel_rfl) (by kernel_rfl)
theorem n75_2s : codeB Try.prog E cx n75_2 st = thenS (codeB Try.prog E cx n75_3 st) (codeB Try.prog E cx n75_4) := GE.seq_step (by kernel_rfl)
theorem n75_0s : codeB Try.prog E cx n75_0 st = thenS (codeB Try.prog E cx n75_1 st) (codeB Try.prog E cx n75_2) := GE.seq_step (by kernel_rfl)
noncomputable def n77_0 : Code := bodyOf Try.f77
noncomputable def n77_1 : Code := cl n77_0
noncomputable def q77_1 : List Oper := opsOf n77_1
noncomputable def n77_2 : Code := cr n77_0
noncomputable def n77_3 : Code := cl n77_2
noncomputable def q77_3 : List Oper := opsOf n77_3
noncomputable def n77_4 : Code := cr n77_2
theorem body77 : Try.f77.body = some n77_0 := by kernel_rfl
theorem run77 (E : Ev) (args : List Value) (h : List Blk) (hl : args.length ≤ 18) : runB Try.prog E 77 args h = endS Try.prog [.tmp 6] h.length (codeB Try.prog E ⟨77, 18, h.length, none⟩ n77_0 ⟨enumT 0 args, h, []⟩) := GE.run_step Try.func77 body77 (by kernel_rfl) (by decide) (by kernel_rfl) hl
theorem n77_1s : codeB Try.prog E ⟨f, 18, b, ro⟩ n77_1 st = plainS (runOps Try.prog E b q77_1 (ops [false] Try.f77) st) := GE.region_step (id := 0) (GE.reg_of (by kernel_rfl)) (by kernel_rfl)
theorem n77_3s : codeB Try.prog E ⟨f, 18, b, ro⟩ n77_3 st = drawS [0, 0, 3, 7, 15, 0, 0, 96, 224, 480, 1023, 2047] (runOpsF Try.prog E b q77_3 (ops [true, false] Try.f77) st) := GE.draw_step (id := 1) (GE.reg_of (by kernel_rfl)) (by kernel_rfl) (by kernel_rfl) (by kernel_rfl)
theorem n77_4s : codeB Try.prog LL ⟨77, 18, b, ro⟩ n77_4 st = normS b ⟨[6], []⟩ .ret st := GE.ret_step (by kernel_rfl) (by kernel_rfl)
theorem n77_2s : codeB Try.prog E cx n77_2 st = thenS (codeB Try.prog E cx n77_3 st) (codeB Try.prog E cx n77_4) := GE.seq_step (by kernel_rfl)
theorem n77_0s : codeB Try.prog E cx n77_0 st = thenS (codeB Try.prog E cx n77_1 st) (codeB Try.prog E cx n77_2) := GE.seq_step (by kernel_rfl)
noncomputable def n78_0 : Code := bodyOf Try.f78
noncomputable def n78_1 : Code := cl n78_0
noncomputable def q78_1 : List Oper := opsOf n78_1
noncomputable def n78_2 : Code := cr n78_0
noncomputable def n78_3 : Code := cl n78_2
noncomputable def q78_3 : List Oper := opsOf n78_3
noncomputable def n78_4 : Code := cr n78_2
theorem body78 : Try.f78.body = some n78_0 := by kernel_rfl
theorem run78 (E : Ev) (args : List Value) (h : List Blk) (hl : args.length ≤ 5) : runB Try.prog E 78 args h = endS Try.prog [.tmp 4] h.length (codeB Try.prog E ⟨78, 5, h.length, none⟩ n78_0 ⟨enumT 0 args, h, []⟩) := GE.run_step Try.func78 body78 (by kernel_rfl) (by decide) (by kernel_rfl) hl
theorem n78_1s : codeB Try.prog E ⟨f, 5, b, ro⟩ n78_1 st = plainS (runOps Try.prog E b q78_1 (ops [false] Try.f78) st) := GE.region_step (id := 0) (GE.reg_of (by kernel_rfl)) (by kernel_rfl)
theorem n78_3s : codeB Try.prog E ⟨f, 5, b, ro⟩ n78_3 st = plainS (runOps Try.prog E b q78_3 (ops [true, false] Try.f78) st) := GE.region_step (id := 1) (GE.reg_of (by kernel_rfl)) (by kernel_rfl)
theorem n78_4s : codeB Try.prog LL ⟨78, 5, b, ro⟩ n78_4 st = normS b ⟨[4], []⟩ .ret st := GE.ret_step (by kernel_rfl) (by kernel_rfl)
theorem n78_2s : codeB Try.prog E cx n78_2 st = thenS (codeB Try.prog E cx n78_3 st) (codeB Try.prog E cx n78_4) := GE.seq_step (by kernel_rfl)
theorem n78_0s : codeB Try.prog E cx n78_0 st = thenS (codeB Try.prog E cx n78_1 st) (codeB Try.prog E cx n78_2) := GE.seq_step (by kernel_rfl)
noncomputable def n80_0 : Code := bodyOf Try.f80
noncomputable def n80_1 : Code := cl n80_0
noncomputable def q80_1 : List Oper := opsOf n80_1
noncomputable def n80_2 : Code := cr n80_0
noncomputable def n80_3 : Code := cl n80_2
noncomputable def q80_3 : List Oper := opsOf n80_3
noncomputable def n80_4 : Code := cr n80_2
noncomputable def n80_5 : Code := cl n80_4
noncomputable def n80_6 : Code := cl n80_5
noncomputable def q80_6 : List Oper := opsOf n80_6
noncomputable def n80_7 : Code := cr n80_5
noncomputable def n80_8 : Code := cl n80_7
noncomputable def n80_9 : Code := cl n80_8
noncomputable def n80_10 : Code := cl n80_9
noncomputable def q80_10 : List Oper := opsOf n80_10
noncomputable def n80_11 : Code := cr n80_9
noncomputable def n80_12 : Code := cl n80_11
noncomputable def n80_13 : Code := cl n80_12
noncomputable def n80_14 : Code := cr n80_12
noncomputable def n80_15 : Code := cr n80_11
noncomputable def n80_16 : Code := cl n80_15
noncomputable def n80_17 : Code := cl n80_16
noncomputable def n80_18 : Code := cl n80_17
noncomputable def q80_18 : List Oper := opsOf n80_18
noncomputable def n80_19 : Code := cr n80_17
noncomputable def n80_20 : Code := cl n80_19
noncomputable def q80_20 : List Oper := opsOf n80_20
noncomputable def n80_21 : Code := cr n80_19
noncomputable def n80_22 : Code := cl n80_21
noncomputable def q80_22 : List Oper := opsOf n80_22
noncomputable def n80_23 : Code := cr n80_21
noncomputable def n80_24 : Code := cr n80_15
noncomputable def q80_24 : List Oper := opsOf n80_24
noncomputable def n80_25 : Code := cr n80_4
noncomputable def n80_26 : Code := cl n80_25
noncomputable def q80_26 : List Oper := opsOf n80_26
noncomputable def n80_27 : Code := cr n80_25
theorem body80 : Try.f80.body = some n80_0 := by kernel_rfl
theorem run80 (E : Ev) (args : List Value) (h : List Blk) (hl : args.length ≤ 35) : runB Try.prog E 80 args h = endS Try.prog [.tmp 5] h.length (codeB Try.prog E ⟨80, 35, h.length, none⟩ n80_0 ⟨enumT 0 args, h, []⟩) := GE.run_step Try.func80 body80 (by kernel_rfl) (by decide) (by kernel_rfl) hl
theorem n80_1s : codeB Try.prog E ⟨f, 35, b, ro⟩ n80_1 st = plainS (runOps Try.prog E b q80_1 (ops [false] Try.f80) st) := GE.region_step (id := 0) (GE.reg_of (by kernel_rfl)) (by kernel_rfl)
theorem n80_3s : codeB Try.prog E ⟨f, 35, b, ro⟩ n80_3 st = plainS (runOps Try.prog E b q80_3 (ops [true, false] Try.f80) st) := GE.region_step (id := 1) (GE.reg_of (by kernel_rfl)) (by kernel_rfl)
theorem n80_6s : codeB Try.prog E ⟨f, 35, b, ro⟩ n80_6 st = plainS (runOps Try.prog E b q80_6 (ops [true, true, false, false] Try.f80) st) := GE.region_step (id := 2) (GE.reg_of (by kernel_rfl)) (by kernel_rfl)
theorem n80_10s : codeB Try.prog E ⟨f, 35, b, ro⟩ n80_10 st = plainS (runOps Try.prog E b q80_10 (ops [true, true, false, true, false, false, false] Try.f80) st) := GE.region_step (id := 3) (GE.reg_of (by kernel_rfl)) (by kernel_rfl)
theorem n80_13s : codeB Try.prog E cx n80_13 st = some (.normal, st) := GE.skip_step (by kernel_rfl)
theorem n80_14s : codeB Try.prog LL ⟨80, 35, b, ro⟩ n80_14 st = normS b ⟨[6], []⟩ (.exit 0) st := GE.exit_step (by kernel_rfl) (by kernel_rfl)
theorem n80_12s : codeB Try.prog E cx n80_12 st = condS (codeB Try.prog E cx n80_13) (codeB Try.prog E cx n80_14) (lk st.σ 11) st := GE.cond_step (c := .tmp 11) (by kernel_rfl)
theorem n80_18s : codeB Try.prog E ⟨f, 35, b, ro⟩ n80_18 st = plainS (runOps Try.prog E b q80_18 (ops [true, true, false, true, false, false, true, true, false, false, false] Try.f80) st) := GE.region_step (id := 4) (GE.reg_of (by kernel_rfl)) (by kernel_rfl)
theorem q80_20g4 : gd q80_20 4 = some 17 := by kernel_rfl
theorem n80_20s : codeB Try.prog E ⟨f, 35, b, ro⟩ n80_20 st = plainS (runOps Try.prog E b q80_20 (ops [true, true, false, true, false, false, true, true, false, false, true, false] Try.f80) st) := GE.region_step (id := 5) (GE.reg_of (by kernel_rfl)) (by kernel_rfl)
theorem n80_22s : codeB Try.prog E ⟨f, 35, b, ro⟩ n80_22 st = drawS [0, 0, 2, 6, 14, 0, 0, 96, 254, 511, 1023] (runOpsF Try.prog E b q80_22 (ops [true, true, false, true, false, false, true, true, false, false, true, true, false] Try.f80) st) := GE.draw_step (id := 6) (GE.reg_of (by kernel_rfl)) (by kernel_rfl) (by kernel_rfl) (by kernel_rfl)
theorem n80_23s : codeB Try.prog E cx n80_23 st = some (.normal, st) := GE.skip_step (by kernel_rfl)
theorem n80_21s : codeB Try.prog E cx n80_21 st = condS (codeB Try.prog E cx n80_22) (codeB Try.prog E cx n80_23) (lk st.σ 22) st := GE.cond_step (c := .tmp 22) (by kernel_rfl)
theorem n80_19s : codeB Try.prog E cx n80_19 st = thenS (codeB Try.prog E cx n80_20 st) (codeB Try.prog E cx n80_21) := GE.seq_step (by kernel_rfl)
theorem n80_17s : codeB Try.prog E cx n80_17 st = thenS (codeB Try.prog E cx n80_18 st) (codeB Try.prog E cx n80_19) := GE.seq_step (by kernel_rfl)
theorem n80_16s : codeB Try.prog E cx n80_16 st = blockS 1 (codeB Try.prog E cx n80_17 st) st := GE.block_step (by kernel_rfl)
theorem n80_24s : codeB Try.prog E ⟨f, 35, b, ro⟩ n80_24 st = plainS (runOps Try.prog E b q80_24 (ops [true, true, false, true, false, false, true, true, true] Try.f80) st) := GE.region_step (id := 7) (GE.reg_of (by kernel_rfl)) (by kernel_rfl)
theorem n80_15s : codeB Try.prog E cx n80_15 st = thenS (codeB Try.prog E cx n80_16 st) (codeB Try.prog E cx n80_24) := GE.seq_step (by kernel_rfl)
theorem n80_11s : codeB Try.prog E cx n80_11 st = thenS (codeB Try.prog E cx n80_12 st) (codeB Try.prog E cx n80_15) := GE.seq_step (by kernel_rfl)
theorem n80_9s : codeB Try.prog E cx n80_9 st = thenS (codeB Try.prog E cx n80_10 st) (codeB Try.prog E cx n80_11) := GE.seq_step (by kernel_rfl)
theorem n80_8k : LL.kp (⟨80, 35, b, ro⟩ : Cx).fn (4 * rid n80_9 + 3) = some ⟨[0, 1, 2, 3, 6, 9, 10], []⟩ := by kernel_rfl
theorem n80_8s : codeB Try.prog LL ⟨80, 35, b, ro⟩ n80_8 st = headS b ⟨[0, 1, 2, 3, 6, 9, 10], []⟩ st (lpB Try.prog LL ⟨80, 35, b, ro⟩ n80_8 n80_9) := GE.lpB_step (by kernel_rfl) (n80_8k b ro)
theorem n80_8g : LL.code ⟨80, 35, b, ro⟩ n80_8 st = headS b ⟨[0, 1, 2, 3, 6, 9, 10], []⟩ st (lpB Try.prog LL ⟨80, 35, b, ro⟩ n80_8 n80_9) := GE.lpB_again (by kernel_rfl) (n80_8k b ro)
theorem n80_7s : codeB Try.prog E cx n80_7 st = blockS 0 (codeB Try.prog E cx n80_8 st) st := GE.block_step (by kernel_rfl)
theorem n80_5s : codeB Try.prog E cx n80_5 st = thenS (codeB Try.prog E cx n80_6 st) (codeB Try.prog E cx n80_7) := GE.seq_step (by kernel_rfl)
theorem n80_26s : codeB Try.prog E ⟨f, 35, b, ro⟩ n80_26 st = plainS (runOps Try.prog E b q80_26 (ops [true, true, true, false] Try.f80) st) := GE.region_step (id := 8) (GE.reg_of (by kernel_rfl)) (by kernel_rfl)
theorem n80_27s : codeB Try.prog LL ⟨80, 35, b, ro⟩ n80_27 st = normS b ⟨[5], []⟩ .ret st := GE.ret_step (by kernel_rfl) (by kernel_rfl)
theorem n80_25s : codeB Try.prog E cx n80_25 st = thenS (codeB Try.prog E cx n80_26 st) (codeB Try.prog E cx n80_27) := GE.seq_step (by kernel_rfl)
theorem n80_4s : codeB Try.prog E cx n80_4 st = thenS (codeB Try.prog E cx n80_5 st) (codeB Try.prog E cx n80_25) := GE.seq_step (by kernel_rfl)
theorem n80_2s : codeB Try.prog E cx n80_2 st = thenS (codeB Try.prog E cx n80_3 st) (codeB Try.prog E cx n80_4) := GE.seq_step (by kernel_rfl)
theorem n80_0s : codeB Try.prog E cx n80_0 st = thenS (codeB Try.prog E cx n80_1 st) (codeB Try.prog E cx n80_2) := GE.seq_step (by kernel_rfl)
noncomputable def n81_0 : Code := bodyOf Try.f81
noncomputable def n81_1 : Code := cl n81_0
noncomputable def q81_1 : List Oper := opsOf n81_1
noncomputable def n81_2 : Code := cr n81_0
noncomputable def n81_3 : Code := cl n81_2
noncomputable def q81_3 : List Oper := opsOf n81_3
noncomputable def n81_4 : Code := cr n81_2
noncomputable def n81_5 : Code := cl n81_4
noncomputable def n81_6 : Code := cl n81_5
noncomputable def q81_6 : List Oper := opsOf n81_6
noncomputable def n81_7 : Code := cr n81_5
noncomputable def n81_8 : Code := cl n81_7
noncomputable def n81_9 : Code := cl n81_8
noncomputable def n81_10 : Code := cl n81_9
noncomputable def q81_10 : List Oper := opsOf n81_10
noncomputable def n81_11 : Code := cr n81_9
noncomputable def n81_12 : Code := cl n81_11
noncomputable def n81_13 : Code := cl n81_12
noncomputable def n81_14 : Code := cr n81_12
noncomputable def n81_15 : Code := cr n81_11
noncomputable def n81_16 : Code := cl n81_15
noncomputable def n81_17 : Code := cl n81_16
noncomputable def n81_18 : Code := cl n81_17
noncomputable def q81_18 : List Oper := opsOf n81_18
noncomputable def n81_19 : Code := cr n81_17
noncomputable def n81_20 : Code := cl n81_19
noncomputable def q81_20 : List Oper := opsOf n81_20
noncomputable def n81_21 : Code := cr n81_19
noncomputable def n81_22 : Code := cl n81_21
noncomputable def q81_22 : List Oper := opsOf n81_22
noncomputable def n81_23 : Code := cr n81_21
noncomputable def n81_24 : Code := cl n81_23
noncomputable def q81_24 : List Oper := opsOf n81_24
noncomputable def n81_25 : Code := cr n81_23
noncomputable def n81_26 : Code := cr n81_15
noncomputable def q81_26 : List Oper := opsOf n81_26
noncomputable def n81_27 : Code := cr n81_4
noncomputable def n81_28 : Code := cl n81_27
noncomputable def q81_28 : List Oper := opsOf n81_28
noncomputable def n81_29 : Code := cr n81_27
theorem body81 : Try.f81.body = some n81_0 := by kernel_rfl
theorem run81 (E : Ev) (args : List Value) (h : List Blk) (hl : args.length ≤ 36) : runB Try.prog E 81 args h = endS Try.prog [.tmp 4] h.length (codeB Try.prog E ⟨81, 36, h.length, none⟩ n81_0 ⟨enumT 0 args, h, []⟩) := GE.run_step Try.func81 body81 (by kernel_rfl) (by decide) (by kernel_rfl) hl
theorem n81_1s : codeB Try.prog E ⟨f, 36, b, ro⟩ n81_1 st = plainS (runOps Try.prog E b q81_1 (ops [false] Try.f81) st) := GE.region_step (id := 0) (GE.reg_of (by kernel_rfl)) (by kernel_rfl)
theorem n81_3s : codeB Try.prog E ⟨f, 36, b, ro⟩ n81_3 st = plainS (runOps Try.prog E b q81_3 (ops [true, false] Try.f81) st) := GE.region_step (id := 1) (GE.reg_of (by kernel_rfl)) (by kernel_rfl)
theorem n81_6s : codeB Try.prog E ⟨f, 36, b, ro⟩ n81_6 st = plainS (runOps Try.prog E b q81_6 (ops [true, true, false, false] Try.f81) st) := GE.region_step (id := 2) (GE.reg_of (by kernel_rfl)) (by kernel_rfl)
theorem n81_10s : codeB Try.prog E ⟨f, 36, b, ro⟩ n81_10 st = plainS (runOps Try.prog E b q81_10 (ops [true, true, false, true, false, false, false] Try.f81) st) := GE.region_step (id := 3) (GE.reg_of (by kernel_rfl)) (by kernel_rfl)
theorem n81_13s : codeB Try.prog E cx n81_13 st = some (.normal, st) := GE.skip_step (by kernel_rfl)
theorem n81_14s : codeB Try.prog LL ⟨81, 36, b, ro⟩ n81_14 st = normS b ⟨[5], []⟩ (.exit 0) st := GE.exit_step (by kernel_rfl) (by kernel_rfl)
theorem n81_12s : codeB Try.prog E cx n81_12 st = condS (codeB Try.prog E cx n81_13) (codeB Try.prog E cx n81_14) (lk st.σ 11) st := GE.cond_step (c := .tmp 11) (by kernel_rfl)
theorem n81_18s : codeB Try.prog E ⟨f, 36, b, ro⟩ n81_18 st = plainS (runOps Try.prog E b q81_18 (ops [true, true, false, true, false, false, true, true, false, false, false] Try.f81) st) := GE.region_step (id := 4) (GE.reg_of (by kernel_rfl)) (by kernel_rfl)
theorem n81_20s : codeB Try.prog E ⟨f, 36, b, ro⟩ n81_20 st = plainS (runOps Try.prog E b q81_20 (ops [true, true, false, true, false, false, true, true, false, false, true, false] Try.f81) st) := GE.region_step (id := 5) (GE.reg_of (by kernel_rfl)) (by kernel_rfl)
theorem q81_22g3 : gd q81_22 3 = some 20 := by kernel_rfl
theorem n81_22s : codeB Try.prog E ⟨f, 36, b, ro⟩ n81_22 st = plainS (runOps Try.prog E b q81_22 (ops [true, true, false, true, false, false, true, true, false, false, true, true, false] Try.f81) st) := GE.region_step (id := 6) (GE.reg_of (by kernel_rfl)) (by kernel_rfl)
theorem n81_24s : codeB Try.prog E ⟨f, 36, b, ro⟩ n81_24 st = plainS (runOps Try.prog E b q81_24 (ops [true, true, false, true, false, false, true, true, false, false, true, true, true, false] Try.f81) st) := GE.region_step (id := 7) (GE.reg_of (by kernel_rfl)) (by kernel_rfl)
theorem n81_25s : codeB Try.prog E cx n81_25 st = some (.normal, st) := GE.skip_step (by kernel_rfl)
theorem n81_23s : codeB Try.prog E cx n81_23 st = condS (codeB Try.prog E cx n81_24) (codeB Try.prog E cx n81_25) (lk st.σ 25) st := GE.cond_step (c := .tmp 25) (by kernel_rfl)
theorem n81_21s : codeB Try.prog E cx n81_21 st = thenS (codeB Try.prog E cx n81_22 st) (codeB Try.prog E cx n81_23) := GE.seq_step (by kernel_rfl)
theorem n81_19s : codeB Try.prog E cx n81_19 st = thenS (codeB Try.prog E cx n81_20 st) (codeB Try.prog E cx n81_21) := GE.seq_step (by kernel_rfl)
theorem n81_17s : codeB Try.prog E cx n81_17 st = thenS (codeB Try.prog E cx n81_18 st) (codeB Try.prog E cx n81_19) := GE.seq_step (by kernel_rfl)
theorem n81_16s : codeB Try.prog E cx n81_16 st = blockS 1 (codeB Try.prog E cx n81_17 st) st := GE.block_step (by kernel_rfl)
theorem n81_26s : codeB Try.prog E ⟨f, 36, b, ro⟩ n81_26 st = plainS (runOps Try.prog E b q81_26 (ops [true, true, false, true, false, false, true, true, true] Try.f81) st) := GE.region_step (id := 8) (GE.reg_of (by kernel_rfl)) (by kernel_rfl)
theorem n81_15s : codeB Try.prog E cx n81_15 st = thenS (codeB Try.prog E cx n81_16 st) (codeB Try.prog E cx n81_26) := GE.seq_step (by kernel_rfl)
theorem n81_11s : codeB Try.prog E cx n81_11 st = thenS (codeB Try.prog E cx n81_12 st) (codeB Try.prog E cx n81_15) := GE.seq_step (by kernel_rfl)
theorem n81_9s : codeB Try.prog E cx n81_9 st = thenS (codeB Try.prog E cx n81_10 st) (codeB Try.prog E cx n81_11) := GE.seq_step (by kernel_rfl)
theorem n81_8k : LL.kp (⟨81, 36, b, ro⟩ : Cx).fn (4 * rid n81_9 + 3) = some ⟨[0, 1, 2, 5, 9, 10], []⟩ := by kernel_rfl
theorem n81_8s : codeB Try.prog LL ⟨81, 36, b, ro⟩ n81_8 st = headS b ⟨[0, 1, 2, 5, 9, 10], []⟩ st (lpB Try.prog LL ⟨81, 36, b, ro⟩ n81_8 n81_9) := GE.lpB_step (by kernel_rfl) (n81_8k b ro)
theorem n81_8g : LL.code ⟨81, 36, b, ro⟩ n81_8 st = headS b ⟨[0, 1, 2, 5, 9, 10], []⟩ st (lpB Try.prog LL ⟨81, 36, b, ro⟩ n81_8 n81_9) := GE.lpB_again (by kernel_rfl) (n81_8k b ro)
theorem n81_7s : codeB Try.prog E cx n81_7 st = blockS 0 (codeB Try.prog E cx n81_8 st) st := GE.block_step (by kernel_rfl)
theorem n81_5s : codeB Try.prog E cx n81_5 st = thenS (codeB Try.prog E cx n81_6 st) (codeB Try.prog E cx n81_7) := GE.seq_step (by kernel_rfl)
theorem n81_28s : codeB Try.prog E ⟨f, 36, b, ro⟩ n81_28 st = plainS (runOps Try.prog E b q81_28 (ops [true, true, true, false] Try.f81) st) := GE.region_step (id := 9) (GE.reg_of (by kernel_rfl)) (by kernel_rfl)
theorem n81_29s : codeB Try.prog LL ⟨81, 36, b, ro⟩ n81_29 st = normS b ⟨[4], []⟩ .ret st := GE.ret_step (by kernel_rfl) (by kernel_rfl)
theorem n81_27s : codeB Try.prog E cx n81_27 st = thenS (codeB Try.prog E cx n81_28 st) (codeB Try.prog E cx n81_29) := GE.seq_step (by kernel_rfl)
theorem n81_4s : codeB Try.prog E cx n81_4 st = thenS (codeB Try.prog E cx n81_5 st) (codeB Try.prog E cx n81_27) := GE.seq_step (by kernel_rfl)
theorem n81_2s : codeB Try.prog E cx n81_2 st = thenS (codeB Try.prog E cx n81_3 st) (codeB Try.prog E cx n81_4) := GE.seq_step (by kernel_rfl)
theorem n81_0s : codeB Try.prog E cx n81_0 st = thenS (codeB Try.prog E cx n81_1 st) (codeB Try.prog E cx n81_2) := GE.seq_step (by kernel_rfl)
noncomputable def n82_0 : Code := bodyOf Try.f82
noncomputable def n82_1 : Code := cl n82_0
noncomputable def q82_1 : List Oper := opsOf n82_1
noncomputable def n82_2 : Code := cr n82_0
noncomputable def n82_3 : Code := cl n82_2
noncomputable def n82_4 : Code := cl n82_3
noncomputable def q82_4 : List Oper := opsOf n82_4
noncomputable def n82_5 : Code := cr n82_3
noncomputable def n82_6 : Code := cl n82_5
noncomputable def n82_7 : Code := cl n82_6
noncomputable def n82_8 : Code := cl n82_7
noncomputable def q82_8 : List Oper := opsOf n82_8
noncomputable def n82_9 : Code := cr n82_7
noncomputable def n82_10 : Code := cl n82_9
noncomputable def n82_11 : Code := cl n82_10
noncomputable def n82_12 : Code := cr n82_10
noncomputable def n82_13 : Code := cr n82_9
noncomputable def n82_14 : Code := cl n82_13
noncomputable def n82_15 : Code := cl n82_14
noncomputable def n82_16 : Code := cl n82_15
noncomputable def q82_16 : List Oper := opsOf n82_16
noncomputable def n82_17 : Code := cr n82_15
noncomputable def n82_18 : Code := cl n82_17
noncomputable def q82_18 : List Oper := opsOf n82_18
noncomputable def n82_19 : Code := cr n82_17
noncomputable def n82_20 : Code := cl n82_19
noncomputable def n82_21 : Code := cl n82_20
noncomputable def q82_21 : List Oper := opsOf n82_21
noncomputable def n82_22 : Code := cr n82_20
noncomputable def n82_23 : Code := cr n82_19
noncomputable def n82_24 : Code := cr n82_13
noncomputable def q82_24 : List Oper := opsOf n82_24
noncomputable def n82_25 : Code := cr n82_2
noncomputable def n82_26 : Code := cl n82_25
noncomputable def q82_26 : List Oper := opsOf n82_26
noncomputable def n82_27 : Code := cr n82_25
theorem body82 : Try.f82.body = some n82_0 := by kernel_rfl
theorem run82 (E : Ev) (args : List Value) (h : List Blk) (hl : args.length ≤ 19) : runB Try.prog E 82 args h = endS Try.prog [.tmp 4] h.length (codeB Try.prog E ⟨82, 19, h.length, none⟩ n82_0 ⟨enumT 0 args, h, []⟩) := GE.run_step Try.func82 body82 (by kernel_rfl) (by decide) (by kernel_rfl) hl
theorem n82_1s : codeB Try.prog E ⟨f, 19, b, ro⟩ n82_1 st = plainS (runOps Try.prog E b q82_1 (ops [false] Try.f82) st) := GE.region_step (id := 0) (GE.reg_of (by kernel_rfl)) (by kernel_rfl)
theorem n82_4s : codeB Try.prog E ⟨f, 19, b, ro⟩ n82_4 st = plainS (runOps Try.prog E b q82_4 (ops [true, false, false] Try.f82) st) := GE.region_step (id := 1) (GE.reg_of (by kernel_rfl)) (by kernel_rfl)
theorem n82_8s : codeB Try.prog E ⟨f, 19, b, ro⟩ n82_8 st = plainS (runOps Try.prog E b q82_8 (ops [true, false, true, false, false, false] Try.f82) st) := GE.region_step (id := 2) (GE.reg_of (by kernel_rfl)) (by kernel_rfl)
theorem n82_11s : codeB Try.prog E cx n82_11 st = some (.normal, st) := GE.skip_step (by kernel_rfl)
theorem n82_12s : codeB Try.prog LL ⟨82, 19, b, ro⟩ n82_12 st = normS b ⟨[], []⟩ (.exit 0) st := GE.exit_step (by kernel_rfl) (by kernel_rfl)
theorem n82_10s : codeB Try.prog E cx n82_10 st = condS (codeB Try.prog E cx n82_11) (codeB Try.prog E cx n82_12) (lk st.σ 9) st := GE.cond_step (c := .tmp 9) (by kernel_rfl)
theorem n82_16s : codeB Try.prog E ⟨f, 19, b, ro⟩ n82_16 st = plainS (runOps Try.prog E b q82_16 (ops [true, false, true, false, false, true, true, false, false, false] Try.f82) st) := GE.region_step (id := 3) (GE.reg_of (by kernel_rfl)) (by kernel_rfl)
theorem n82_18s : codeB Try.prog E ⟨f, 19, b, ro⟩ n82_18 st = plainS (runOps Try.prog E b q82_18 (ops [true, false, true, false, false, true, true, false, false, true, false] Try.f82) st) := GE.region_step (id := 4) (GE.reg_of (by kernel_rfl)) (by kernel_rfl)
theorem n82_21s : codeB Try.prog E ⟨f, 19, b, ro⟩ n82_21 st = plainS (runOps Try.prog E b q82_21 (ops [true, false, true, false, false, true, true, false, false, true, true, false, false] Try.f82) st) := GE.region_step (id := 5) (GE.reg_of (by kernel_rfl)) (by kernel_rfl)
theorem n82_22s : codeB Try.prog LL ⟨82, 19, b, ro⟩ n82_22 st = normS b ⟨[4], []⟩ .ret st := GE.ret_step (by kernel_rfl) (by kernel_rfl)
theorem n82_20s : codeB Try.prog E cx n82_20 st = thenS (codeB Try.prog E cx n82_21 st) (codeB Try.prog E cx n82_22) := GE.seq_step (by kernel_rfl)
theorem n82_23s : codeB Try.prog E cx n82_23 st = some (.normal, st) := GE.skip_step (by kernel_rfl)
theorem n82_19s : codeB Try.prog E cx n82_19 st = condS (codeB Try.prog E cx n82_20) (codeB Try.prog E cx n82_23) (lk st.σ 16) st := GE.cond_step (c := .tmp 16) (by kernel_rfl)
theorem n82_17s : codeB Try.prog E cx n82_17 st = thenS (codeB Try.prog E cx n82_18 st) (codeB Try.prog E cx n82_19) := GE.seq_step (by kernel_rfl)
theorem n82_15s : codeB Try.prog E cx n82_15 st = thenS (codeB Try.prog E cx n82_16 st) (codeB Try.prog E cx n82_17) := GE.seq_step (by kernel_rfl)
theorem n82_14s : codeB Try.prog E cx n82_14 st = blockS 1 (codeB Try.prog E cx n82_15 st) st := GE.block_step (by kernel_rfl)
theorem n82_24s : codeB Try.prog E ⟨f, 19, b, ro⟩ n82_24 st = plainS (runOps Try.prog E b q82_24 (ops [true, false, true, false, false, true, true, true] Try.f82) st) := GE.region_step (id := 6) (GE.reg_of (by kernel_rfl)) (by kernel_rfl)
theorem n82_13s : codeB Try.prog E cx n82_13 st = thenS (codeB Try.prog E cx n82_14 st) (codeB Try.prog E cx n82_24) := GE.seq_step (by kernel_rfl)
theorem n82_9s : codeB Try.prog E cx n82_9 st = thenS (codeB Try.prog E cx n82_10 st) (codeB Try.prog E cx n82_13) := GE.seq_step (by kernel_rfl)
theorem n82_7s : codeB Try.prog E cx n82_7 st = thenS (codeB Try.prog E cx n82_8 st) (codeB Try.prog E cx n82_9) := GE.seq_step (by kernel_rfl)
theorem n82_6k : LL.kp (⟨82, 19, b, ro⟩ : Cx).fn (4 * rid n82_7 + 3) = some ⟨[0, 1, 7, 8], [⟨0, 0, 2, true⟩]⟩ := by kernel_rfl
theorem n82_6s : codeB Try.prog LL ⟨82, 19, b, ro⟩ n82_6 st = headS b ⟨[0, 1, 7, 8], [⟨0, 0, 2, true⟩]⟩ st (lpB Try.prog LL ⟨82, 19, b, ro⟩ n82_6 n82_7) := GE.lpB_step (by kernel_rfl) (n82_6k b ro)
theorem n82_6g : LL.code ⟨82, 19, b, ro⟩ n82_6 st = headS b ⟨[0, 1, 7, 8], [⟨0, 0, 2, true⟩]⟩ st (lpB Try.prog LL ⟨82, 19, b, ro⟩ n82_6 n82_7) := GE.lpB_again (by kernel_rfl) (n82_6k b ro)
theorem n82_5s : codeB Try.prog E cx n82_5 st = blockS 0 (codeB Try.prog E cx n82_6 st) st := GE.block_step (by kernel_rfl)
theorem n82_3s : codeB Try.prog E cx n82_3 st = thenS (codeB Try.prog E cx n82_4 st) (codeB Try.prog E cx n82_5) := GE.seq_step (by kernel_rfl)
theorem n82_26s : codeB Try.prog E ⟨f, 19, b, ro⟩ n82_26 st = plainS (runOps Try.prog E b q82_26 (ops [true, true, false] Try.f82) st) := GE.region_step (id := 7) (GE.reg_of (by kernel_rfl)) (by kernel_rfl)
theorem n82_27s : codeB Try.prog LL ⟨82, 19, b, ro⟩ n82_27 st = normS b ⟨[4], []⟩ .ret st := GE.ret_step (by kernel_rfl) (by kernel_rfl)
theorem n82_25s : codeB Try.prog E cx n82_25 st = thenS (codeB Try.prog E cx n82_26 st) (codeB Try.prog E cx n82_27) := GE.seq_step (by kernel_rfl)
theorem n82_2s : codeB Try.prog E cx n82_2 st = thenS (codeB Try.prog E cx n82_3 st) (codeB Try.prog E cx n82_25) := GE.seq_step (by kernel_rfl)
theorem n82_0s : codeB Try.prog E cx n82_0 st = thenS (codeB Try.prog E cx n82_1 st) (codeB Try.prog E cx n82_2) := GE.seq_step (by kernel_rfl)
theorem lk_22 : lenK Try.prog 22 = some .sl := by kernel_rfl
theorem za_42 : zeroA Try.prog 42 = some (.agg #[(.int .i64 (0)), (.int .i64 (0))]) := by kernel_rfl
theorem sz_42 : aggSize Try.prog 42 = some 2 := by kernel_rfl
theorem ia_42 : aggK Try.prog 42 = some (true, 2) := by kernel_rfl
theorem lk_94 : lenK Try.prog 94 = some .sl := by kernel_rfl
theorem lk_24 : lenK Try.prog 24 = some .sl := by kernel_rfl
theorem es_24 : elemK Try.prog 24 = some (none, 1) := by kernel_rfl
theorem ia_3 : aggK Try.prog 3 = some (false, 1) := by kernel_rfl
theorem pl_42 : plK Try.prog 42 = some [(0, 1), (1, 1)] := by kernel_rfl
theorem es_94 : elemK Try.prog 94 = some (none, 1) := by kernel_rfl
theorem ia_77 : aggK Try.prog 77 = some (false, 1) := by kernel_rfl
theorem fa_90_0 : fieldAt Try.prog 90 0 = some (0, 1) := by kernel_rfl
theorem ia_78 : aggK Try.prog 78 = some (false, 1) := by kernel_rfl
theorem fa_90_2 : fieldAt Try.prog 90 2 = some (2, 1) := by kernel_rfl
theorem ia_88 : aggK Try.prog 88 = some (false, 1) := by kernel_rfl
theorem fa_90_1 : fieldAt Try.prog 90 1 = some (1, 1) := by kernel_rfl
theorem es_22 : elemK Try.prog 22 = some (none, 2) := by kernel_rfl
theorem fa_55_0 : fieldAt Try.prog 55 0 = some (0, 1) := by kernel_rfl
theorem fa_55_1 : fieldAt Try.prog 55 1 = some (1, 1) := by kernel_rfl
theorem lk_78 : lenK Try.prog 78 = some .sl := by kernel_rfl
theorem fa_110_0 : fieldAt Try.prog 110 0 = some (0, 1) := by kernel_rfl
theorem ia_108 : aggK Try.prog 108 = some (false, 1) := by kernel_rfl
theorem fa_110_1 : fieldAt Try.prog 110 1 = some (1, 1) := by kernel_rfl
theorem ia_91 : aggK Try.prog 91 = some (false, 1) := by kernel_rfl
theorem sz_3 : aggSize Try.prog 3 = some 1 := by kernel_rfl
theorem ze_94 : zeroE Try.prog 94 = some (.int .u32 (0)) := by kernel_rfl
theorem ba_94_1 : baseArr (Value.cells (.int .u32 (0))) (1 * 1) = #[(.int .u32 (0))] := by kernel_rfl
theorem ap_94 : apK Try.prog 94 = some (1, 4) := by kernel_rfl
theorem ni_94 : notInt Try.prog 94 = true := by kernel_rfl
theorem za_90 : zeroA Try.prog 90 = some (.agg #[(.slice none 0 0), (.pointer none), (.pointer none)]) := by kernel_rfl
theorem pl_90 : plK Try.prog 90 = some [(0, 1), (1, 1), (2, 1)] := by kernel_rfl
theorem za_85 : zeroA Try.prog 85 = some (.pointer none) := by kernel_rfl
theorem sz_85 : aggSize Try.prog 85 = some 1 := by kernel_rfl
theorem ia_85 : aggK Try.prog 85 = some (false, 1) := by kernel_rfl
theorem za_110 : zeroA Try.prog 110 = some (.agg #[(.map none), .nilFunc]) := by kernel_rfl
theorem pl_110 : plK Try.prog 110 = some [(0, 1), (1, 1)] := by kernel_rfl
theorem sz_88 : aggSize Try.prog 88 = some 1 := by kernel_rfl
theorem es_78 : elemK Try.prog 78 = some (none, 2) := by kernel_rfl
theorem ia_79 : aggK Try.prog 79 = some (false, 1) := by kernel_rfl
theorem ia_55 : aggK Try.prog 55 = some (true, 2) := by kernel_rfl

end Go.Proofs.Ytfccmddkblbeoaa.rk
