/-
  Names for the nodes of the code of some functions (projections of their bodies), the step of each node, and the facts of types that they use.
-/
import Derived.Test.YtfccmddkblbeoaaKp
namespace Go.Proofs.Ytfccmddkblbeoaa.rk
open Go.GE
set_option maxRecDepth 100000
variable (E : Ev) (cx : Cx) (st : St) (f nt b : Nat) (ro : Option Nat)
noncomputable def n4_0 : Code := bodyOf Try.f4
noncomputable def n4_1 : Code := cl n4_0
noncomputable def q4_1 : List Oper := opsOf n4_1
noncomputable def n4_2 : Code := cr n4_0
noncomputable def n4_3 : Code := cl n4_2
noncomputable def n4_4 : Code := cl n4_3
noncomputable def q4_4 : List Oper := opsOf n4_4
noncomputable def n4_5 : Code := cr n4_3
noncomputable def n4_6 : Code := cl n4_5
noncomputable def n4_7 : Code := cl n4_6
noncomputable def q4_7 : List Oper := opsOf n4_7
noncomputable def n4_8 : Code := cr n4_6
noncomputable def n4_9 : Code := cr n4_5
noncomputable def n4_10 : Code := cr n4_2
noncomputable def n4_11 : Code := cl n4_10
noncomputable def q4_11 : List Oper := opsOf n4_11
noncomputable def n4_12 : Code := cr n4_10
noncomputable def n4_13 : Code := cl n4_12
noncomputable def q4_13 : List Oper := opsOf n4_13
noncomputable def n4_14 : Code := cr n4_12
noncomputable def n4_15 : Code := cl n4_14
noncomputable def q4_15 : List Oper := opsOf n4_15
noncomputable def n4_16 : Code := cr n4_14
noncomputable def n4_17 : Code := cl n4_16
noncomputable def q4_17 : List Oper := opsOf n4_17
noncomputable def n4_18 : Code := cr n4_16
noncomputable def n4_19 : Code := cl n4_18
noncomputable def q4_19 : List Oper := opsOf n4_19
noncomputable def n4_20 : Code := cr n4_18
noncomputable def n4_21 : Code := cl n4_20
noncomputable def q4_21 : List Oper := opsOf n4_21
noncomputable def n4_22 : Code := cr n4_20
noncomputable def n4_23 : Code := cl n4_22
noncomputable def q4_23 : List Oper := opsOf n4_23
noncomputable def n4_24 : Code := cr n4_22
theorem body4 : Try.f4.body = some n4_0 := by kernel_rfl
theorem run4 (E : Ev) (args : List Value) (h : List Blk) (hl : args.length ≤ 103) : runB Try.prog E 4 args h = endS Try.prog [.tmp 6] h.length (codeB Try.prog E ⟨4, 103, h.length, none⟩ n4_0 ⟨enumT 0 args, h, []⟩) := GE.run_step Try.func4 body4 (by kernel_rfl) (by decide) (by kernel_rfl) hl
theorem n4_1s : codeB Try.prog E ⟨f, 103, b, ro⟩ n4_1 st = plainS (runOps Try.prog E b q4_1 (ops [false] Try.f4) st) := GE.region_step (id := 0) (GE.reg_of (by kernel_rfl)) (by kernel_rfl)
theorem q4_4g3 : gd q4_4 3 = some 22 := by kernel_rfl
theorem q4_4g8 : gd q4_4 8 = some 27 := by kernel_rfl
theorem q4_4g13 : gd q4_4 13 = some 32 := by kernel_rfl
theorem n4_4s : codeB Try.prog E ⟨f, 103, b, ro⟩ n4_4 st = plainS (runOps Try.prog E b q4_4 (ops [true, false, false] Try.f4) st) := GE.region_step (id := 1) (GE.reg_of (by kernel_rfl)) (by kernel_rfl)
theorem n4_7s : codeB Try.prog E ⟨f, 103, b, ro⟩ n4_7 st = plainS (runOps Try.prog E b q4_7 (ops [true, false, true, false, false] Try.f4) st) := GE.region_step (id := 2) (GE.reg_of (by kernel_rfl)) (by kernel_rfl)
theorem n4_8s : codeB Try.prog LL ⟨4, 103, b, ro⟩ n4_8 st = normS b ⟨[6], []⟩ .ret st := GE.ret_step (by kernel_rfl) (by kernel_rfl)
theorem n4_6s : codeB Try.prog E cx n4_6 st = thenS (codeB Try.prog E cx n4_7 st) (codeB Try.prog E cx n4_8) := GE.seq_step (by kernel_rfl)
theorem n4_9s : codeB Try.prog E cx n4_9 st = some (.normal, st) := GE.skip_step (by kernel_rfl)
theorem n4_5s : codeB Try.prog E cx n4_5 st = condS (codeB Try.prog E cx n4_6) (codeB Try.prog E cx n4_9) (lk st.σ 36) st := GE.cond_step (c := .tmp 36) (by kernel_rfl)
theorem n4_3s : codeB Try.prog E cx n4_3 st = thenS (codeB Try.prog E cx n4_4 st) (codeB Try.prog E cx n4_5) := GE.seq_step (by kernel_rfl)
theorem n4_11s : codeB Try.prog E ⟨f, 103, b, ro⟩ n4_11 st = plainS (runOps Try.prog E b q4_11 (ops [true, true, false] Try.f4) st) := GE.region_step (id := 3) (GE.reg_of (by kernel_rfl)) (by kernel_rfl)
theorem n4_13s : codeB Try.prog E ⟨f, 103, b, ro⟩ n4_13 st = plainS (runOps Try.prog E b q4_13 (ops [true, true, true, false] Try.f4) st) := GE.region_step (id := 4) (GE.reg_of (by kernel_rfl)) (by kernel_rfl)
theorem n4_15s : codeB Try.prog E ⟨f, 103, b, ro⟩ n4_15 st = plainS (runOps Try.prog E b q4_15 (ops [true, true, true, true, false] Try.f4) st) := GE.region_step (id := 5) (GE.reg_of (by kernel_rfl)) (by kernel_rfl)
theorem n4_17s : codeB Try.prog E ⟨f, 103, b, ro⟩ n4_17 st = plainS (runOps Try.prog E b q4_17 (ops [true, true, true, true, true, false] Try.f4) st) := GE.region_step (id := 6) (GE.reg_of (by kernel_rfl)) (by kernel_rfl)
theorem n4_19s : codeB Try.prog E ⟨f, 103, b, ro⟩ n4_19 st = plainS (runOps Try.prog E b q4_19 (ops [true, true, true, true, true, true, false] Try.f4) st) := GE.region_step (id := 7) (GE.reg_of (by kernel_rfl)) (by kernel_rfl)
theorem n4_21s : codeB Try.prog E ⟨f, 103, b, ro⟩ n4_21 st = plainS (runOps Try.prog E b q4_21 (ops [true, true, true, true, true, true, true, false] Try.f4) st) := GE.region_step (id := 8) (GE.reg_of (by kernel_rfl)) (by kernel_rfl)
theorem q4_23g3 : gd q4_23 3 = some 75 := by kernel_rfl
theorem q4_23g8 : gd q4_23 8 = some 80 := by kernel_rfl
theorem q4_23g13 : gd q4_23 13 = some 85 := by kernel_rfl
theorem q4_23g18 : gd q4_23 18 = some 90 := by kernel_rfl
theorem q4_23g23 : gd q4_23 23 = some 95 := by kernel_rfl
theorem q4_23g28 : gd q4_23 28 = some 100 := by kernel_rfl
theorem n4_23s : codeB Try.prog E ⟨f, 103, b, ro⟩ n4_23 st = plainS (runOps Try.prog E b q4_23 (ops [true, true, true, true, true, true, true, true, false] Try.f4) st) := GE.region_step (id := 9) (GE.reg_of (by kernel_rfl)) (by kernel_rfl)
theorem n4_24s : codeB Try.prog LL ⟨4, 103, b, ro⟩ n4_24 st = normS b ⟨[6], []⟩ .ret st := GE.ret_step (by kernel_rfl) (by kernel_rfl)
theorem n4_22s : codeB Try.prog E cx n4_22 st = thenS (codeB Try.prog E cx n4_23 st) (codeB Try.prog E cx n4_24) := GE.seq_step (by kernel_rfl)
theorem n4_20s : codeB Try.prog E cx n4_20 st = thenS (codeB Try.prog E cx n4_21 st) (codeB Try.prog E cx n4_22) := GE.seq_step (by kernel_rfl)
theorem n4_18s : codeB Try.prog E cx n4_18 st = thenS (codeB Try.prog E cx n4_19 st) (codeB Try.prog E cx n4_20) := GE.seq_step (by kernel_rfl)
theorem n4_16s : codeB Try.prog E cx n4_16 st = thenS (codeB Try.prog E cx n4_17 st) (codeB Try.prog E cx n4_18) := GE.seq_step (by kernel_rfl)
theorem n4_14s : codeB Try.prog E cx n4_14 st = thenS (codeB Try.prog E cx n4_15 st) (codeB Try.prog E cx n4_16) := GE.seq_step (by kernel_rfl)
theorem n4_12s : codeB Try.prog E cx n4_12 st = thenS (codeB Try.prog E cx n4_13 st) (codeB Try.prog E cx n4_14) := GE.seq_step (by kernel_rfl)
theorem n4_10s : codeB Try.prog E cx n4_10 st = thenS (codeB Try.prog E cx n4_11 st) (codeB Try.prog E cx n4_12) := GE.seq_step (by kernel_rfl)
theorem n4_2s : codeB Try.prog E cx n4_2 st = thenS (codeB Try.prog E cx n4_3 st) (codeB Try.prog E cx n4_10) := GE.seq_step (by kernel_rfl)
theorem n4_0s : codeB Try.prog E cx n4_0 st = thenS (codeB Try.prog E cx n4_1 st) (codeB Try.prog E cx n4_2) := GE.seq_step (by kernel_rfl)
noncomputable def n21_0 : Code := bodyOf Try.f21
noncomputable def n21_1 : Code := cl n21_0
noncomputable def q21_1 : List Oper := opsOf n21_1
noncomputable def n21_2 : Code := cr n21_0
noncomputable def n21_3 : Code := cl n21_2
noncomputable def n21_4 : Code := cl n21_3
noncomputable def q21_4 : List Oper := opsOf n21_4
noncomputable def n21_5 : Code := cr n21_3
noncomputable def n21_6 : Code := cl n21_5
noncomputable def n21_7 : Code := cl n21_6
noncomputable def q21_7 : List Oper := opsOf n21_7
noncomputable def n21_8 : Code := cr n21_6
noncomputable def n21_9 : Code := cr n21_5
noncomputable def n21_10 : Code := cr n21_2
noncomputable def n21_11 : Code := cl n21_10
noncomputable def n21_12 : Code := cl n21_11
noncomputable def q21_12 : List Oper := opsOf n21_12
noncomputable def n21_13 : Code := cr n21_11
noncomputable def n21_14 : Code := cl n21_13
noncomputable def n21_15 : Code := cl n21_14
noncomputable def n21_16 : Code := cl n21_15
noncomputable def n21_17 : Code := cl n21_16
noncomputable def q21_17 : List Oper := opsOf n21_17
noncomputable def n21_18 : Code := cr n21_16
noncomputable def n21_19 : Code := cl n21_18
noncomputable def n21_20 : Code := cr n21_18
noncomputable def n21_21 : Code := cr n21_15
noncomputable def n21_22 : Code := cl n21_21
noncomputable def n21_23 : Code := cl n21_22
noncomputable def n21_24 : Code := cl n21_23
noncomputable def q21_24 : List Oper := opsOf n21_24
noncomputable def n21_25 : Code := cr n21_23
noncomputable def n21_26 : Code := cl n21_25
noncomputable def n21_27 : Code := cl n21_26
noncomputable def q21_27 : List Oper := opsOf n21_27
noncomputable def n21_28 : Code := cr n21_26
noncomputable def n21_29 : Code := cr n21_25
noncomputable def n21_30 : Code := cr n21_21
noncomputable def q21_30 : List Oper := opsOf n21_30
noncomputable def n21_31 : Code := cr n21_10
noncomputable def n21_32 : Code := cl n21_31
noncomputable def q21_32 : List Oper := opsOf n21_32
noncomputable def n21_33 : Code := cr n21_31
theorem body21 : Try.f21.body = some n21_0 := by kernel_rfl
theorem run21 (E : Ev) (args : List Value) (h : List Blk) (hl : args.length ≤ 26) : runB Try.prog E 21 args h = endS Try.prog [.tmp 4] h.length (codeB Try.prog E ⟨21, 26, h.length, none⟩ n21_0 ⟨enumT 0 args, h, []⟩) := GE.run_step Try.func21 body21 (by kernel_rfl) (by decide) (by kernel_rfl) hl
theorem n21_1s : codeB Try.prog E ⟨f, 26, b, ro⟩ n21_1 st = plainS (runOps Try.prog E b q21_1 (ops [false] Try.f21) st) := GE.region_step (id := 0) (GE.reg_of (by kernel_rfl)) (by kernel_rfl)
theorem n21_4s : codeB Try.prog E ⟨f, 26, b, ro⟩ n21_4 st = plainS (runOps Try.prog E b q21_4 (ops [true, false, false] Try.f21) st) := GE.region_step (id := 1) (GE.reg_of (by kernel_rfl)) (by kernel_rfl)
theorem n21_7s : codeB Try.prog E ⟨f, 26, b, ro⟩ n21_7 st = plainS (runOps Try.prog E b q21_7 (ops [true, false, true, false, false] Try.f21) st) := GE.region_step (id := 2) (GE.reg_of (by kernel_rfl)) (by kernel_rfl)
theorem n21_8s : codeB Try.prog LL ⟨21, 26, b, ro⟩ n21_8 st = normS b ⟨[4], []⟩ .ret st := GE.ret_step (by kernel_rfl) (by kernel_rfl)
theorem n21_6s : codeB Try.prog E cx n21_6 st = thenS (codeB Try.prog E cx n21_7 st) (codeB Try.prog E cx n21_8) := GE.seq_step (by kernel_rfl)
theorem n21_9s : codeB Try.prog E cx n21_9 st = some (.normal, st) := GE.skip_step (by kernel_rfl)
theorem n21_5s : codeB Try.prog E cx n21_5 st = condS (codeB Try.prog E cx n21_6) (codeB Try.prog E cx n21_9) (lk st.σ 10) st := GE.cond_step (c := .tmp 10) (by kernel_rfl)
theorem n21_3s : codeB Try.prog E cx n21_3 st = thenS (codeB Try.prog E cx n21_4 st) (codeB Try.prog E cx n21_5) := GE.seq_step (by kernel_rfl)
theorem n21_12s : codeB Try.prog E ⟨f, 26, b, ro⟩ n21_12 st = plainS (runOps Try.prog E b q21_12 (ops [true, true, false, false] Try.f21) st) := GE.region_step (id := 3) (GE.reg_of (by kernel_rfl)) (by kernel_rfl)
theorem n21_17s : codeB Try.prog E ⟨f, 26, b, ro⟩ n21_17 st = plainS (runOps Try.prog E b q21_17 (ops [true, true, false, true, false, false, false, false] Try.f21) st) := GE.region_step (id := 4) (GE.reg_of (by kernel_rfl)) (by kernel_rfl)
theorem n21_19s : codeB Try.prog E cx n21_19 st = some (.normal, st) := GE.skip_step (by kernel_rfl)
theorem n21_20s : codeB Try.prog LL ⟨21, 26, b, ro⟩ n21_20 st = normS b ⟨[], []⟩ (.exit 0) st := GE.exit_step (by kernel_rfl) (by kernel_rfl)
theorem n21_18s : codeB Try.prog E cx n21_18 st = condS (codeB Try.prog E cx n21_19) (codeB Try.prog E cx n21_20) (lk st.σ 14) st := GE.cond_step (c := .tmp 14) (by kernel_rfl)
theorem n21_16s : codeB Try.prog E cx n21_16 st = thenS (codeB Try.prog E cx n21_17 st) (codeB Try.prog E cx n21_18) := GE.seq_step (by kernel_rfl)
theorem n21_24s : codeB Try.prog E ⟨f, 26, b, ro⟩ n21_24 st = drawS [0, 0, 3, 7, 0, 0, 48, 112, 255] (runOpsF Try.prog E b q21_24 (ops [true, true, false, true, false, false, true, false, false, false] Try.f21) st) := GE.draw_step (id := 6) (GE.reg_of (by kernel_rfl)) (by kernel_rfl) (by kernel_rfl) (by kernel_rfl)
theorem n21_27s : codeB Try.prog E ⟨f, 26, b, ro⟩ n21_27 st = plainS (runOps Try.prog E b q21_27 (ops [true, true, false, true, false, false, true, false, false, true, false, false] Try.f21) st) := GE.region_step (id := 7) (GE.reg_of (by kernel_rfl)) (by kernel_rfl)
theorem n21_28s : codeB Try.prog LL ⟨21, 26, b, ro⟩ n21_28 st = normS b ⟨[4], []⟩ .ret st := GE.ret_step (by kernel_rfl) (by kernel_rfl)
theorem n21_26s : codeB Try.prog E cx n21_26 st = thenS (codeB Try.prog E cx n21_27 st) (codeB Try.prog E cx n21_28) := GE.seq_step (by kernel_rfl)
theorem n21_29s : codeB Try.prog E cx n21_29 st = some (.normal, st) := GE.skip_step (by kernel_rfl)
theorem n21_25s : codeB Try.prog E cx n21_25 st = condS (codeB Try.prog E cx n21_26) (codeB Try.prog E cx n21_29) (lk st.σ 25) st := GE.cond_step (c := .tmp 25) (by kernel_rfl)
theorem n21_23s : codeB Try.prog E cx n21_23 st = thenS (codeB Try.prog E cx n21_24 st) (codeB Try.prog E cx n21_25) := GE.seq_step (by kernel_rfl)
theorem n21_22s : codeB Try.prog E cx n21_22 st = blockS 1 (codeB Try.prog E cx n21_23 st) st := GE.block_step (by kernel_rfl)
theorem n21_30s : codeB Try.prog E ⟨f, 26, b, ro⟩ n21_30 st = plainS (runOps Try.prog E b q21_30 (ops [true, true, false, true, false, false, true, true] Try.f21) st) := GE.region_step (id := 5) (GE.reg_of (by kernel_rfl)) (by kernel_rfl)
theorem n21_21s : codeB Try.prog E cx n21_21 st = thenS (codeB Try.prog E cx n21_22 st) (codeB Try.prog E cx n21_30) := GE.seq_step (by kernel_rfl)
theorem n21_15s : codeB Try.prog E cx n21_15 st = thenS (codeB Try.prog E cx n21_16 st) (codeB Try.prog E cx n21_21) := GE.seq_step (by kernel_rfl)
theorem n21_14k : LL.kp (⟨21, 26, b, ro⟩ : Cx).fn (4 * rid n21_15 + 3) = some ⟨[0, 1, 5], [⟨0, 0, 1, true⟩, ⟨1, 0, 1, true⟩]⟩ := by kernel_rfl
theorem n21_14s : codeB Try.prog LL ⟨21, 26, b, ro⟩ n21_14 st = headS b ⟨[0, 1, 5], [⟨0, 0, 1, true⟩, ⟨1, 0, 1, true⟩]⟩ st (lpB Try.prog LL ⟨21, 26, b, ro⟩ n21_14 n21_15) := GE.lpB_step (by kernel_rfl) (n21_14k b ro)
theorem n21_14g : LL.code ⟨21, 26, b, ro⟩ n21_14 st = headS b ⟨[0, 1, 5], [⟨0, 0, 1, true⟩, ⟨1, 0, 1, true⟩]⟩ st (lpB Try.prog LL ⟨21, 26, b, ro⟩ n21_14 n21_15) := GE.lpB_again (by kernel_rfl) (n21_14k b ro)
theorem n21_13s : codeB Try.prog E cx n21_13 st = blockS 0 (codeB Try.prog E cx n21_14 st) st := GE.block_step (by kernel_rfl)
theorem n21_11s : codeB Try.prog E cx n21_11 st = thenS (codeB Try.prog E cx n21_12 st) (codeB Try.prog E cx n21_13) := GE.seq_step (by kernel_rfl)
theorem n21_32s : codeB Try.prog E ⟨f, 26, b, ro⟩ n21_32 st = plainS (runOps Try.prog E b q21_32 (ops [true, true, true, false] Try.f21) st) := GE.region_step (id := 8) (GE.reg_of (by kernel_rfl)) (by kernel_rfl)
theorem n21_33s : codeB Try.prog LL ⟨21, 26, b, ro⟩ n21_33 st = normS b ⟨[4], []⟩ .ret st := GE.ret_step (by kernel_rfl) (by kernel_rfl)
theorem n21_31s : codeB Try.prog E cx n21_31 st = thenS (codeB Try.prog E cx n21_32 st) (codeB Try.prog E cx n21_33) := GE.seq_step (by kernel_rfl)
theorem n21_10s : codeB Try.prog E cx n21_10 st = thenS (codeB Try.prog E cx n21_11 st) (codeB Try.prog E cx n21_31) := GE.seq_step (by kernel_rfl)
theorem n21_2s : codeB Try.prog E cx n21_2 st = thenS (codeB Try.prog E cx n21_3 st) (codeB Try.prog E cx n21_10) := GE.seq_step (by kernel_rfl)
theorem n21_0s : codeB Try.prog E cx n21_0 st = thenS (codeB Try.prog E cx n21_1 st) (codeB Try.prog E cx n21_2) := GE.seq_step (by kernel_rfl)
noncomputable def n23_0 : Code := bodyOf Try.f23
noncomputable def n23_1 : Code := cl n23_0
noncomputable def q23_1 : List Oper := opsOf n23_1
noncomputable def n23_2 : Code := cr n23_0
noncomputable def n23_3 : Code := cl n23_2
noncomputable def q23_3 : List Oper := opsOf n23_3
noncomputable def n23_4 : Code := cr n23_2
noncomputable def n23_5 : Code := cl n23_4
noncomputable def n23_6 : Code := cl n23_5
noncomputable def q23_6 : List Oper := opsOf n23_6
noncomputable def n23_7 : Code := cr n23_5
noncomputable def n23_8 : Code := cl n23_7
noncomputable def n23_9 : Code := cl n23_8
noncomputable def q23_9 : List Oper := opsOf n23_9
noncomputable def n23_10 : Code := cr n23_8
noncomputable def n23_11 : Code := cr n23_7
noncomputable def n23_12 : Code := cr n23_4
noncomputable def n23_13 : Code := cl n23_12
noncomputable def q23_13 : List Oper := opsOf n23_13
noncomputable def n23_14 : Code := cr n23_12
theorem body23 : Try.f23.body = some n23_0 := by kernel_rfl
theorem run23 (E : Ev) (args : List Value) (h : List Blk) (hl : args.length ≤ 19) : runB Try.prog E 23 args h = endS Try.prog [.tmp 2, .tmp 3] h.length (codeB Try.prog E ⟨23, 19, h.length, none⟩ n23_0 ⟨enumT 0 args, h, []⟩) := GE.run_step Try.func23 body23 (by kernel_rfl) (by decide) (by kernel_rfl) hl
theorem n23_1s : codeB Try.prog E ⟨f, 19, b, ro⟩ n23_1 st = plainS (runOps Try.prog E b q23_1 (ops [false] Try.f23) st) := GE.region_step (id := 0) (GE.reg_of (by kernel_rfl)) (by kernel_rfl)
theorem n23_3s : codeB Try.prog E ⟨f, 19, b, ro⟩ n23_3 st = plainS (runOps Try.prog E b q23_3 (ops [true, false] Try.f23) st) := GE.region_step (id := 1) (GE.reg_of (by kernel_rfl)) (by kernel_rfl)
theorem n23_6s : codeB Try.prog E ⟨f, 19, b, ro⟩ n23_6 st = plainS (runOps Try.prog E b q23_6 (ops [true, true, false, false] Try.f23) st) := GE.region_step (id := 2) (GE.reg_of (by kernel_rfl)) (by kernel_rfl)
theorem n23_9s : codeB Try.prog E ⟨f, 19, b, ro⟩ n23_9 st = plainS (runOps Try.prog E b q23_9 (ops [true, true, false, true, false, false] Try.f23) st) := GE.region_step (id := 3) (GE.reg_of (by kernel_rfl)) (by kernel_rfl)
theorem n23_10s : codeB Try.prog LL ⟨23, 19, b, ro⟩ n23_10 st = normS b ⟨[2, 3], []⟩ .ret st := GE.ret_step (by kernel_rfl) (by kernel_rfl)
theorem n23_8s : codeB Try.prog E cx n23_8 st = thenS (codeB Try.prog E cx n23_9 st) (codeB Try.prog E cx n23_10) := GE.seq_step (by kernel_rfl)
theorem n23_11s : codeB Try.prog E cx n23_11 st = some (.normal, st) := GE.skip_step (by kernel_rfl)
theorem n23_7s : codeB Try.prog E cx n23_7 st = condS (codeB Try.prog E cx n23_8) (codeB Try.prog E cx n23_11) (lk st.σ 12) st := GE.cond_step (c := .tmp 12) (by kernel_rfl)
theorem n23_5s : codeB Try.prog E cx n23_5 st = thenS (codeB Try.prog E cx n23_6 st) (codeB Try.prog E cx n23_7) := GE.seq_step (by kernel_rfl)
theorem n23_13s : codeB Try.prog E ⟨f, 19, b, ro⟩ n23_13 st = plainS (runOps Try.prog E b q23_13 (ops [true, true, true, false] Try.f23) st) := GE.region_step (id := 4) (GE.reg_of (by kernel_rfl)) (by kernel_rfl)
theorem n23_14s : codeB Try.prog LL ⟨23, 19, b, ro⟩ n23_14 st = normS b ⟨[2, 3], []⟩ .ret st := GE.ret_step (by kernel_rfl) (by kernel_rfl)
theorem n23_12s : codeB Try.prog E cx n23_12 st = thenS (codeB Try.prog E cx n23_13 st) (codeB Try.prog E cx n23_14) := GE.seq_step (by kernel_rfl)
theorem n23_4s : codeB Try.prog E cx n23_4 st = thenS (codeB Try.prog E cx n23_5 st) (codeB Try.prog E cx n23_12) := GE.seq_step (by kernel_rfl)
theorem n23_2s : codeB Try.prog E cx n23_2 st = thenS (codeB Try.prog E cx n23_3 st) (codeB Try.prog E cx n23_4) := GE.seq_step (by kernel_rfl)
theorem n23_0s : codeB Try.prog E cx n23_0 st = thenS (codeB Try.prog E cx n23_1 st) (codeB Try.prog E cx n23_2) := GE.seq_step (by kernel_rfl)
noncomputable def n24_0 : Code := bodyOf Try.f24
noncomputable def n24_1 : Code := cl n24_0
noncomputable def q24_1 : List Oper := opsOf n24_1
noncomputable def n24_2 : Code := cr n24_0
noncomputable def n24_3 : Code := cl n24_2
noncomputable def q24_3 : List Oper := opsOf n24_3
noncomputable def n24_4 : Code := cr n24_2
noncomputable def n24_5 : Code := cl n24_4
noncomputable def n24_6 : Code := cl n24_5
noncomputable def q24_6 : List Oper := opsOf n24_6
noncomputable def n24_7 : Code := cr n24_5
noncomputable def n24_8 : Code := cl n24_7
noncomputable def n24_9 : Code := cl n24_8
noncomputable def q24_9 : List Oper := opsOf n24_9
noncomputable def n24_10 : Code := cr n24_8
noncomputable def n24_11 : Code := cr n24_7
noncomputable def n24_12 : Code := cr n24_4
noncomputable def n24_13 : Code := cl n24_12
noncomputable def q24_13 : List Oper := opsOf n24_13
noncomputable def n24_14 : Code := cr n24_12
theorem body24 : Try.f24.body = some n24_0 := by kernel_rfl
theorem run24 (E : Ev) (args : List Value) (h : List Blk) (hl : args.length ≤ 14) : runB Try.prog E 24 args h = endS Try.prog [.tmp 2, .tmp 3] h.length (codeB Try.prog E ⟨24, 14, h.length, none⟩ n24_0 ⟨enumT 0 args, h, []⟩) := GE.run_step Try.func24 body24 (by kernel_rfl) (by decide) (by kernel_rfl) hl
theorem n24_1s : codeB Try.prog E ⟨f, 14, b, ro⟩ n24_1 st = plainS (runOps Try.prog E b q24_1 (ops [false] Try.f24) st) := GE.region_step (id := 0) (GE.reg_of (by kernel_rfl)) (by kernel_rfl)
theorem n24_3s : codeB Try.prog E ⟨f, 14, b, ro⟩ n24_3 st = plainS (runOps Try.prog E b q24_3 (ops [true, false] Try.f24) st) := GE.region_step (id := 1) (GE.reg_of (by kernel_rfl)) (by kernel_rfl)
theorem n24_6s : codeB Try.prog E ⟨f, 14, b, ro⟩ n24_6 st = plainS (runOps Try.prog E b q24_6 (ops [true, true, false, false] Try.f24) st) := GE.region_step (id := 2) (GE.reg_of (by kernel_rfl)) (by kernel_rfl)
theorem n24_9s : codeB Try.prog E ⟨f, 14, b, ro⟩ n24_9 st = plainS (runOps Try.prog E b q24_9 (ops [true, true, false, true, false, false] Try.f24) st) := GE.region_step (id := 3) (GE.reg_of (by kernel_rfl)) (by kernel_rfl)
theorem n24_10s : codeB Try.prog LL ⟨24, 14, b, ro⟩ n24_10 st = normS b ⟨[2, 3], []⟩ .ret st := GE.ret_step (by kernel_rfl) (by kernel_rfl)
theorem n24_8s : codeB Try.prog E cx n24_8 st = thenS (codeB Try.prog E cx n24_9 st) (codeB Try.prog E cx n24_10) := GE.seq_step (by kernel_rfl)
theorem n24_11s : codeB Try.prog E cx n24_11 st = some (.normal, st) := GE.skip_step (by kernel_rfl)
theorem n24_7s : codeB Try.prog E cx n24_7 st = condS (codeB Try.prog E cx n24_8) (codeB Try.prog E cx n24_11) (lk st.σ 8) st := GE.cond_step (c := .tmp 8) (by kernel_rfl)
theorem n24_5s : codeB Try.prog E cx n24_5 st = thenS (codeB Try.prog E cx n24_6 st) (codeB Try.prog E cx n24_7) := GE.seq_step (by kernel_rfl)
theorem n24_13s : codeB Try.prog E ⟨f, 14, b, ro⟩ n24_13 st = plainS (runOps Try.prog E b q24_13 (ops [true, true, true, false] Try.f24) st) := GE.region_step (id := 4) (GE.reg_of (by kernel_rfl)) (by kernel_rfl)
theorem n24_14s : codeB Try.prog LL ⟨24, 14, b, ro⟩ n24_14 st = normS b ⟨[2, 3], []⟩ .ret st := GE.ret_step (by kernel_rfl) (by kernel_rfl)
theorem n24_12s : codeB Try.prog E cx n24_12 st = thenS (codeB Try.prog E cx n24_13 st) (codeB Try.prog E cx n24_14) := GE.seq_step (by kernel_rfl)
theorem n24_4s : codeB Try.prog E cx n24_4 st = thenS (codeB Try.prog E cx n24_5 st) (codeB Try.prog E cx n24_12) := GE.seq_step (by kernel_rfl)
theorem n24_2s : codeB Try.prog E cx n24_2 st = thenS (codeB Try.prog E cx n24_3 st) (codeB Try.prog E cx n24_4) := GE.seq_step (by kernel_rfl)
theorem n24_0s : codeB Try.prog E cx n24_0 st = thenS (codeB Try.prog E cx n24_1 st) (codeB Try.prog E cx n24_2) := GE.seq_step (by kernel_rfl)
noncomputable def n25_0 : Code := bodyOf Try.f25
noncomputable def n25_1 : Code := cl n25_0
noncomputable def q25_1 : List Oper := opsOf n25_1
noncomputable def n25_2 : Code := cr n25_0
noncomputable def n25_3 : Code := cl n25_2
noncomputable def q25_3 : List Oper := opsOf n25_3
noncomputable def n25_4 : Code := cr n25_2
noncomputable def n25_5 : Code := cl n25_4
noncomputable def n25_6 : Code := cl n25_5
noncomputable def q25_6 : List Oper := opsOf n25_6
noncomputable def n25_7 : Code := cr n25_5
noncomputable def n25_8 : Code := cl n25_7
noncomputable def q25_8 : List Oper := opsOf n25_8
noncomputable def n25_9 : Code := cr n25_7
noncomputable def n25_10 : Code := cr n25_4
noncomputable def n25_11 : Code := cl n25_10
noncomputable def n25_12 : Code := cl n25_11
noncomputable def q25_12 : List Oper := opsOf n25_12
noncomputable def n25_13 : Code := cr n25_11
noncomputable def n25_14 : Code := cl n25_13
noncomputable def n25_15 : Code := cl n25_14
noncomputable def q25_15 : List Oper := opsOf n25_15
noncomputable def n25_16 : Code := cr n25_14
noncomputable def n25_17 : Code := cr n25_13
noncomputable def n25_18 : Code := cr n25_10
noncomputable def n25_19 : Code := cl n25_18
noncomputable def q25_19 : List Oper := opsOf n25_19
noncomputable def n25_20 : Code := cr n25_18
noncomputable def n25_21 : Code := cl n25_20
noncomputable def n25_22 : Code := cl n25_21
noncomputable def q25_22 : List Oper := opsOf n25_22
noncomputable def n25_23 : Code := cr n25_21
noncomputable def n25_24 : Code := cl n25_23
noncomputable def n25_25 : Code := cl n25_24
noncomputable def n25_26 : Code := cl n25_25
noncomputable def q25_26 : List Oper := opsOf n25_26
noncomputable def n25_27 : Code := cr n25_25
noncomputable def n25_28 : Code := cl n25_27
noncomputable def n25_29 : Code := cl n25_28
noncomputable def n25_30 : Code := cr n25_28
noncomputable def n25_31 : Code := cr n25_27
noncomputable def n25_32 : Code := cl n25_31
noncomputable def n25_33 : Code := cl n25_32
noncomputable def n25_34 : Code := cl n25_33
noncomputable def q25_34 : List Oper := opsOf n25_34
noncomputable def n25_35 : Code := cr n25_33
noncomputable def n25_36 : Code := cl n25_35
noncomputable def n25_37 : Code := cl n25_36
noncomputable def q25_37 : List Oper := opsOf n25_37
noncomputable def n25_38 : Code := cr n25_36
noncomputable def n25_39 : Code := cl n25_38
noncomputable def n25_40 : Code := cl n25_39
noncomputable def n25_41 : Code := cl n25_40
noncomputable def q25_41 : List Oper := opsOf n25_41
noncomputable def n25_42 : Code := cr n25_40
noncomputable def n25_43 : Code := cl n25_42
noncomputable def n25_44 : Code := cl n25_43
noncomputable def n25_45 : Code := cr n25_43
noncomputable def n25_46 : Code := cr n25_42
noncomputable def n25_47 : Code := cl n25_46
noncomputable def n25_48 : Code := cl n25_47
noncomputable def n25_49 : Code := cl n25_48
noncomputable def q25_49 : List Oper := opsOf n25_49
noncomputable def n25_50 : Code := cr n25_48
noncomputable def n25_51 : Code := cl n25_50
noncomputable def q25_51 : List Oper := opsOf n25_51
noncomputable def n25_52 : Code := cr n25_50
noncomputable def n25_53 : Code := cl n25_52
noncomputable def q25_53 : List Oper := opsOf n25_53
noncomputable def n25_54 : Code := cr n25_52
noncomputable def n25_55 : Code := cr n25_46
noncomputable def q25_55 : List Oper := opsOf n25_55
noncomputable def n25_56 : Code := cr n25_35
noncomputable def q25_56 : List Oper := opsOf n25_56
noncomputable def n25_57 : Code := cr n25_31
noncomputable def q25_57 : List Oper := opsOf n25_57
noncomputable def n25_58 : Code := cr n25_20
noncomputable def n25_59 : Code := cl n25_58
noncomputable def q25_59 : List Oper := opsOf n25_59
noncomputable def n25_60 : Code := cr n25_58
theorem body25 : Try.f25.body = some n25_0 := by kernel_rfl
theorem run25 (E : Ev) (args : List Value) (h : List Blk) (hl : args.length ≤ 59) : runB Try.prog E 25 args h = endS Try.prog [.tmp 4, .tmp 5] h.length (codeB Try.prog E ⟨25, 59, h.length, none⟩ n25_0 ⟨enumT 0 args, h, []⟩) := GE.run_step Try.func25 body25 (by kernel_rfl) (by decide) (by kernel_rfl) hl
theorem n25_1s : codeB Try.prog E ⟨f, 59, b, ro⟩ n25_1 st = plainS (runOps Try.prog E b q25_1 (ops [false] Try.f25) st) := GE.region_step (id := 0) (GE.reg_of (by kernel_rfl)) (by kernel_rfl)
theorem n25_3s : codeB Try.prog E ⟨f, 59, b, ro⟩ n25_3 st = plainS (runOps Try.prog E b q25_3 (ops [true, false] Try.f25) st) := GE.region_step (id := 1) (GE.reg_of (by kernel_rfl)) (by kernel_rfl)
theorem n25_6s : codeB Try.prog E ⟨f, 59, b, ro⟩ n25_6 st = plainS (runOps Try.prog E b q25_6 (ops [true, true, false, false] Try.f25) st) := GE.region_step (id := 2) (GE.reg_of (by kernel_rfl)) (by kernel_rfl)
theorem n25_8s : codeB Try.prog E ⟨f, 59, b, ro⟩ n25_8 st = plainS (runOps Try.prog E b q25_8 (ops [true, true, false, true, false] Try.f25) st) := GE.region_step (id := 3) (GE.reg_of (by kernel_rfl)) (by kernel_rfl)
theorem n25_9s : codeB Try.prog E cx n25_9 st = some (.normal, st) := GE.skip_step (by kernel_rfl)
theorem n25_7s : codeB Try.prog E cx n25_7 st = condS (codeB Try.prog E cx n25_8) (codeB Try.prog E cx n25_9) (lk st.σ 19) st := GE.cond_step (c := .tmp 19) (by kernel_rfl)
theorem n25_5s : codeB Try.prog E cx n25_5 st = thenS (codeB Try.prog E cx n25_6 st) (codeB Try.prog E cx n25_7) := GE.seq_step (by kernel_rfl)
theorem n25_12s : codeB Try.prog E ⟨f, 59, b, ro⟩ n25_12 st = plainS (runOps Try.prog E b q25_12 (ops [true, true, true, false, false] Try.f25) st) := GE.region_step (id := 4) (GE.reg_of (by kernel_rfl)) (by kernel_rfl)
theorem n25_15s : codeB Try.prog E ⟨f, 59, b, ro⟩ n25_15 st = plainS (runOps Try.prog E b q25_15 (ops [true, true, true, false, true, false, false] Try.f25) st) := GE.region_step (id := 5) (GE.reg_of (by kernel_rfl)) (by kernel_rfl)
theorem n25_16s : codeB Try.prog LL ⟨25, 59, b, ro⟩ n25_16 st = normS b ⟨[4, 5], []⟩ .ret st := GE.ret_step (by kernel_rfl) (by kernel_rfl)
theorem n25_14s : codeB Try.prog E cx n25_14 st = thenS (codeB Try.prog E cx n25_15 st) (codeB Try.prog E cx n25_16) := GE.seq_step (by kernel_rfl)
theorem n25_17s : codeB Try.prog E cx n25_17 st = some (.normal, st) := GE.skip_step (by kernel_rfl)
theorem n25_13s : codeB Try.prog E cx n25_13 st = condS (codeB Try.prog E cx n25_14) (codeB Try.prog E cx n25_17) (lk st.σ 24) st := GE.cond_step (c := .tmp 24) (by kernel_rfl)
theorem n25_11s : codeB Try.prog E cx n25_11 st = thenS (codeB Try.prog E cx n25_12 st) (codeB Try.prog E cx n25_13) := GE.seq_step (by kernel_rfl)
theorem n25_19s : codeB Try.prog E ⟨f, 59, b, ro⟩ n25_19 st = plainS (runOps Try.prog E b q25_19 (ops [true, true, true, true, false] Try.f25) st) := GE.region_step (id := 6) (GE.reg_of (by kernel_rfl)) (by kernel_rfl)
theorem n25_22s : codeB Try.prog E ⟨f, 59, b, ro⟩ n25_22 st = plainS (runOps Try.prog E b q25_22 (ops [true, true, true, true, true, false, false] Try.f25) st) := GE.region_step (id := 7) (GE.reg_of (by kernel_rfl)) (by kernel_rfl)
theorem n25_26s : codeB Try.prog E ⟨f, 59, b, ro⟩ n25_26 st = plainS (runOps Try.prog E b q25_26 (ops [true, true, true, true, true, false, true, false, false, false] Try.f25) st) := GE.region_step (id := 8) (GE.reg_of (by kernel_rfl)) (by kernel_rfl)
theorem n25_29s : codeB Try.prog E cx n25_29 st = some (.normal, st) := GE.skip_step (by kernel_rfl)
theorem n25_30s : codeB Try.prog LL ⟨25, 59, b, ro⟩ n25_30 st = normS b ⟨[8], []⟩ (.exit 0) st := GE.exit_step (by kernel_rfl) (by kernel_rfl)
theorem n25_28s : codeB Try.prog E cx n25_28 st = condS (codeB Try.prog E cx n25_29) (codeB Try.prog E cx n25_30) (lk st.σ 29) st := GE.cond_step (c := .tmp 29) (by kernel_rfl)
theorem n25_34s : codeB Try.prog E ⟨f, 59, b, ro⟩ n25_34 st = plainS (runOps Try.prog E b q25_34 (ops [true, true, true, true, true, false, true, false, false, true, true, false, false, false] Try.f25) st) := GE.region_step (id := 9) (GE.reg_of (by kernel_rfl)) (by kernel_rfl)
theorem n25_37s : codeB Try.prog E ⟨f, 59, b, ro⟩ n25_37 st = plainS (runOps Try.prog E b q25_37 (ops [true, true, true, true, true, false, true, false, false, true, true, false, false, true, false, false] Try.f25) st) := GE.region_step (id := 10) (GE.reg_of (by kernel_rfl)) (by kernel_rfl)
theorem n25_41s : codeB Try.prog E ⟨f, 59, b, ro⟩ n25_41 st = plainS (runOps Try.prog E b q25_41 (ops [true, true, true, true, true, false, true, false, false, true, true, false, false, true, false, true, false, false, false] Try.f25) st) := GE.region_step (id := 11) (GE.reg_of (by kernel_rfl)) (by kernel_rfl)
theorem n25_44s : codeB Try.prog E cx n25_44 st = some (.normal, st) := GE.skip_step (by kernel_rfl)
theorem n25_45s : codeB Try.prog LL ⟨25, 59, b, ro⟩ n25_45 st = normS b ⟨[11, 6, 8, 9, 26, 27, 28], [⟨26, 0, 1, true⟩]⟩ (.exit 2) st := GE.exit_step (by kernel_rfl) (by kernel_rfl)
theorem n25_43s : codeB Try.prog E cx n25_43 st = condS (codeB Try.prog E cx n25_44) (codeB Try.prog E cx n25_45) (lk st.σ 34) st := GE.cond_step (c := .tmp 34) (by kernel_rfl)
theorem n25_49s : codeB Try.prog E ⟨f, 59, b, ro⟩ n25_49 st = plainS (runOps Try.prog E b q25_49 (ops [true, true, true, true, true, false, true, false, false, true, true, false, false, true, false, true, false, false, true, true, false, false, false] Try.f25) st) := GE.region_step (id := 12) (GE.reg_of (by kernel_rfl)) (by kernel_rfl)
theorem n25_51s : codeB Try.prog E ⟨f, 59, b, ro⟩ n25_51 st = plainS (runOps Try.prog E b q25_51 (ops [true, true, true, true, true, false, true, false, false, true, true, false, false, true, false, true, false, false, true, true, false, false, true, false] Try.f25) st) := GE.region_step (id := 13) (GE.reg_of (by kernel_rfl)) (by kernel_rfl)
theorem n25_53s : codeB Try.prog E ⟨f, 59, b, ro⟩ n25_53 st = drawS [0, 0, 2, 6, 14, 0, 0, 96, 254, 511, 1023] (runOpsF Try.prog E b q25_53 (ops [true, true, true, true, true, false, true, false, false, true, true, false, false, true, false, true, false, false, true, true, false, false, true, true, false] Try.f25) st) := GE.draw_step (id := 14) (GE.reg_of (by kernel_rfl)) (by kernel_rfl) (by kernel_rfl) (by kernel_rfl)
theorem n25_54s : codeB Try.prog E cx n25_54 st = some (.normal, st) := GE.skip_step (by kernel_rfl)
theorem n25_52s : codeB Try.prog E cx n25_52 st = condS (codeB Try.prog E cx n25_53) (codeB Try.prog E cx n25_54) (lk st.σ 42) st := GE.cond_step (c := .tmp 42) (by kernel_rfl)
theorem n25_50s : codeB Try.prog E cx n25_50 st = thenS (codeB Try.prog E cx n25_51 st) (codeB Try.prog E cx n25_52) := GE.seq_step (by kernel_rfl)
theorem n25_48s : codeB Try.prog E cx n25_48 st = thenS (codeB Try.prog E cx n25_49 st) (codeB Try.prog E cx n25_50) := GE.seq_step (by kernel_rfl)
theorem n25_47s : codeB Try.prog E cx n25_47 st = blockS 3 (codeB Try.prog E cx n25_48 st) st := GE.block_step (by kernel_rfl)
theorem n25_55s : codeB Try.prog E ⟨f, 59, b, ro⟩ n25_55 st = plainS (runOps Try.prog E b q25_55 (ops [true, true, true, true, true, false, true, false, false, true, true, false, false, true, false, true, false, false, true, true, true] Try.f25) st) := GE.region_step (id := 15) (GE.reg_of (by kernel_rfl)) (by kernel_rfl)
theorem n25_46s : codeB Try.prog E cx n25_46 st = thenS (codeB Try.prog E cx n25_47 st) (codeB Try.prog E cx n25_55) := GE.seq_step (by kernel_rfl)
theorem n25_42s : codeB Try.prog E cx n25_42 st = thenS (codeB Try.prog E cx n25_43 st) (codeB Try.prog E cx n25_46) := GE.seq_step (by kernel_rfl)
theorem n25_40s : codeB Try.prog E cx n25_40 st = thenS (codeB Try.prog E cx n25_41 st) (codeB Try.prog E cx n25_42) := GE.seq_step (by kernel_rfl)
theorem n25_39k : LL.kp (⟨25, 59, b, ro⟩ : Cx).fn (4 * rid n25_40 + 3) = some ⟨[11, 32, 33, 6, 8, 9, 26, 27, 28], [⟨26, 0, 1, true⟩]⟩ := by kernel_rfl
theorem n25_39s : codeB Try.prog LL ⟨25, 59, b, ro⟩ n25_39 st = headS b ⟨[11, 32, 33, 6, 8, 9, 26, 27, 28], [⟨26, 0, 1, true⟩]⟩ st (lpB Try.prog LL ⟨25, 59, b, ro⟩ n25_39 n25_40) := GE.lpB_step (by kernel_rfl) (n25_39k b ro)
theorem n25_39g : LL.code ⟨25, 59, b, ro⟩ n25_39 st = headS b ⟨[11, 32, 33, 6, 8, 9, 26, 27, 28], [⟨26, 0, 1, true⟩]⟩ st (lpB Try.prog LL ⟨25, 59, b, ro⟩ n25_39 n25_40) := GE.lpB_again (by kernel_rfl) (n25_39k b ro)
theorem n25_38s : codeB Try.prog E cx n25_38 st = blockS 2 (codeB Try.prog E cx n25_39 st) st := GE.block_step (by kernel_rfl)
theorem n25_36s : codeB Try.prog E cx n25_36 st = thenS (codeB Try.prog E cx n25_37 st) (codeB Try.prog E cx n25_38) := GE.seq_step (by kernel_rfl)
theorem n25_56s : codeB Try.prog E ⟨f, 59, b, ro⟩ n25_56 st = plainS (runOps Try.prog E b q25_56 (ops [true, true, true, true, true, false, true, false, false, true, true, false, false, true, true] Try.f25) st) := GE.region_step (id := 16) (GE.reg_of (by kernel_rfl)) (by kernel_rfl)
theorem n25_35s : codeB Try.prog E cx n25_35 st = thenS (codeB Try.prog E cx n25_36 st) (codeB Try.prog E cx n25_56) := GE.seq_step (by kernel_rfl)
theorem n25_33s : codeB Try.prog E cx n25_33 st = thenS (codeB Try.prog E cx n25_34 st) (codeB Try.prog E cx n25_35) := GE.seq_step (by kernel_rfl)
theorem n25_32s : codeB Try.prog E cx n25_32 st = blockS 1 (codeB Try.prog E cx n25_33 st) st := GE.block_step (by kernel_rfl)
theorem n25_57s : codeB Try.prog E ⟨f, 59, b, ro⟩ n25_57 st = plainS (runOps Try.prog E b q25_57 (ops [true, true, true, true, true, false, true, false, false, true, true, true] Try.f25) st) := GE.region_step (id := 17) (GE.reg_of (by kernel_rfl)) (by kernel_rfl)
theorem n25_31s : codeB Try.prog E cx n25_31 st = thenS (codeB Try.prog E cx n25_32 st) (codeB Try.prog E cx n25_57) := GE.seq_step (by kernel_rfl)
theorem n25_27s : codeB Try.prog E cx n25_27 st = thenS (codeB Try.prog E cx n25_28 st) (codeB Try.prog E cx n25_31) := GE.seq_step (by kernel_rfl)
theorem n25_25s : codeB Try.prog E cx n25_25 st = thenS (codeB Try.prog E cx n25_26 st) (codeB Try.prog E cx n25_27) := GE.seq_step (by kernel_rfl)
theorem n25_24k : LL.kp (⟨25, 59, b, ro⟩ : Cx).fn (4 * rid n25_25 + 3) = some ⟨[6, 8, 9, 26, 27, 28], [⟨26, 0, 1, true⟩]⟩ := by kernel_rfl
theorem n25_24s : codeB Try.prog LL ⟨25, 59, b, ro⟩ n25_24 st = headS b ⟨[6, 8, 9, 26, 27, 28], [⟨26, 0, 1, true⟩]⟩ st (lpB Try.prog LL ⟨25, 59, b, ro⟩ n25_24 n25_25) := GE.lpB_step (by kernel_rfl) (n25_24k b ro)
theorem n25_24g : LL.code ⟨25, 59, b, ro⟩ n25_24 st = headS b ⟨[6, 8, 9, 26, 27, 28], [⟨26, 0, 1, true⟩]⟩ st (lpB Try.prog LL ⟨25, 59, b, ro⟩ n25_24 n25_25) := GE.lpB_again (by kernel_rfl) (n25_24k b ro)
theorem n25_23s : codeB Try.prog E cx n25_23 st = blockS 0 (codeB Try.prog E cx n25_24 st) st := GE.block_step (by kernel_rfl)
theorem n25_21s : codeB Try.prog E cx n25_21 st = thenS (codeB Try.prog E cx n25_22 st) (codeB Try.prog E cx n25_23) := GE.seq_step (by kernel_rfl)
theorem n25_59s : codeB Try.prog E ⟨f, 59, b, ro⟩ n25_59 st = plainS (runOps Try.prog E b q25_59 (ops [true, true, true, true, true, true, false] Try.f25) st) := GE.region_step (id := 18) (GE.reg_of (by kernel_rfl)) (by kernel_rfl)
theorem n25_60s : codeB Try.prog LL ⟨25, 59, b, ro⟩ n25_60 st = normS b ⟨[4, 5], []⟩ .ret st := GE.ret_step (by kernel_rfl) (by kernel_rfl)
theorem n25_58s : codeB Try.prog E cx n25_58 st = thenS (codeB Try.prog E cx n25_59 st) (codeB Try.prog E cx n25_60) := GE.seq_step (by kernel_rfl)
theorem n25_20s : codeB Try.prog E cx n25_20 st = thenS (codeB Try.prog E cx n25_21 st) (codeB Try.prog E cx n25_58) := GE.seq_step (by kernel_rfl)
theorem n25_18s : codeB Try.prog E cx n25_18 st = thenS (codeB Try.prog E cx n25_19 st) (codeB Try.prog E cx n25_20) := GE.seq_step (by kernel_rfl)
theorem n25_10s : codeB Try.prog E cx n25_10 st = thenS (codeB Try.prog E cx n25_11 st) (codeB Try.prog E cx n25_18) := GE.seq_step (by kernel_rfl)
theorem n25_4s : codeB Try.prog E cx n25_4 st = thenS (codeB Try.prog E cx n25_5 st) (codeB Try.prog E cx n25_10) := GE.seq_step (by kernel_rfl)
theorem n25_2s : codeB Try.prog E cx n25_2 st = thenS (codeB Try.prog E cx n25_3 st) (codeB Try.prog E cx n25_4) := GE.seq_step (by kernel_rfl)
theorem n25_0s : codeB Try.prog E cx n25_0 st = thenS (codeB Try.prog E cx n25_1 st) (codeB Try.prog E cx n25_2) := GE.seq_step (by kernel_rfl)
noncomputable def n26_0 : Code := bodyOf Try.f26
noncomputable def n26_1 : Code := cl n26_0
noncomputable def q26_1 : List Oper := opsOf n26_1
noncomputable def n26_2 : Code := cr n26_0
noncomputable def n26_3 : Code := cl n26_2
noncomputable def q26_3 : List Oper := opsOf n26_3
noncomputable def n26_4 : Code := cr n26_2
noncomputable def n26_5 : Code := cl n26_4
noncomputable def n26_6 : Code := cl n26_5
noncomputable def q26_6 : List Oper := opsOf n26_6
noncomputable def n26_7 : Code := cr n26_5
noncomputable def n26_8 : Code := cl n26_7
noncomputable def q26_8 : List Oper := opsOf n26_8
noncomputable def n26_9 : Code := cr n26_7
noncomputable def n26_10 : Code := cr n26_4
noncomputable def n26_11 : Code := cl n26_10
noncomputable def n26_12 : Code := cl n26_11
noncomputable def q26_12 : List Oper := opsOf n26_12
noncomputable def n26_13 : Code := cr n26_11
noncomputable def n26_14 : Code := cl n26_13
noncomputable def n26_15 : Code := cl n26_14
noncomputable def q26_15 : List Oper := opsOf n26_15
noncomputable def n26_16 : Code := cr n26_14
noncomputable def n26_17 : Code := cr n26_13
noncomputable def n26_18 : Code := cr n26_10
noncomputable def n26_19 : Code := cl n26_18
noncomputable def q26_19 : List Oper := opsOf n26_19
noncomputable def n26_20 : Code := cr n26_18
noncomputable def n26_21 : Code := cl n26_20
noncomputable def q26_21 : List Oper := opsOf n26_21
noncomputable def n26_22 : Code := cr n26_20
noncomputable def n26_23 : Code := cl n26_22
noncomputable def n26_24 : Code := cl n26_23
noncomputable def q26_24 : List Oper := opsOf n26_24
noncomputable def n26_25 : Code := cr n26_23
noncomputable def n26_26 : Code := cl n26_25
noncomputable def n26_27 : Code := cl n26_26
noncomputable def n26_28 : Code := cl n26_27
noncomputable def n26_29 : Code := cl n26_28
noncomputable def q26_29 : List Oper := opsOf n26_29
noncomputable def n26_30 : Code := cr n26_28
noncomputable def n26_31 : Code := cl n26_30
noncomputable def n26_32 : Code := cr n26_30
noncomputable def n26_33 : Code := cr n26_27
noncomputable def n26_34 : Code := cl n26_33
noncomputable def n26_35 : Code := cl n26_34
noncomputable def n26_36 : Code := cl n26_35
noncomputable def n26_37 : Code := cl n26_36
noncomputable def q26_37 : List Oper := opsOf n26_37
noncomputable def n26_38 : Code := cr n26_36
noncomputable def n26_39 : Code := cl n26_38
noncomputable def n26_40 : Code := cl n26_39
noncomputable def n26_41 : Code := cl n26_40
noncomputable def n26_42 : Code := cl n26_41
noncomputable def q26_42 : List Oper := opsOf n26_42
noncomputable def n26_43 : Code := cr n26_41
noncomputable def n26_44 : Code := cl n26_43
noncomputable def n26_45 : Code := cr n26_43
noncomputable def n26_46 : Code := cr n26_40
noncomputable def n26_47 : Code := cl n26_46
noncomputable def n26_48 : Code := cl n26_47
noncomputable def n26_49 : Code := cl n26_48
noncomputable def q26_49 : List Oper := opsOf n26_49
noncomputable def n26_50 : Code := cr n26_48
noncomputable def n26_51 : Code := cl n26_50
noncomputable def q26_51 : List Oper := opsOf n26_51
noncomputable def n26_52 : Code := cr n26_50
noncomputable def n26_53 : Code := cr n26_46
noncomputable def q26_53 : List Oper := opsOf n26_53
noncomputable def n26_54 : Code := cr n26_35
noncomputable def q26_54 : List Oper := opsOf n26_54
noncomputable def n26_55 : Code := cr n26_33
noncomputable def q26_55 : List Oper := opsOf n26_55
noncomputable def n26_56 : Code := cr n26_22
noncomputable def n26_57 : Code := cl n26_56
noncomputable def q26_57 : List Oper := opsOf n26_57
noncomputable def n26_58 : Code := cr n26_56
theorem body26 : Try.f26.body = some n26_0 := by kernel_rfl
theorem run26 (E : Ev) (args : List Value) (h : List Blk) (hl : args.length ≤ 59) : runB Try.prog E 26 args h = endS Try.prog [.tmp 4, .tmp 5] h.length (codeB Try.prog E ⟨26, 59, h.length, none⟩ n26_0 ⟨enumT 0 args, h, []⟩) := GE.run_step Try.func26 body26 (by kernel_rfl) (by decide) (by kernel_rfl) hl
theorem n26_1s : codeB Try.prog E ⟨f, 59, b, ro⟩ n26_1 st = plainS (runOps Try.prog E b q26_1 (ops [false] Try.f26) st) := GE.region_step (id := 0) (GE.reg_of (by kernel_rfl)) (by kernel_rfl)
theorem n26_3s : codeB Try.prog E ⟨f, 59, b, ro⟩ n26_3 st = plainS (runOps Try.prog E b q26_3 (ops [true, false] Try.f26) st) := GE.region_step (id := 1) (GE.reg_of (by kernel_rfl)) (by kernel_rfl)
theorem n26_6s : codeB Try.prog E ⟨f, 59, b, ro⟩ n26_6 st = plainS (runOps Try.prog E b q26_6 (ops [true, true, false, false] Try.f26) st) := GE.region_step (id := 2) (GE.reg_of (by kernel_rfl)) (by kernel_rfl)
theorem n26_8s : codeB Try.prog E ⟨f, 59, b, ro⟩ n26_8 st = plainS (runOps Try.prog E b q26_8 (ops [true, true, false, true, false] Try.f26) st) := GE.region_step (id := 3) (GE.reg_of (by kernel_rfl)) (by kernel_rfl)
theorem n26_9s : codeB Try.prog E cx n26_9 st = some (.normal, st) := GE.skip_step (by kernel_rfl)
theorem n26_7s : codeB Try.prog E cx n26_7 st = condS (codeB Try.prog E cx n26_8) (codeB Try.prog E cx n26_9) (lk st.σ 15) st := GE.cond_step (c := .tmp 15) (by kernel_rfl)
theorem n26_5s : codeB Try.prog E cx n26_5 st = thenS (codeB Try.prog E cx n26_6 st) (codeB Try.prog E cx n26_7) := GE.seq_step (by kernel_rfl)
theorem n26_12s : codeB Try.prog E ⟨f, 59, b, ro⟩ n26_12 st = plainS (runOps Try.prog E b q26_12 (ops [true, true, true, false, false] Try.f26) st) := GE.region_step (id := 4) (GE.reg_of (by kernel_rfl)) (by kernel_rfl)
theorem n26_15s : codeB Try.prog E ⟨f, 59, b, ro⟩ n26_15 st = plainS (runOps Try.prog E b q26_15 (ops [true, true, true, false, true, false, false] Try.f26) st) := GE.region_step (id := 5) (GE.reg_of (by kernel_rfl)) (by kernel_rfl)
theorem n26_16s : codeB Try.prog LL ⟨26, 59, b, ro⟩ n26_16 st = normS b ⟨[4, 5], []⟩ .ret st := GE.ret_step (by kernel_rfl) (by kernel_rfl)
theorem n26_14s : codeB Try.prog E cx n26_14 st = thenS (codeB Try.prog E cx n26_15 st) (codeB Try.prog E cx n26_16) := GE.seq_step (by kernel_rfl)
theorem n26_17s : codeB Try.prog E cx n26_17 st = some (.normal, st) := GE.skip_step (by kernel_rfl)
theorem n26_13s : codeB Try.prog E cx n26_13 st = condS (codeB Try.prog E cx n26_14) (codeB Try.prog E cx n26_17) (lk st.σ 20) st := GE.cond_step (c := .tmp 20) (by kernel_rfl)
theorem n26_11s : codeB Try.prog E cx n26_11 st = thenS (codeB Try.prog E cx n26_12 st) (codeB Try.prog E cx n26_13) := GE.seq_step (by kernel_rfl)
theorem n26_19s : codeB Try.prog E ⟨f, 59, b, ro⟩ n26_19 st = plainS (runOps Try.prog E b q26_19 (ops [true, true, true, true, false] Try.f26) st) := GE.region_step (id := 6) (GE.reg_of (by kernel_rfl)) (by kernel_rfl)
theorem n26_21s : codeB Try.prog E ⟨f, 59, b, ro⟩ n26_21 st = plainS (runOps Try.prog E b q26_21 (ops [true, true, true, true, true, false] Try.f26) st) := GE.region_step (id := 7) (GE.reg_of (by kernel_rfl)) (by kernel_rfl)
theorem n26_24s : codeB Try.prog E ⟨f, 59, b, ro⟩ n26_24 st = plainS (runOps Try.prog E b q26_24 (ops [true, true, true, true, true, true, false, false] Try.f26) st) := GE.region_step (id := 8) (GE.reg_of (by kernel_rfl)) (by kernel_rfl)
theorem n26_29s : codeB Try.prog E ⟨f, 59, b, ro⟩ n26_29 st = plainS (runOps Try.prog E b q26_29 (ops [true, true, true, true, true, true, false, true, false, false, false, false] Try.f26) st) := GE.region_step (id := 9) (GE.reg_of (by kernel_rfl)) (by kernel_rfl)
theorem n26_31s : codeB Try.prog E cx n26_31 st = some (.normal, st) := GE.skip_step (by kernel_rfl)
theorem n26_32s : codeB Try.prog LL ⟨26, 59, b, ro⟩ n26_32 st = normS b ⟨[8], []⟩ (.exit 0) st := GE.exit_step (by kernel_rfl) (by kernel_rfl)
theorem n26_30s : codeB Try.prog E cx n26_30 st = condS (codeB Try.prog E cx n26_31) (codeB Try.prog E cx n26_32) (lk st.σ 27) st := GE.cond_step (c := .tmp 27) (by kernel_rfl)
theorem n26_28s : codeB Try.prog E cx n26_28 st = thenS (codeB Try.prog E cx n26_29 st) (codeB Try.prog E cx n26_30) := GE.seq_step (by kernel_rfl)
theorem n26_37s : codeB Try.prog E ⟨f, 59, b, ro⟩ n26_37 st = plainS (runOps Try.prog E b q26_37 (ops [true, true, true, true, true, true, false, true, false, false, true, false, false, false, false] Try.f26) st) := GE.region_step (id := 11) (GE.reg_of (by kernel_rfl)) (by kernel_rfl)
theorem n26_42s : codeB Try.prog E ⟨f, 59, b, ro⟩ n26_42 st = plainS (runOps Try.prog E b q26_42 (ops [true, true, true, true, true, true, false, true, false, false, true, false, false, false, true, false, false, false, false] Try.f26) st) := GE.region_step (id := 12) (GE.reg_of (by kernel_rfl)) (by kernel_rfl)
theorem n26_44s : codeB Try.prog E cx n26_44 st = some (.normal, st) := GE.skip_step (by kernel_rfl)
theorem n26_45s : codeB Try.prog LL ⟨26, 59, b, ro⟩ n26_45 st = normS b ⟨[0, 1, 7, 8, 9, 10], [⟨0, 0, 2, true⟩, ⟨1, 0, 1, true⟩, ⟨7, 0, 1, true⟩]⟩ (.exit 2) st := GE.exit_step (by kernel_rfl) (by kernel_rfl)
theorem n26_43s : codeB Try.prog E cx n26_43 st = condS (codeB Try.prog E cx n26_44) (codeB Try.prog E cx n26_45) (lk st.σ 35) st := GE.cond_step (c := .tmp 35) (by kernel_rfl)
theorem n26_41s : codeB Try.prog E cx n26_41 st = thenS (codeB Try.prog E cx n26_42 st) (codeB Try.prog E cx n26_43) := GE.seq_step (by kernel_rfl)
theorem n26_49s : codeB Try.prog E ⟨f, 59, b, ro⟩ n26_49 st = plainS (runOps Try.prog E b q26_49 (ops [true, true, true, true, true, true, false, true, false, false, true, false, false, false, true, false, false, true, false, false, false] Try.f26) st) := GE.region_step (id := 14) (GE.reg_of (by kernel_rfl)) (by kernel_rfl)
theorem n26_51s : codeB Try.prog E ⟨f, 59, b, ro⟩ n26_51 st = plainS (runOps Try.prog E b q26_51 (ops [true, true, true, true, true, true, false, true, false, false, true, false, false, false, true, false, false, true, false, false, true, false] Try.f26) st) := GE.region_step (id := 15) (GE.reg_of (by kernel_rfl)) (by kernel_rfl)
theorem n26_52s : codeB Try.prog E cx n26_52 st = some (.normal, st) := GE.skip_step (by kernel_rfl)
theorem n26_50s : codeB Try.prog E cx n26_50 st = condS (codeB Try.prog E cx n26_51) (codeB Try.prog E cx n26_52) (lk st.σ 41) st := GE.cond_step (c := .tmp 41) (by kernel_rfl)
theorem n26_48s : codeB Try.prog E cx n26_48 st = thenS (codeB Try.prog E cx n26_49 st) (codeB Try.prog E cx n26_50) := GE.seq_step (by kernel_rfl)
theorem n26_47s : codeB Try.prog E cx n26_47 st = blockS 3 (codeB Try.prog E cx n26_48 st) st := GE.block_step (by kernel_rfl)
theorem n26_53s : codeB Try.prog E ⟨f, 59, b, ro⟩ n26_53 st = plainS (runOps Try.prog E b q26_53 (ops [true, true, true, true, true, true, false, true, false, false, true, false, false, false, true, false, false, true, true] Try.f26) st) := GE.region_step (id := 13) (GE.reg_of (by kernel_rfl)) (by kernel_rfl)
theorem n26_46s : codeB Try.prog E cx n26_46 st = thenS (codeB Try.prog E cx n26_47 st) (codeB Try.prog E cx n26_53) := GE.seq_step (by kernel_rfl)
theorem n26_40s : codeB Try.prog E cx n26_40 st = thenS (codeB Try.prog E cx n26_41 st) (codeB Try.prog E cx n26_46) := GE.seq_step (by kernel_rfl)
theorem n26_39k : LL.kp (⟨26, 59, b, ro⟩ : Cx).fn (4 * rid n26_40 + 3) = some ⟨[11, 0, 1, 7, 8, 9, 10], [⟨0, 0, 2, true⟩, ⟨1, 0, 1, true⟩, ⟨7, 0, 1, true⟩]⟩ := by kernel_rfl
theorem n26_39s : codeB Try.prog LL ⟨26, 59, b, ro⟩ n26_39 st = headS b ⟨[11, 0, 1, 7, 8, 9, 10], [⟨0, 0, 2, true⟩, ⟨1, 0, 1, true⟩, ⟨7, 0, 1, true⟩]⟩ st (lpB Try.prog LL ⟨26, 59, b, ro⟩ n26_39 n26_40) := GE.lpB_step (by kernel_rfl) (n26_39k b ro)
theorem n26_39g : LL.code ⟨26, 59, b, ro⟩ n26_39 st = headS b ⟨[11, 0, 1, 7, 8, 9, 10], [⟨0, 0, 2, true⟩, ⟨1, 0, 1, true⟩, ⟨7, 0, 1, true⟩]⟩ st (lpB Try.prog LL ⟨26, 59, b, ro⟩ n26_39 n26_40) := GE.lpB_again (by kernel_rfl) (n26_39k b ro)
theorem n26_38s : codeB Try.prog E cx n26_38 st = blockS 2 (codeB Try.prog E cx n26_39 st) st := GE.block_step (by kernel_rfl)
theorem n26_36s : codeB Try.prog E cx n26_36 st = thenS (codeB Try.prog E cx n26_37 st) (codeB Try.prog E cx n26_38) := GE.seq_step (by kernel_rfl)
theorem n26_54s : codeB Try.prog E ⟨f, 59, b, ro⟩ n26_54 st = plainS (runOps Try.prog E b q26_54 (ops [true, true, true, true, true, true, false, true, false, false, true, false, false, true] Try.f26) st) := GE.region_step (id := 16) (GE.reg_of (by kernel_rfl)) (by kernel_rfl)
theorem n26_35s : codeB Try.prog E cx n26_35 st = thenS (codeB Try.prog E cx n26_36 st) (codeB Try.prog E cx n26_54) := GE.seq_step (by kernel_rfl)
theorem n26_34s : codeB Try.prog E cx n26_34 st = blockS 1 (codeB Try.prog E cx n26_35 st) st := GE.block_step (by kernel_rfl)
theorem n26_55s : codeB Try.prog E ⟨f, 59, b, ro⟩ n26_55 st = plainS (runOps Try.prog E b q26_55 (ops [true, true, true, true, true, true, false, true, false, false, true, true] Try.f26) st) := GE.region_step (id := 10) (GE.reg_of (by kernel_rfl)) (by kernel_rfl)
theorem n26_33s : codeB Try.prog E cx n26_33 st = thenS (codeB Try.prog E cx n26_34 st) (codeB Try.prog E cx n26_55) := GE.seq_step (by kernel_rfl)
theorem n26_27s : codeB Try.prog E cx n26_27 st = thenS (codeB Try.prog E cx n26_28 st) (codeB Try.prog E cx n26_33) := GE.seq_step (by kernel_rfl)
theorem n26_26k : LL.kp (⟨26, 59, b, ro⟩ : Cx).fn (4 * rid n26_27 + 3) = some ⟨[0, 1, 7, 8, 9, 10], [⟨0, 0, 2, true⟩, ⟨1, 0, 1, true⟩, ⟨7, 0, 1, true⟩]⟩ := by kernel_rfl
theorem n26_26s : codeB Try.prog LL ⟨26, 59, b, ro⟩ n26_26 st = headS b ⟨[0, 1, 7, 8, 9, 10], [⟨0, 0, 2, true⟩, ⟨1, 0, 1, true⟩, ⟨7, 0, 1, true⟩]⟩ st (lpB Try.prog LL ⟨26, 59, b, ro⟩ n26_26 n26_27) := GE.lpB_step (by kernel_rfl) (n26_26k b ro)
theorem n26_26g : LL.code ⟨26, 59, b, ro⟩ n26_26 st = headS b ⟨[0, 1, 7, 8, 9, 10], [⟨0, 0, 2, true⟩, ⟨1, 0, 1, true⟩, ⟨7, 0, 1, true⟩]⟩ st (lpB Try.prog LL ⟨26, 59, b, ro⟩ n26_26 n26_27) := GE.lpB_again (by kernel_rfl) (n26_26k b ro)
theorem n26_25s : codeB Try.prog E cx n26_25 st = blockS 0 (codeB Try.prog E cx n26_26 st) st := GE.block_step (by kernel_rfl)
theorem n26_23s : codeB Try.prog E cx n26_23 st = thenS (codeB Try.prog E cx n26_24 st) (codeB Try.prog E cx n26_25) := GE.seq_step (by kernel_rfl)
theorem n26_57s : codeB Try.prog E ⟨f, 59, b, ro⟩ n26_57 st = plainS (runOps Try.prog E b q26_57 (ops [true, true, true, true, true, true, true, false] Try.f26) st) := GE.region_step (id := 17) (GE.reg_of (by kernel_rfl)) (by kernel_rfl)
theorem n26_58s : codeB Try.prog LL ⟨26, 59, b, ro⟩ n26_58 st = normS b ⟨[4, 5], []⟩ .ret st := GE.ret_step (by kernel_rfl) (by kernel_rfl)
theorem n26_56s : codeB Try.prog E cx n26_56 st = thenS (codeB Try.prog E cx n26_57 st) (codeB Try.prog E cx n26_58) := GE.seq_step (by kernel_rfl)
theorem n26_22s : codeB Try.prog E cx n26_22 st = thenS (codeB Try.prog E cx n26_23 st) (codeB Try.prog E cx n26_56) := GE.seq_step (by kernel_rfl)
theorem n26_20s : codeB Try.prog E cx n26_20 st = thenS (codeB Try.prog E cx n26_21 st) (codeB Try.prog E cx n26_22) := GE.seq_step (by kernel_rfl)
theorem n26_18s : codeB Try.prog E cx n26_18 st = thenS (codeB Try.prog E cx n26_19 st) (codeB Try.prog E cx n26_20) := GE.seq_step (by kernel_rfl)
theorem n26_10s : codeB Try.prog E cx n26_10 st = thenS (codeB Try.prog E cx n26_11 st) (codeB Try.prog E cx n26_18) := GE.seq_step (by kernel_rfl)
theorem n26_4s : codeB Try.prog E cx n26_4 st = thenS (codeB Try.prog E cx n26_5 st) (codeB Try.prog E cx n26_10) := GE.seq_step (by kernel_rfl)
theorem n26_2s : codeB Try.prog E cx n26_2 st = thenS (codeB Try.prog E cx n26_3 st) (codeB Try.prog E cx n26_4) := GE.seq_step (by kernel_rfl)
theorem n26_0s : codeB Try.prog E cx n26_0 st = thenS (codeB Try.prog E cx n26_1 st) (codeB Try.prog E cx n26_2) := GE.seq_step (by kernel_rfl)
noncomputable def n27_0 : Code := bodyOf Try.f27
noncomputable def n27_1 : Code := cl n27_0
noncomputable def q27_1 : List Oper := opsOf n27_1
noncomputable def n27_2 : Code := cr n27_0
noncomputable def n27_3 : Code := cl n27_2
noncomputable def q27_3 : List Oper := opsOf n27_3
noncomputable def n27_4 : Code := cr n27_2
noncomputable def n27_5 : Code := cl n27_4
noncomputable def n27_6 : Code := cl n27_5
noncomputable def n27_7 : Code := cl n27_6
noncomputable def q27_7 : List Oper := opsOf n27_7
noncomputable def n27_8 : Code := cr n27_6
noncomputable def n27_9 : Code := cl n27_8
noncomputable def n27_10 : Code := cl n27_9
noncomputable def q27_10 : List Oper := opsOf n27_10
noncomputable def n27_11 : Code := cr n27_9
noncomputable def n27_12 : Code := cr n27_8
noncomputable def n27_13 : Code := cl n27_12
noncomputable def q27_13 : List Oper := opsOf n27_13
noncomputable def n27_14 : Code := cr n27_12
noncomputable def n27_15 : Code := cl n27_14
noncomputable def n27_16 : Code := cl n27_15
noncomputable def q27_16 : List Oper := opsOf n27_16
noncomputable def n27_17 : Code := cr n27_15
noncomputable def n27_18 : Code := cr n27_14
noncomputable def n27_19 : Code := cr n27_4
noncomputable def n27_20 : Code := cl n27_19
noncomputable def q27_20 : List Oper := opsOf n27_20
noncomputable def n27_21 : Code := cr n27_19
noncomputable def n27_22 : Code := cl n27_21
noncomputable def q27_22 : List Oper := opsOf n27_22
noncomputable def n27_23 : Code := cr n27_21
noncomputable def n27_24 : Code := cl n27_23
noncomputable def n27_25 : Code := cl n27_24
noncomputable def q27_25 : List Oper := opsOf n27_25
noncomputable def n27_26 : Code := cr n27_24
noncomputable def n27_27 : Code := cl n27_26
noncomputable def n27_28 : Code := cl n27_27
noncomputable def n27_29 : Code := cl n27_28
noncomputable def n27_30 : Code := cl n27_29
noncomputable def q27_30 : List Oper := opsOf n27_30
noncomputable def n27_31 : Code := cr n27_29
noncomputable def n27_32 : Code := cl n27_31
noncomputable def n27_33 : Code := cr n27_31
noncomputable def n27_34 : Code := cr n27_28
noncomputable def n27_35 : Code := cl n27_34
noncomputable def n27_36 : Code := cl n27_35
noncomputable def n27_37 : Code := cl n27_36
noncomputable def n27_38 : Code := cl n27_37
noncomputable def q27_38 : List Oper := opsOf n27_38
noncomputable def n27_39 : Code := cr n27_37
noncomputable def n27_40 : Code := cl n27_39
noncomputable def n27_41 : Code := cr n27_39
noncomputable def n27_42 : Code := cr n27_36
noncomputable def n27_43 : Code := cl n27_42
noncomputable def n27_44 : Code := cl n27_43
noncomputable def q27_44 : List Oper := opsOf n27_44
noncomputable def n27_45 : Code := cr n27_43
noncomputable def n27_46 : Code := cl n27_45
noncomputable def q27_46 : List Oper := opsOf n27_46
noncomputable def n27_47 : Code := cr n27_45
noncomputable def n27_48 : Code := cl n27_47
noncomputable def n27_49 : Code := cl n27_48
noncomputable def q27_49 : List Oper := opsOf n27_49
noncomputable def n27_50 : Code := cr n27_48
noncomputable def n27_51 : Code := cr n27_47
noncomputable def n27_52 : Code := cr n27_42
noncomputable def n27_53 : Code := cl n27_52
noncomputable def q27_53 : List Oper := opsOf n27_53
noncomputable def n27_54 : Code := cr n27_52
noncomputable def q27_54 : List Oper := opsOf n27_54
noncomputable def n27_55 : Code := cr n27_34
noncomputable def q27_55 : List Oper := opsOf n27_55
noncomputable def n27_56 : Code := cr n27_23
noncomputable def n27_57 : Code := cl n27_56
noncomputable def q27_57 : List Oper := opsOf n27_57
noncomputable def n27_58 : Code := cr n27_56
theorem body27 : Try.f27.body = some n27_0 := by kernel_rfl
theorem run27 (E : Ev) (args : List Value) (h : List Blk) (hl : args.length ≤ 68) : runB Try.prog E 27 args h = endS Try.prog [.tmp 4, .tmp 5] h.length (codeB Try.prog E ⟨27, 68, h.length, none⟩ n27_0 ⟨enumT 0 args, h, []⟩) := GE.run_step Try.func27 body27 (by kernel_rfl) (by decide) (by kernel_rfl) hl
theorem n27_1s : codeB Try.prog E ⟨f, 68, b, ro⟩ n27_1 st = plainS (runOps Try.prog E b q27_1 (ops [false] Try.f27) st) := GE.region_step (id := 0) (GE.reg_of (by kernel_rfl)) (by kernel_rfl)
theorem n27_3s : codeB Try.prog E ⟨f, 68, b, ro⟩ n27_3 st = plainS (runOps Try.prog E b q27_3 (ops [true, false] Try.f27) st) := GE.region_step (id := 1) (GE.reg_of (by kernel_rfl)) (by kernel_rfl)
theorem n27_7s : codeB Try.prog E ⟨f, 68, b, ro⟩ n27_7 st = plainS (runOps Try.prog E b q27_7 (ops [true, true, false, false, false] Try.f27) st) := GE.region_step (id := 2) (GE.reg_of (by kernel_rfl)) (by kernel_rfl)
theorem n27_10s : codeB Try.prog E ⟨f, 68, b, ro⟩ n27_10 st = plainS (runOps Try.prog E b q27_10 (ops [true, true, false, false, true, false, false] Try.f27) st) := GE.region_step (id := 3) (GE.reg_of (by kernel_rfl)) (by kernel_rfl)
theorem n27_11s : codeB Try.prog LL ⟨27, 68, b, ro⟩ n27_11 st = normS b ⟨[4, 5], [⟨4, 0, 1, true⟩]⟩ .ret st := GE.ret_step (by kernel_rfl) (by kernel_rfl)
theorem n27_9s : codeB Try.prog E cx n27_9 st = thenS (codeB Try.prog E cx n27_10 st) (codeB Try.prog E cx n27_11) := GE.seq_step (by kernel_rfl)
theorem n27_13s : codeB Try.prog E ⟨f, 68, b, ro⟩ n27_13 st = plainS (runOps Try.prog E b q27_13 (ops [true, true, false, false, true, true, false] Try.f27) st) := GE.region_step (id := 4) (GE.reg_of (by kernel_rfl)) (by kernel_rfl)
theorem n27_16s : codeB Try.prog E ⟨f, 68, b, ro⟩ n27_16 st = plainS (runOps Try.prog E b q27_16 (ops [true, true, false, false, true, true, true, false, false] Try.f27) st) := GE.region_step (id := 5) (GE.reg_of (by kernel_rfl)) (by kernel_rfl)
theorem n27_17s : codeB Try.prog LL ⟨27, 68, b, ro⟩ n27_17 st = normS b ⟨[4, 5], [⟨4, 0, 1, true⟩]⟩ .ret st := GE.ret_step (by kernel_rfl) (by kernel_rfl)
theorem n27_15s : codeB Try.prog E cx n27_15 st = thenS (codeB Try.prog E cx n27_16 st) (codeB Try.prog E cx n27_17) := GE.seq_step (by kernel_rfl)
theorem n27_18s : codeB Try.prog E cx n27_18 st = some (.normal, st) := GE.skip_step (by kernel_rfl)
theorem n27_14s : codeB Try.prog E cx n27_14 st = condS (codeB Try.prog E cx n27_15) (codeB Try.prog E cx n27_18) (lk st.σ 21) st := GE.cond_step (c := .tmp 21) (by kernel_rfl)
theorem n27_12s : codeB Try.prog E cx n27_12 st = thenS (codeB Try.prog E cx n27_13 st) (codeB Try.prog E cx n27_14) := GE.seq_step (by kernel_rfl)
theorem n27_8s : codeB Try.prog E cx n27_8 st = condS (codeB Try.prog E cx n27_9) (codeB Try.prog E cx n27_12) (lk st.σ 17) st := GE.cond_step (c := .tmp 17) (by kernel_rfl)
theorem n27_6s : codeB Try.prog E cx n27_6 st = thenS (codeB Try.prog E cx n27_7 st) (codeB Try.prog E cx n27_8) := GE.seq_step (by kernel_rfl)
theorem n27_5s : codeB Try.prog E cx n27_5 st = blockS 0 (codeB Try.prog E cx n27_6 st) st := GE.block_step (by kernel_rfl)
theorem n27_20s : codeB Try.prog E ⟨f, 68, b, ro⟩ n27_20 st = plainS (runOps Try.prog E b q27_20 (ops [true, true, true, false] Try.f27) st) := GE.region_step (id := 6) (GE.reg_of (by kernel_rfl)) (by kernel_rfl)
theorem n27_22s : codeB Try.prog E ⟨f, 68, b, ro⟩ n27_22 st = plainS (runOps Try.prog E b q27_22 (ops [true, true, true, true, false] Try.f27) st) := GE.region_step (id := 7) (GE.reg_of (by kernel_rfl)) (by kernel_rfl)
theorem n27_25s : codeB Try.prog E ⟨f, 68, b, ro⟩ n27_25 st = plainS (runOps Try.prog E b q27_25 (ops [true, true, true, true, true, false, false] Try.f27) st) := GE.region_step (id := 8) (GE.reg_of (by kernel_rfl)) (by kernel_rfl)
theorem n27_30s : codeB Try.prog E ⟨f, 68, b, ro⟩ n27_30 st = plainS (runOps Try.prog E b q27_30 (ops [true, true, true, true, true, false, true, false, false, false, false] Try.f27) st) := GE.region_step (id := 9) (GE.reg_of (by kernel_rfl)) (by kernel_rfl)
theorem n27_32s : codeB Try.prog E cx n27_32 st = some (.normal, st) := GE.skip_step (by kernel_rfl)
theorem n27_33s : codeB Try.prog LL ⟨27, 68, b, ro⟩ n27_33 st = normS b ⟨[8], [⟨8, 0, 1, true⟩]⟩ (.exit 1) st := GE.exit_step (by kernel_rfl) (by kernel_rfl)
theorem n27_31s : codeB Try.prog E cx n27_31 st = condS (codeB Try.prog E cx n27_32) (codeB Try.prog E cx n27_33) (lk st.σ 35) st := GE.cond_step (c := .tmp 35) (by kernel_rfl)
theorem n27_29s : codeB Try.prog E cx n27_29 st = thenS (codeB Try.prog E cx n27_30 st) (codeB Try.prog E cx n27_31) := GE.seq_step (by kernel_rfl)
theorem n27_38s : codeB Try.prog E ⟨f, 68, b, ro⟩ n27_38 st = plainS (runOps Try.prog E b q27_38 (ops [true, true, true, true, true, false, true, false, false, true, false, false, false, false] Try.f27) st) := GE.region_step (id := 11) (GE.reg_of (by kernel_rfl)) (by kernel_rfl)
theorem n27_40s : codeB Try.prog LL ⟨27, 68, b, ro⟩ n27_40 st = normS b ⟨[0, 1, 6, 8, 9, 10], [⟨0, 0, 2, true⟩, ⟨8, 0, 1, true⟩]⟩ (.exit 2) st := GE.exit_step (by kernel_rfl) (by kernel_rfl)
theorem n27_41s : codeB Try.prog E cx n27_41 st = some (.normal, st) := GE.skip_step (by kernel_rfl)
theorem n27_39s : codeB Try.prog E cx n27_39 st = condS (codeB Try.prog E cx n27_40) (codeB Try.prog E cx n27_41) (lk st.σ 45) st := GE.cond_step (c := .tmp 45) (by kernel_rfl)
theorem n27_37s : codeB Try.prog E cx n27_37 st = thenS (codeB Try.prog E cx n27_38 st) (codeB Try.prog E cx n27_39) := GE.seq_step (by kernel_rfl)
theorem n27_44s : codeB Try.prog E ⟨f, 68, b, ro⟩ n27_44 st = drawS [0, 1, 3, 7, 0, 0, 48, 127, 255] (runOpsF Try.prog E b q27_44 (ops [true, true, true, true, true, false, true, false, false, true, false, false, true, false, false] Try.f27) st) := GE.draw_step (id := 12) (GE.reg_of (by kernel_rfl)) (by kernel_rfl) (by kernel_rfl) (by kernel_rfl)
theorem n27_46s : codeB Try.prog E ⟨f, 68, b, ro⟩ n27_46 st = plainS (runOps Try.prog E b q27_46 (ops [true, true, true, true, true, false, true, false, false, true, false, false, true, false, true, false] Try.f27) st) := GE.region_step (id := 13) (GE.reg_of (by kernel_rfl)) (by kernel_rfl)
theorem n27_49s : codeB Try.prog E ⟨f, 68, b, ro⟩ n27_49 st = plainS (runOps Try.prog E b q27_49 (ops [true, true, true, true, true, false, true, false, false, true, false, false, true, false, true, true, false, false] Try.f27) st) := GE.region_step (id := 14) (GE.reg_of (by kernel_rfl)) (by kernel_rfl)
theorem n27_50s : codeB Try.prog LL ⟨27, 68, b, ro⟩ n27_50 st = normS b ⟨[0, 1, 6, 8, 9, 10], [⟨0, 0, 2, true⟩, ⟨8, 0, 1, true⟩]⟩ (.exit 2) st := GE.exit_step (by kernel_rfl) (by kernel_rfl)
theorem n27_48s : codeB Try.prog E cx n27_48 st = thenS (codeB Try.prog E cx n27_49 st) (codeB Try.prog E cx n27_50) := GE.seq_step (by kernel_rfl)
theorem n27_51s : codeB Try.prog E cx n27_51 st = some (.normal, st) := GE.skip_step (by kernel_rfl)
theorem n27_47s : codeB Try.prog E cx n27_47 st = condS (codeB Try.prog E cx n27_48) (codeB Try.prog E cx n27_51) (lk st.σ 56) st := GE.cond_step (c := .tmp 56) (by kernel_rfl)
theorem n27_45s : codeB Try.prog E cx n27_45 st = thenS (codeB Try.prog E cx n27_46 st) (codeB Try.prog E cx n27_47) := GE.seq_step (by kernel_rfl)
theorem n27_43s : codeB Try.prog E cx n27_43 st = thenS (codeB Try.prog E cx n27_44 st) (codeB Try.prog E cx n27_45) := GE.seq_step (by kernel_rfl)
theorem n27_53s : codeB Try.prog E ⟨f, 68, b, ro⟩ n27_53 st = plainS (runOps Try.prog E b q27_53 (ops [true, true, true, true, true, false, true, false, false, true, false, false, true, true, false] Try.f27) st) := GE.region_step (id := 15) (GE.reg_of (by kernel_rfl)) (by kernel_rfl)
theorem n27_54s : codeB Try.prog E ⟨f, 68, b, ro⟩ n27_54 st = plainS (runOps Try.prog E b q27_54 (ops [true, true, true, true, true, false, true, false, false, true, false, false, true, true, true] Try.f27) st) := GE.region_step (id := 16) (GE.reg_of (by kernel_rfl)) (by kernel_rfl)
theorem n27_52s : codeB Try.prog E cx n27_52 st = thenS (codeB Try.prog E cx n27_53 st) (codeB Try.prog E cx n27_54) := GE.seq_step (by kernel_rfl)
theorem n27_42s : codeB Try.prog E cx n27_42 st = thenS (codeB Try.prog E cx n27_43 st) (codeB Try.prog E cx n27_52) := GE.seq_step (by kernel_rfl)
theorem n27_36s : codeB Try.prog E cx n27_36 st = thenS (codeB Try.prog E cx n27_37 st) (codeB Try.prog E cx n27_42) := GE.seq_step (by kernel_rfl)
theorem n27_35s : codeB Try.prog E cx n27_35 st = blockS 2 (codeB Try.prog E cx n27_36 st) st := GE.block_step (by kernel_rfl)
theorem n27_55s : codeB Try.prog E ⟨f, 68, b, ro⟩ n27_55 st = plainS (runOps Try.prog E b q27_55 (ops [true, true, true, true, true, false, true, false, false, true, true] Try.f27) st) := GE.region_step (id := 10) (GE.reg_of (by kernel_rfl)) (by kernel_rfl)
theorem n27_34s : codeB Try.prog E cx n27_34 st = thenS (codeB Try.prog E cx n27_35 st) (codeB Try.prog E cx n27_55) := GE.seq_step (by kernel_rfl)
theorem n27_28s : codeB Try.prog E cx n27_28 st = thenS (codeB Try.prog E cx n27_29 st) (codeB Try.prog E cx n27_34) := GE.seq_step (by kernel_rfl)
theorem n27_27k : LL.kp (⟨27, 68, b, ro⟩ : Cx).fn (4 * rid n27_28 + 3) = some ⟨[0, 1, 6, 8, 9, 10], [⟨0, 0, 2, true⟩, ⟨8, 0, 1, true⟩]⟩ := by kernel_rfl
theorem n27_27s : codeB Try.prog LL ⟨27, 68, b, ro⟩ n27_27 st = headS b ⟨[0, 1, 6, 8, 9, 10], [⟨0, 0, 2, true⟩, ⟨8, 0, 1, true⟩]⟩ st (lpB Try.prog LL ⟨27, 68, b, ro⟩ n27_27 n27_28) := GE.lpB_step (by kernel_rfl) (n27_27k b ro)
theorem n27_27g : LL.code ⟨27, 68, b, ro⟩ n27_27 st = headS b ⟨[0, 1, 6, 8, 9, 10], [⟨0, 0, 2, true⟩, ⟨8, 0, 1, true⟩]⟩ st (lpB Try.prog LL ⟨27, 68, b, ro⟩ n27_27 n27_28) := GE.lpB_again (by kernel_rfl) (n27_27k b ro)
theorem n27_26s : codeB Try.prog E cx n27_26 st = blockS 1 (codeB Try.prog E cx n27_27 st) st := GE.block_step (by kernel_rfl)
theorem n27_24s : codeB Try.prog E cx n27_24 st = thenS (codeB Try.prog E cx n27_25 st) (codeB Try.prog E cx n27_26) := GE.seq_step (by kernel_rfl)
theorem n27_57s : codeB Try.prog E ⟨f, 68, b, ro⟩ n27_57 st = plainS (runOps Try.prog E b q27_57 (ops [true, true, true, true, true, true, false] Try.f27) st) := GE.region_step (id := 17) (GE.reg_of (by kernel_rfl)) (by kernel_rfl)
theorem n27_58s : codeB Try.prog LL ⟨27, 68, b, ro⟩ n27_58 st = normS b ⟨[4, 5], [⟨4, 0, 1, true⟩]⟩ .ret st := GE.ret_step (by kernel_rfl) (by kernel_rfl)
theorem n27_56s : codeB Try.prog E cx n27_56 st = thenS (codeB Try.prog E cx n27_57 st) (codeB Try.prog E cx n27_58) := GE.seq_step (by kernel_rfl)
theorem n27_23s : codeB Try.prog E cx n27_23 st = thenS (codeB Try.prog E cx n27_24 st) (codeB Try.prog E cx n27_56) := GE.seq_step (by kernel_rfl)
theorem n27_21s : codeB Try.prog E cx n27_21 st = thenS (codeB Try.prog E cx n27_22 st) (codeB Try.prog E cx n27_23) := GE.seq_step (by kernel_rfl)
theorem n27_19s : codeB Try.prog E cx n27_19 st = thenS (codeB Try.prog E cx n27_20 st) (codeB Try.prog E cx n27_21) := GE.seq_step (by kernel_rfl)
theorem n27_4s : codeB Try.prog E cx n27_4 st = thenS (codeB Try.prog E cx n27_5 st) (codeB Try.prog E cx n27_19) := GE.seq_step (by kernel_rfl)
theorem n27_2s : codeB Try.prog E cx n27_2 st = thenS (codeB Try.prog E cx n27_3 st) (codeB Try.prog E cx n27_4) := GE.seq_step (by kernel_rfl)
theorem n27_0s : codeB Try.prog E cx n27_0 st = thenS (codeB Try.prog E cx n27_1 st) (codeB Try.prog E cx n27_2) := GE.seq_step (by kernel_rfl)
noncomputable def n28_0 : Code := bodyOf Try.f28
noncomputable def n28_1 : Code := cl n28_0
noncomputable def q28_1 : List Oper := opsOf n28_1
noncomputable def n28_2 : Code := cr n28_0
noncomputable def n28_3 : Code := cl n28_2
noncomputable def q28_3 : List Oper := opsOf n28_3
noncomputable def n28_4 : Code := cr n28_2
noncomputable def n28_5 : Code := cl n28_4
noncomputable def n28_6 : Code := cl n28_5
noncomputable def q28_6 : List Oper := opsOf n28_6
noncomputable def n28_7 : Code := cr n28_5
noncomputable def n28_8 : Code := cl n28_7
noncomputable def n28_9 : Code := cl n28_8
noncomputable def q28_9 : List Oper := opsOf n28_9
noncomputable def n28_10 : Code := cr n28_8
noncomputable def n28_11 : Code := cr n28_7
noncomputable def n28_12 : Code := cr n28_4
noncomputable def n28_13 : Code := cl n28_12
noncomputable def q28_13 : List Oper := opsOf n28_13
noncomputable def n28_14 : Code := cr n28_12
noncomputable def n28_15 : Code := cl n28_14
noncomputable def n28_16 : Code := cl n28_15
noncomputable def q28_16 : List Oper := opsOf n28_16
noncomputable def n28_17 : Code := cr n28_15
noncomputable def n28_18 : Code := cl n28_17
noncomputable def n28_19 : Code := cl n28_18
noncomputable def q28_19 : List Oper := opsOf n28_19
noncomputable def n28_20 : Code := cr n28_18
noncomputable def n28_21 : Code := cr n28_17
noncomputable def n28_22 : Code := cr n28_14
noncomputable def n28_23 : Code := cl n28_22
noncomputable def q28_23 : List Oper := opsOf n28_23
noncomputable def n28_24 : Code := cr n28_22
noncomputable def n28_25 : Code := cl n28_24
noncomputable def q28_25 : List Oper := opsOf n28_25
noncomputable def n28_26 : Code := cr n28_24
noncomputable def n28_27 : Code := cl n28_26
noncomputable def n28_28 : Code := cl n28_27
noncomputable def n28_29 : Code := cl n28_28
noncomputable def n28_30 : Code := cl n28_29
noncomputable def n28_31 : Code := cl n28_30
noncomputable def q28_31 : List Oper := opsOf n28_31
noncomputable def n28_32 : Code := cr n28_30
noncomputable def n28_33 : Code := cl n28_32
noncomputable def n28_34 : Code := cr n28_32
noncomputable def n28_35 : Code := cr n28_29
noncomputable def n28_36 : Code := cl n28_35
noncomputable def n28_37 : Code := cl n28_36
noncomputable def q28_37 : List Oper := opsOf n28_37
noncomputable def n28_38 : Code := cr n28_36
noncomputable def n28_39 : Code := cl n28_38
noncomputable def n28_40 : Code := cl n28_39
noncomputable def n28_41 : Code := cl n28_40
noncomputable def n28_42 : Code := cl n28_41
noncomputable def q28_42 : List Oper := opsOf n28_42
noncomputable def n28_43 : Code := cr n28_41
noncomputable def n28_44 : Code := cl n28_43
noncomputable def n28_45 : Code := cr n28_43
noncomputable def n28_46 : Code := cr n28_40
noncomputable def n28_47 : Code := cl n28_46
noncomputable def n28_48 : Code := cl n28_47
noncomputable def n28_49 : Code := cl n28_48
noncomputable def n28_50 : Code := cl n28_49
noncomputable def q28_50 : List Oper := opsOf n28_50
noncomputable def n28_51 : Code := cr n28_49
noncomputable def n28_52 : Code := cl n28_51
noncomputable def n28_53 : Code := cr n28_51
noncomputable def n28_54 : Code := cr n28_48
noncomputable def n28_55 : Code := cl n28_54
noncomputable def n28_56 : Code := cl n28_55
noncomputable def q28_56 : List Oper := opsOf n28_56
noncomputable def n28_57 : Code := cr n28_55
noncomputable def n28_58 : Code := cl n28_57
noncomputable def n28_59 : Code := cl n28_58
noncomputable def q28_59 : List Oper := opsOf n28_59
noncomputable def n28_60 : Code := cr n28_58
noncomputable def n28_61 : Code := cr n28_57
noncomputable def n28_62 : Code := cr n28_54
noncomputable def q28_62 : List Oper := opsOf n28_62
noncomputable def n28_63 : Code := cr n28_46
noncomputable def q28_63 : List Oper := opsOf n28_63
noncomputable def n28_64 : Code := cr n28_26
noncomputable def n28_65 : Code := cl n28_64
noncomputable def q28_65 : List Oper := opsOf n28_65
noncomputable def n28_66 : Code := cr n28_64
theorem body28 : Try.f28.body = some n28_0 := by kernel_rfl
theorem run28 (E : Ev) (args : List Value) (h : List Blk) (hl : args.length ≤ 68) : runB Try.prog E 28 args h = endS Try.prog [.tmp 4, .tmp 5] h.length (codeB Try.prog E ⟨28, 68, h.length, none⟩ n28_0 ⟨enumT 0 args, h, []⟩) := GE.run_step Try.func28 body28 (by kernel_rfl) (by decide) (by kernel_rfl) hl
theorem n28_1s : codeB Try.prog E ⟨f, 68, b, ro⟩ n28_1 st = plainS (runOps Try.prog E b q28_1 (ops [false] Try.f28) st) := GE.region_step (id := 0) (GE.reg_of (by kernel_rfl)) (by kernel_rfl)
theorem n28_3s : codeB Try.prog E ⟨f, 68, b, ro⟩ n28_3 st = plainS (runOps Try.prog E b q28_3 (ops [true, false] Try.f28) st) := GE.region_step (id := 1) (GE.reg_of (by kernel_rfl)) (by kernel_rfl)
theorem n28_6s : codeB Try.prog E ⟨f, 68, b, ro⟩ n28_6 st = plainS (runOps Try.prog E b q28_6 (ops [true, true, false, false] Try.f28) st) := GE.region_step (id := 2) (GE.reg_of (by kernel_rfl)) (by kernel_rfl)
theorem n28_9s : codeB Try.prog E ⟨f, 68, b, ro⟩ n28_9 st = plainS (runOps Try.prog E b q28_9 (ops [true, true, false, true, false, false] Try.f28) st) := GE.region_step (id := 3) (GE.reg_of (by kernel_rfl)) (by kernel_rfl)
theorem n28_10s : codeB Try.prog LL ⟨28, 68, b, ro⟩ n28_10 st = normS b ⟨[4, 5], [⟨4, 0, 1, true⟩]⟩ .ret st := GE.ret_step (by kernel_rfl) (by kernel_rfl)
theorem n28_8s : codeB Try.prog E cx n28_8 st = thenS (codeB Try.prog E cx n28_9 st) (codeB Try.prog E cx n28_10) := GE.seq_step (by kernel_rfl)
theorem n28_11s : codeB Try.prog E cx n28_11 st = some (.normal, st) := GE.skip_step (by kernel_rfl)
theorem n28_7s : codeB Try.prog E cx n28_7 st = condS (codeB Try.prog E cx n28_8) (codeB Try.prog E cx n28_11) (lk st.σ 14) st := GE.cond_step (c := .tmp 14) (by kernel_rfl)
theorem n28_5s : codeB Try.prog E cx n28_5 st = thenS (codeB Try.prog E cx n28_6 st) (codeB Try.prog E cx n28_7) := GE.seq_step (by kernel_rfl)
theorem n28_13s : codeB Try.prog E ⟨f, 68, b, ro⟩ n28_13 st = plainS (runOps Try.prog E b q28_13 (ops [true, true, true, false] Try.f28) st) := GE.region_step (id := 4) (GE.reg_of (by kernel_rfl)) (by kernel_rfl)
theorem n28_16s : codeB Try.prog E ⟨f, 68, b, ro⟩ n28_16 st = plainS (runOps Try.prog E b q28_16 (ops [true, true, true, true, false, false] Try.f28) st) := GE.region_step (id := 5) (GE.reg_of (by kernel_rfl)) (by kernel_rfl)
theorem n28_19s : codeB Try.prog E ⟨f, 68, b, ro⟩ n28_19 st = plainS (runOps Try.prog E b q28_19 (ops [true, true, true, true, false, true, false, false] Try.f28) st) := GE.region_step (id := 6) (GE.reg_of (by kernel_rfl)) (by kernel_rfl)
theorem n28_20s : codeB Try.prog LL ⟨28, 68, b, ro⟩ n28_20 st = normS b ⟨[4, 5], [⟨4, 0, 1, true⟩]⟩ .ret st := GE.ret_step (by kernel_rfl) (by kernel_rfl)
theorem n28_18s : codeB Try.prog E cx n28_18 st = thenS (codeB Try.prog E cx n28_19 st) (codeB Try.prog E cx n28_20) := GE.seq_step (by kernel_rfl)
theorem n28_21s : codeB Try.prog E cx n28_21 st = some (.normal, st) := GE.skip_step (by kernel_rfl)
theorem n28_17s : codeB Try.prog E cx n28_17 st = condS (codeB Try.prog E cx n28_18) (codeB Try.prog E cx n28_21) (lk st.σ 24) st := GE.cond_step (c := .tmp 24) (by kernel_rfl)
theorem n28_15s : codeB Try.prog E cx n28_15 st = thenS (codeB Try.prog E cx n28_16 st) (codeB Try.prog E cx n28_17) := GE.seq_step (by kernel_rfl)
theorem n28_23s : codeB Try.prog E ⟨f, 68, b, ro⟩ n28_23 st = plainS (runOps Try.prog E b q28_23 (ops [true, true, true, true, true, false] Try.f28) st) := GE.region_step (id := 7) (GE.reg_of (by kernel_rfl)) (by kernel_rfl)
theorem n28_25s : codeB Try.prog E ⟨f, 68, b, ro⟩ n28_25 st = plainS (runOps Try.prog E b q28_25 (ops [true, true, true, true, true, true, false] Try.f28) st) := GE.region_step (id := 8) (GE.reg_of (by kernel_rfl)) (by kernel_rfl)
theorem n28_31s : codeB Try.prog E ⟨f, 68, b, ro⟩ n28_31 st = plainS (runOps Try.prog E b q28_31 (ops [true, true, true, true, true, true, true, false, false, false, false, false] Try.f28) st) := GE.region_step (id := 9) (GE.reg_of (by kernel_rfl)) (by kernel_rfl)
theorem n28_33s : codeB Try.prog E cx n28_33 st = some (.normal, st) := GE.skip_step (by kernel_rfl)
theorem n28_34s : codeB Try.prog LL ⟨28, 68, b, ro⟩ n28_34 st = normS b ⟨[8], [⟨8, 0, 1, true⟩]⟩ (.exit 0) st := GE.exit_step (by kernel_rfl) (by kernel_rfl)
theorem n28_32s : codeB Try.prog E cx n28_32 st = condS (codeB Try.prog E cx n28_33) (codeB Try.prog E cx n28_34) (lk st.σ 29) st := GE.cond_step (c := .tmp 29) (by kernel_rfl)
theorem n28_30s : codeB Try.prog E cx n28_30 st = thenS (codeB Try.prog E cx n28_31 st) (codeB Try.prog E cx n28_32) := GE.seq_step (by kernel_rfl)
theorem n28_37s : codeB Try.prog E ⟨f, 68, b, ro⟩ n28_37 st = plainS (runOps Try.prog E b q28_37 (ops [true, true, true, true, true, true, true, false, false, false, true, false, false] Try.f28) st) := GE.region_step (id := 10) (GE.reg_of (by kernel_rfl)) (by kernel_rfl)
theorem n28_42s : codeB Try.prog E ⟨f, 68, b, ro⟩ n28_42 st = plainS (runOps Try.prog E b q28_42 (ops [true, true, true, true, true, true, true, false, false, false, true, false, true, false, false, false, false] Try.f28) st) := GE.region_step (id := 11) (GE.reg_of (by kernel_rfl)) (by kernel_rfl)
theorem n28_44s : codeB Try.prog E cx n28_44 st = some (.normal, st) := GE.skip_step (by kernel_rfl)
theorem n28_45s : codeB Try.prog LL ⟨28, 68, b, ro⟩ n28_45 st = normS b ⟨[0, 1, 7, 8, 9], [⟨0, 0, 2, true⟩, ⟨7, 0, 1, true⟩, ⟨8, 0, 1, true⟩]⟩ (.exit 2) st := GE.exit_step (by kernel_rfl) (by kernel_rfl)
theorem n28_43s : codeB Try.prog E cx n28_43 st = condS (codeB Try.prog E cx n28_44) (codeB Try.prog E cx n28_45) (lk st.σ 33) st := GE.cond_step (c := .tmp 33) (by kernel_rfl)
theorem n28_41s : codeB Try.prog E cx n28_41 st = thenS (codeB Try.prog E cx n28_42 st) (codeB Try.prog E cx n28_43) := GE.seq_step (by kernel_rfl)
theorem n28_50s : codeB Try.prog E ⟨f, 68, b, ro⟩ n28_50 st = plainS (runOps Try.prog E b q28_50 (ops [true, true, true, true, true, true, true, false, false, false, true, false, true, false, false, true, false, false, false, false] Try.f28) st) := GE.region_step (id := 13) (GE.reg_of (by kernel_rfl)) (by kernel_rfl)
theorem n28_52s : codeB Try.prog LL ⟨28, 68, b, ro⟩ n28_52 st = normS b ⟨[10, 0, 1, 7, 8, 9], [⟨0, 0, 2, true⟩, ⟨7, 0, 1, true⟩, ⟨8, 0, 1, true⟩]⟩ (.exit 3) st := GE.exit_step (by kernel_rfl) (by kernel_rfl)
theorem n28_53s : codeB Try.prog E cx n28_53 st = some (.normal, st) := GE.skip_step (by kernel_rfl)
theorem n28_51s : codeB Try.prog E cx n28_51 st = condS (codeB Try.prog E cx n28_52) (codeB Try.prog E cx n28_53) (lk st.σ 40) st := GE.cond_step (c := .tmp 40) (by kernel_rfl)
theorem n28_49s : codeB Try.prog E cx n28_49 st = thenS (codeB Try.prog E cx n28_50 st) (codeB Try.prog E cx n28_51) := GE.seq_step (by kernel_rfl)
theorem n28_56s : codeB Try.prog E ⟨f, 68, b, ro⟩ n28_56 st = plainS (runOps Try.prog E b q28_56 (ops [true, true, true, true, true, true, true, false, false, false, true, false, true, false, false, true, false, false, true, false, false] Try.f28) st) := GE.region_step (id := 14) (GE.reg_of (by kernel_rfl)) (by kernel_rfl)
theorem n28_59s : codeB Try.prog E ⟨f, 68, b, ro⟩ n28_59 st = drawS [0, 0, 2, 7, 0, 0, 32, 112, 255, 511] (runOpsF Try.prog E b q28_59 (ops [true, true, true, true, true, true, true, false, false, false, true, false, true, false, false, true, false, false, true, false, true, false, false] Try.f28) st) := GE.draw_step (id := 15) (GE.reg_of (by kernel_rfl)) (by kernel_rfl) (by kernel_rfl) (by kernel_rfl)
theorem n28_60s : codeB Try.prog LL ⟨28, 68, b, ro⟩ n28_60 st = normS b ⟨[0, 1, 7, 8, 9], [⟨0, 0, 2, true⟩, ⟨7, 0, 1, true⟩, ⟨8, 0, 1, true⟩]⟩ (.exit 2) st := GE.exit_step (by kernel_rfl) (by kernel_rfl)
theorem n28_58s : codeB Try.prog E cx n28_58 st = thenS (codeB Try.prog E cx n28_59 st) (codeB Try.prog E cx n28_60) := GE.seq_step (by kernel_rfl)
theorem n28_61s : codeB Try.prog E cx n28_61 st = some (.normal, st) := GE.skip_step (by kernel_rfl)
theorem n28_57s : codeB Try.prog E cx n28_57 st = condS (codeB Try.prog E cx n28_58) (codeB Try.prog E cx n28_61) (lk st.σ 49) st := GE.cond_step (c := .tmp 49) (by kernel_rfl)
theorem n28_55s : codeB Try.prog E cx n28_55 st = thenS (codeB Try.prog E cx n28_56 st) (codeB Try.prog E cx n28_57) := GE.seq_step (by kernel_rfl)
theorem n28_62s : codeB Try.prog E ⟨f, 68, b, ro⟩ n28_62 st = plainS (runOps Try.prog E b q28_62 (ops [true, true, true, true, true, true, true, false, false, false, true, false, true, false, false, true, false, false, true, true] Try.f28) st) := GE.region_step (id := 16) (GE.reg_of (by kernel_rfl)) (by kernel_rfl)
theorem n28_54s : codeB Try.prog E cx n28_54 st = thenS (codeB Try.prog E cx n28_55 st) (codeB Try.prog E cx n28_62) := GE.seq_step (by kernel_rfl)
theorem n28_48s : codeB Try.prog E cx n28_48 st = thenS (codeB Try.prog E cx n28_49 st) (codeB Try.prog E cx n28_54) := GE.seq_step (by kernel_rfl)
theorem n28_47s : codeB Try.prog E cx n28_47 st = blockS 3 (codeB Try.prog E cx n28_48 st) st := GE.block_step (by kernel_rfl)
theorem n28_63s : codeB Try.prog E ⟨f, 68, b, ro⟩ n28_63 st = plainS (runOps Try.prog E b q28_63 (ops [true, true, true, true, true, true, true, false, false, false, true, false, true, false, false, true, true] Try.f28) st) := GE.region_step (id := 12) (GE.reg_of (by kernel_rfl)) (by kernel_rfl)
theorem n28_46s : codeB Try.prog E cx n28_46 st = thenS (codeB Try.prog E cx n28_47 st) (codeB Try.prog E cx n28_63) := GE.seq_step (by kernel_rfl)
theorem n28_40s : codeB Try.prog E cx n28_40 st = thenS (codeB Try.prog E cx n28_41 st) (codeB Try.prog E cx n28_46) := GE.seq_step (by kernel_rfl)
theorem n28_39k : LL.kp (⟨28, 68, b, ro⟩ : Cx).fn (4 * rid n28_40 + 3) = some ⟨[10, 0, 1, 7, 8, 9], [⟨0, 0, 2, true⟩, ⟨7, 0, 1, true⟩, ⟨8, 0, 1, true⟩]⟩ := by kernel_rfl
theorem n28_39s : codeB Try.prog LL ⟨28, 68, b, ro⟩ n28_39 st = headS b ⟨[10, 0, 1, 7, 8, 9], [⟨0, 0, 2, true⟩, ⟨7, 0, 1, true⟩, ⟨8, 0, 1, true⟩]⟩ st (lpB Try.prog LL ⟨28, 68, b, ro⟩ n28_39 n28_40) := GE.lpB_step (by kernel_rfl) (n28_39k b ro)
theorem n28_39g : LL.code ⟨28, 68, b, ro⟩ n28_39 st = headS b ⟨[10, 0, 1, 7, 8, 9], [⟨0, 0, 2, true⟩, ⟨7, 0, 1, true⟩, ⟨8, 0, 1, true⟩]⟩ st (lpB Try.prog LL ⟨28, 68, b, ro⟩ n28_39 n28_40) := GE.lpB_again (by kernel_rfl) (n28_39k b ro)
theorem n28_38s : codeB Try.prog E cx n28_38 st = blockS 2 (codeB Try.prog E cx n28_39 st) st := GE.block_step (by kernel_rfl)
theorem n28_36s : codeB Try.prog E cx n28_36 st = thenS (codeB Try.prog E cx n28_37 st) (codeB Try.prog E cx n28_38) := GE.seq_step (by kernel_rfl)
theorem n28_35s : codeB Try.prog E cx n28_35 st = blockS 1 (codeB Try.prog E cx n28_36 st) st := GE.block_step (by kernel_rfl)
theorem n28_29s : codeB Try.prog E cx n28_29 st = thenS (codeB Try.prog E cx n28_30 st) (codeB Try.prog E cx n28_35) := GE.seq_step (by kernel_rfl)
theorem n28_28k : LL.kp (⟨28, 68, b, ro⟩ : Cx).fn (4 * rid n28_29 + 3) = some ⟨[0, 1, 7, 8, 9], [⟨0, 0, 2, true⟩, ⟨7, 0, 1, true⟩, ⟨8, 0, 1, true⟩]⟩ := by kernel_rfl
theorem n28_28s : codeB Try.prog LL ⟨28, 68, b, ro⟩ n28_28 st = headS b ⟨[0, 1, 7, 8, 9], [⟨0, 0, 2, true⟩, ⟨7, 0, 1, true⟩, ⟨8, 0, 1, true⟩]⟩ st (lpB Try.prog LL ⟨28, 68, b, ro⟩ n28_28 n28_29) := GE.lpB_step (by kernel_rfl) (n28_28k b ro)
theorem n28_28g : LL.code ⟨28, 68, b, ro⟩ n28_28 st = headS b ⟨[0, 1, 7, 8, 9], [⟨0, 0, 2, true⟩, ⟨7, 0, 1, true⟩, ⟨8, 0, 1, true⟩]⟩ st (lpB Try.prog LL ⟨28, 68, b, ro⟩ n28_28 n28_29) := GE.lpB_again (by kernel_rfl) (n28_28k b ro)
theorem n28_27s : codeB Try.prog E cx n28_27 st = blockS 0 (codeB Try.prog E cx n28_28 st) st := GE.block_step (by kernel_rfl)
theorem n28_65s : codeB Try.prog E ⟨f, 68, b, ro⟩ n28_65 st = plainS (runOps Try.prog E b q28_65 (ops [true, true, true, true, true, true, true, true, false] Try.f28) st) := GE.region_step (id := 17) (GE.reg_of (by kernel_rfl)) (by kernel_rfl)
theorem n28_66s : codeB Try.prog LL ⟨28, 68, b, ro⟩ n28_66 st = normS b ⟨[4, 5], [⟨4, 0, 1, true⟩]⟩ .ret st := GE.ret_step (by kernel_rfl) (by kernel_rfl)
theorem n28_64s : codeB Try.prog E cx n28_64 st = thenS (codeB Try.prog E cx n28_65 st) (codeB Try.prog E cx n28_66) := GE.seq_step (by kernel_rfl)
theorem n28_26s : codeB Try.prog E cx n28_26 st = thenS (codeB Try.prog E cx n28_27 st) (codeB Try.prog E cx n28_64) := GE.seq_step (by kernel_rfl)
theorem n28_24s : codeB Try.prog E cx n28_24 st = thenS (codeB Try.prog E cx n28_25 st) (codeB Try.prog E cx n28_26) := GE.seq_step (by kernel_rfl)
theorem n28_22s : codeB Try.prog E cx n28_22 st = thenS (codeB Try.prog E cx n28_23 st) (codeB Try.prog E cx n28_24) := GE.seq_step (by kernel_rfl)
theorem n28_14s : codeB Try.prog E cx n28_14 st = thenS (codeB Try.prog E cx n28_15 st) (codeB Try.prog E cx n28_22) := GE.seq_step (by kernel_rfl)
theorem n28_12s : codeB Try.prog E cx n28_12 st = thenS (codeB Try.prog E cx n28_13 st) (codeB Try.prog E cx n28_14) := GE.seq_step (by kernel_rfl)
theorem n28_4s : codeB Try.prog E cx n28_4 st = thenS (codeB Try.prog E cx n28_5 st) (codeB Try.prog E cx n28_12) := GE.seq_step (by kernel_rfl)
theorem n28_2s : codeB Try.prog E cx n28_2 st = thenS (codeB Try.prog E cx n28_3 st) (codeB Try.prog E cx n28_4) := GE.seq_step (by kernel_rfl)
theorem n28_0s : codeB Try.prog E cx n28_0 st = thenS (codeB Try.prog E cx n28_1 st) (codeB Try.prog E cx n28_2) := GE.seq_step (by kernel_rfl)
noncomputable def n37_0 : Code := bodyOf Try.f37
noncomputable def n37_1 : Code := cl n37_0
noncomputable def q37_1 : List Oper := opsOf n37_1
noncomputable def n37_2 : Code := cr n37_0
noncomputable def n37_3 : Code := cl n37_2
noncomputable def n37_4 : Code := cl n37_3
noncomputable def q37_4 : List Oper := opsOf n37_4
noncomputable def n37_5 : Code := cr n37_3
noncomputable def n37_6 : Code := cl n37_5
noncomputable def q37_6 : List Oper := opsOf n37_6
noncomputable def n37_7 : Code := cr n37_5
noncomputable def n37_8 : Code := cl n37_7
noncomputable def n37_9 : Code := cl n37_8
noncomputable def q37_9 : List Oper := opsOf n37_9
noncomputable def n37_10 : Code := cr n37_8
noncomputable def n37_11 : Code := cr n37_7
noncomputable def n37_12 : Code := cr n37_2
noncomputable def n37_13 : Code := cl n37_12
noncomputable def n37_14 : Code := cl n37_13
noncomputable def q37_14 : List Oper := opsOf n37_14
noncomputable def n37_15 : Code := cr n37_13
noncomputable def n37_16 : Code := cl n37_15
noncomputable def q37_16 : List Oper := opsOf n37_16
noncomputable def n37_17 : Code := cr n37_15
noncomputable def n37_18 : Code := cl n37_17
noncomputable def n37_19 : Code := cl n37_18
noncomputable def q37_19 : List Oper := opsOf n37_19
noncomputable def n37_20 : Code := cr n37_18
noncomputable def n37_21 : Code := cr n37_17
noncomputable def n37_22 : Code := cr n37_12
noncomputable def n37_23 : Code := cl n37_22
noncomputable def q37_23 : List Oper := opsOf n37_23
noncomputable def n37_24 : Code := cr n37_22
theorem body37 : Try.f37.body = some n37_0 := by kernel_rfl
theorem run37 (E : Ev) (args : List Value) (h : List Blk) (hl : args.length ≤ 23) : runB Try.prog E 37 args h = endS Try.prog [.tmp 4] h.length (codeB Try.prog E ⟨37, 23, h.length, none⟩ n37_0 ⟨enumT 0 args, h, []⟩) := GE.run_step Try.func37 body37 (by kernel_rfl) (by decide) (by kernel_rfl) hl
theorem n37_1s : codeB Try.prog E ⟨f, 23, b, ro⟩ n37_1 st = plainS (runOps Try.prog E b q37_1 (ops [false] Try.f37) st) := GE.region_step (id := 0) (GE.reg_of (by kernel_rfl)) (by kernel_rfl)
theorem n37_4s : codeB Try.prog E ⟨f, 23, b, ro⟩ n37_4 st = plainS (runOps Try.prog E b q37_4 (ops [true, false, false] Try.f37) st) := GE.region_step (id := 1) (GE.reg_of (by kernel_rfl)) (by kernel_rfl)
theorem n37_6s : codeB Try.prog E ⟨f, 23, b, ro⟩ n37_6 st = plainS (runOps Try.prog E b q37_6 (ops [true, false, true, false] Try.f37) st) := GE.region_step (id := 2) (GE.reg_of (by kernel_rfl)) (by kernel_rfl)
theorem n37_9s : codeB Try.prog E ⟨f, 23, b, ro⟩ n37_9 st = plainS (runOps Try.prog E b q37_9 (ops [true, false, true, true, false, false] Try.f37) st) := GE.region_step (id := 3) (GE.reg_of (by kernel_rfl)) (by kernel_rfl)
theorem n37_10s : codeB Try.prog LL ⟨37, 23, b, ro⟩ n37_10 st = normS b ⟨[4], []⟩ .ret st := GE.ret_step (by kernel_rfl) (by kernel_rfl)
theorem n37_8s : codeB Try.prog E cx n37_8 st = thenS (codeB Try.prog E cx n37_9 st) (codeB Try.prog E cx n37_10) := GE.seq_step (by kernel_rfl)
theorem n37_11s : codeB Try.prog E cx n37_11 st = some (.normal, st) := GE.skip_step (by kernel_rfl)
theorem n37_7s : codeB Try.prog E cx n37_7 st = condS (codeB Try.prog E cx n37_8) (codeB Try.prog E cx n37_11) (lk st.σ 13) st := GE.cond_step (c := .tmp 13) (by kernel_rfl)
theorem n37_5s : codeB Try.prog E cx n37_5 st = thenS (codeB Try.prog E cx n37_6 st) (codeB Try.prog E cx n37_7) := GE.seq_step (by kernel_rfl)
theorem n37_3s : codeB Try.prog E cx n37_3 st = thenS (codeB Try.prog E cx n37_4 st) (codeB Try.prog E cx n37_5) := GE.seq_step (by kernel_rfl)
theorem n37_14s : codeB Try.prog E ⟨f, 23, b, ro⟩ n37_14 st = plainS (runOps Try.prog E b q37_14 (ops [true, true, false, false] Try.f37) st) := GE.region_step (id := 4) (GE.reg_of (by kernel_rfl)) (by kernel_rfl)
theorem n37_16s : codeB Try.prog E ⟨f, 23, b, ro⟩ n37_16 st = plainS (runOps Try.prog E b q37_16 (ops [true, true, false, true, false] Try.f37) st) := GE.region_step (id := 5) (GE.reg_of (by kernel_rfl)) (by kernel_rfl)
theorem n37_19s : codeB Try.prog E ⟨f, 23, b, ro⟩ n37_19 st = plainS (runOps Try.prog E b q37_19 (ops [true, true, false, true, true, false, false] Try.f37) st) := GE.region_step (id := 6) (GE.reg_of (by kernel_rfl)) (by kernel_rfl)
theorem n37_20s : codeB Try.prog LL ⟨37, 23, b, ro⟩ n37_20 st = normS b ⟨[4], []⟩ .ret st := GE.ret_step (by kernel_rfl) (by kernel_rfl)
theorem n37_18s : codeB Try.prog E cx n37_18 st = thenS (codeB Try.prog E cx n37_19 st) (codeB Try.prog E cx n37_20) := GE.seq_step (by kernel_rfl)
theorem n37_21s : codeB Try.prog E cx n37_21 st = some (.normal, st) := GE.skip_step (by kernel_rfl)
theorem n37_17s : codeB Try.prog E cx n37_17 st = condS (codeB Try.prog E cx n37_18) (codeB Try.prog E cx n37_21) (lk st.σ 22) st := GE.cond_step (c := .tmp 22) (by kernel_rfl)
theorem n37_15s : codeB Try.prog E cx n37_15 st = thenS (codeB Try.prog E cx n37_16 st) (codeB Try.prog E cx n37_17) := GE.seq_step (by kernel_rfl)
theorem n37_13s : codeB Try.prog E cx n37_13 st = thenS (codeB Try.prog E cx n37_14 st) (codeB Try.prog E cx n37_15) := GE.seq_step (by kernel_rfl)
theorem n37_23s : codeB Try.prog E ⟨f, 23, b, ro⟩ n37_23 st = plainS (runOps Try.prog E b q37_23 (ops [true, true, true, false] Try.f37) st) := GE.region_step (id := 7) (GE.reg_of (by kernel_rfl)) (by kernel_rfl)
theorem n37_24s : codeB Try.prog LL ⟨37, 23, b, ro⟩ n37_24 st = normS b ⟨[4], []⟩ .ret st := GE.ret_step (by kernel_rfl) (by kernel_rfl)
theorem n37_22s : codeB Try.prog E cx n37_22 st = thenS (codeB Try.prog E cx n37_23 st) (codeB Try.prog E cx n37_24) := GE.seq_step (by kernel_rfl)
theorem n37_12s : codeB Try.prog E cx n37_12 st = thenS (codeB Try.prog E cx n37_13 st) (codeB Try.prog E cx n37_22) := GE.seq_step (by kernel_rfl)
theorem n37_2s : codeB Try.prog E cx n37_2 st = thenS (codeB Try.prog E cx n37_3 st) (codeB Try.prog E cx n37_12) := GE.seq_step (by kernel_rfl)
theorem n37_0s : codeB Try.prog E cx n37_0 st = thenS (codeB Try.prog E cx n37_1 st) (codeB Try.prog E cx n37_2) := GE.seq_step (by kernel_rfl)
noncomputable def n45_0 : Code := bodyOf Try.f45
noncomputable def n45_1 : Code := cl n45_0
noncomputable def q45_1 : List Oper := opsOf n45_1
noncomputable def n45_2 : Code := cr n45_0
noncomputable def n45_3 : Code := cl n45_2
noncomputable def n45_4 : Code := cl n45_3
noncomputable def n45_5 : Code := cl n45_4
noncomputable def q45_5 : List Oper := opsOf n45_5
noncomputable def n45_6 : Code := cr n45_4
noncomputable def n45_7 : Code := cl n45_6
noncomputable def n45_8 : Code := cl n45_7
noncomputable def q45_8 : List Oper := opsOf n45_8
noncomputable def n45_9 : Code := cr n45_7
noncomputable def n45_10 : Code := cr n45_6
noncomputable def n45_11 : Code := cl n45_10
noncomputable def q45_11 : List Oper := opsOf n45_11
noncomputable def n45_12 : Code := cr n45_10
noncomputable def n45_13 : Code := cl n45_12
noncomputable def n45_14 : Code := cl n45_13
noncomputable def q45_14 : List Oper := opsOf n45_14
noncomputable def n45_15 : Code := cr n45_13
noncomputable def n45_16 : Code := cr n45_12
noncomputable def n45_17 : Code := cl n45_16
noncomputable def q45_17 : List Oper := opsOf n45_17
noncomputable def n45_18 : Code := cr n45_16
noncomputable def n45_19 : Code := cl n45_18
noncomputable def n45_20 : Code := cl n45_19
noncomputable def q45_20 : List Oper := opsOf n45_20
noncomputable def n45_21 : Code := cr n45_19
noncomputable def n45_22 : Code := cr n45_18
noncomputable def n45_23 : Code := cr n45_2
noncomputable def n45_24 : Code := cl n45_23
noncomputable def q45_24 : List Oper := opsOf n45_24
noncomputable def n45_25 : Code := cr n45_23
theorem body45 : Try.f45.body = some n45_0 := by kernel_rfl
theorem run45 (E : Ev) (args : List Value) (h : List Blk) (hl : args.length ≤ 14) : runB Try.prog E 45 args h = endS Try.prog [.tmp 2] h.length (codeB Try.prog E ⟨45, 14, h.length, none⟩ n45_0 ⟨enumT 0 args, h, []⟩) := GE.run_step Try.func45 body45 (by kernel_rfl) (by decide) (by kernel_rfl) hl
theorem n45_1s : codeB Try.prog E ⟨f, 14, b, ro⟩ n45_1 st = plainS (runOps Try.prog E b q45_1 (ops [false] Try.f45) st) := GE.region_step (id := 0) (GE.reg_of (by kernel_rfl)) (by kernel_rfl)
theorem n45_5s : codeB Try.prog E ⟨f, 14, b, ro⟩ n45_5 st = plainS (runOps Try.prog E b q45_5 (ops [true, false, false, false] Try.f45) st) := GE.region_step (id := 1) (GE.reg_of (by kernel_rfl)) (by kernel_rfl)
theorem n45_8s : codeB Try.prog E ⟨f, 14, b, ro⟩ n45_8 st = plainS (runOps Try.prog E b q45_8 (ops [true, false, false, true, false, false] Try.f45) st) := GE.region_step (id := 2) (GE.reg_of (by kernel_rfl)) (by kernel_rfl)
theorem n45_9s : codeB Try.prog LL ⟨45, 14, b, ro⟩ n45_9 st = normS b ⟨[2], []⟩ .ret st := GE.ret_step (by kernel_rfl) (by kernel_rfl)
theorem n45_7s : codeB Try.prog E cx n45_7 st = thenS (codeB Try.prog E cx n45_8 st) (codeB Try.prog E cx n45_9) := GE.seq_step (by kernel_rfl)
theorem n45_11s : codeB Try.prog E ⟨f, 14, b, ro⟩ n45_11 st = plainS (runOps Try.prog E b q45_11 (ops [true, false, false, true, true, false] Try.f45) st) := GE.region_step (id := 3) (GE.reg_of (by kernel_rfl)) (by kernel_rfl)
theorem n45_14s : codeB Try.prog E ⟨f, 14, b, ro⟩ n45_14 st = plainS (runOps Try.prog E b q45_14 (ops [true, false, false, true, true, true, false, false] Try.f45) st) := GE.region_step (id := 4) (GE.reg_of (by kernel_rfl)) (by kernel_rfl)
theorem n45_15s : codeB Try.prog LL ⟨45, 14, b, ro⟩ n45_15 st = normS b ⟨[2], []⟩ .ret st := GE.ret_step (by kernel_rfl) (by kernel_rfl)
theorem n45_13s : codeB Try.prog E cx n45_13 st = thenS (codeB Try.prog E cx n45_14 st) (codeB Try.prog E cx n45_15) := GE.seq_step (by kernel_rfl)
theorem n45_17s : codeB Try.prog E ⟨f, 14, b, ro⟩ n45_17 st = plainS (runOps Try.prog E b q45_17 (ops [true, false, false, true, true, true, true, false] Try.f45) st) := GE.region_step (id := 5) (GE.reg_of (by kernel_rfl)) (by kernel_rfl)
theorem n45_20s : codeB Try.prog E ⟨f, 14, b, ro⟩ n45_20 st = plainS (runOps Try.prog E b q45_20 (ops [true, false, false, true, true, true, true, true, false, false] Try.f45) st) := GE.region_step (id := 6) (GE.reg_of (by kernel_rfl)) (by kernel_rfl)
theorem n45_21s : codeB Try.prog LL ⟨45, 14, b, ro⟩ n45_21 st = normS b ⟨[2], []⟩ .ret st := GE.ret_step (by kernel_rfl) (by kernel_rfl)
theorem n45_19s : codeB Try.prog E cx n45_19 st = thenS (codeB Try.prog E cx n45_20 st) (codeB Try.prog E cx n45_21) := GE.seq_step (by kernel_rfl)
theorem n45_22s : codeB Try.prog E cx n45_22 st = some (.normal, st) := GE.skip_step (by kernel_rfl)
theorem n45_18s : codeB Try.prog E cx n45_18 st = condS (codeB Try.prog E cx n45_19) (codeB Try.prog E cx n45_22) (lk st.σ 11) st := GE.cond_step (c := .tmp 11) (by kernel_rfl)
theorem n45_16s : codeB Try.prog E cx n45_16 st = thenS (codeB Try.prog E cx n45_17 st) (codeB Try.prog E cx n45_18) := GE.seq_step (by kernel_rfl)
theorem n45_12s : codeB Try.prog E cx n45_12 st = condS (codeB Try.prog E cx n45_13) (codeB Try.prog E cx n45_16) (lk st.σ 7) st := GE.cond_step (c := .tmp 7) (by kernel_rfl)
theorem n45_10s : codeB Try.prog E cx n45_10 st = thenS (codeB Try.prog E cx n45_11 st) (codeB Try.prog E cx n45_12) := GE.seq_step (by kernel_rfl)
theorem n45_6s : codeB Try.prog E cx n45_6 st = condS (codeB Try.prog E cx n45_7) (codeB Try.prog E cx n45_10) (lk st.σ 3) st := GE.cond_step (c := .tmp 3) (by kernel_rfl)
theorem n45_4s : codeB Try.prog E cx n45_4 st = thenS (codeB Try.prog E cx n45_5 st) (codeB Try.prog E cx n45_6) := GE.seq_step (by kernel_rfl)
theorem n45_3s : codeB Try.prog E cx n45_3 st = blockS 0 (codeB Try.prog E cx n45_4 st) st := GE.block_step (by kernel_rfl)
theorem n45_24s : codeB Try.prog E ⟨f, 14, b, ro⟩ n45_24 st = plainS (runOps Try.prog E b q45_24 (ops [true, true, false] Try.f45) st) := GE.region_step (id := 7) (GE.reg_of (by kernel_rfl)) (by kernel_rfl)
theorem n45_25s : codeB Try.prog LL ⟨45, 14, b, ro⟩ n45_25 st = normS b ⟨[2], []⟩ .ret st := GE.ret_step (by kernel_rfl) (by kernel_rfl)
theorem n45_23s : codeB Try.prog E cx n45_23 st = thenS (codeB Try.prog E cx n45_24 st) (codeB Try.prog E cx n45_25) := GE.seq_step (by kernel_rfl)
theorem n45_2s : codeB Try.prog E cx n45_2 st = thenS (codeB Try.prog E cx n45_3 st) (codeB Try.prog E cx n45_23) := GE.seq_step (by kernel_rfl)
theorem n45_0s : codeB Try.prog E cx n45_0 st = thenS (codeB Try.prog E cx n45_1 st) (codeB Try.prog E cx n45_2) := GE.seq_step (by kernel_rfl)
noncomputable def n46_0 : Code := bodyOf Try.f46
noncomputable def n46_1 : Code := cl n46_0
noncomputable def q46_1 : List Oper := opsOf n46_1
noncomputable def n46_2 : Code := cr n46_0
noncomputable def n46_3 : Code := cl n46_2
noncomputable def q46_3 : List Oper := opsOf n46_3
noncomputable def n46_4 : Code := cr n46_2
noncomputable def n46_5 : Code := cl n46_4
noncomputable def n46_6 : Code := cl n46_5
noncomputable def q46_6 : List Oper := opsOf n46_6
noncomputable def n46_7 : Code := cr n46_5
noncomputable def n46_8 : Code := cl n46_7
noncomputable def n46_9 : Code := cl n46_8
noncomputable def q46_9 : List Oper := opsOf n46_9
noncomputable def n46_10 : Code := cr n46_8
noncomputable def n46_11 : Code := cr n46_7
noncomputable def n46_12 : Code := cr n46_4
noncomputable def n46_13 : Code := cl n46_12
noncomputable def n46_14 : Code := cl n46_13
noncomputable def q46_14 : List Oper := opsOf n46_14
noncomputable def n46_15 : Code := cr n46_13
noncomputable def n46_16 : Code := cl n46_15
noncomputable def n46_17 : Code := cl n46_16
noncomputable def n46_18 : Code := cl n46_17
noncomputable def n46_19 : Code := cl n46_18
noncomputable def q46_19 : List Oper := opsOf n46_19
noncomputable def n46_20 : Code := cr n46_18
noncomputable def n46_21 : Code := cl n46_20
noncomputable def n46_22 : Code := cr n46_20
noncomputable def n46_23 : Code := cr n46_17
noncomputable def n46_24 : Code := cl n46_23
noncomputable def n46_25 : Code := cl n46_24
noncomputable def n46_26 : Code := cl n46_25
noncomputable def q46_26 : List Oper := opsOf n46_26
noncomputable def n46_27 : Code := cr n46_25
noncomputable def n46_28 : Code := cl n46_27
noncomputable def n46_29 : Code := cl n46_28
noncomputable def n46_30 : Code := cl n46_29
noncomputable def n46_31 : Code := cl n46_30
noncomputable def q46_31 : List Oper := opsOf n46_31
noncomputable def n46_32 : Code := cr n46_30
noncomputable def n46_33 : Code := cl n46_32
noncomputable def n46_34 : Code := cr n46_32
noncomputable def n46_35 : Code := cr n46_29
noncomputable def n46_36 : Code := cl n46_35
noncomputable def n46_37 : Code := cl n46_36
noncomputable def n46_38 : Code := cl n46_37
noncomputable def q46_38 : List Oper := opsOf n46_38
noncomputable def n46_39 : Code := cr n46_37
noncomputable def n46_40 : Code := cl n46_39
noncomputable def n46_41 : Code := cl n46_40
noncomputable def q46_41 : List Oper := opsOf n46_41
noncomputable def n46_42 : Code := cr n46_40
noncomputable def n46_43 : Code := cr n46_39
noncomputable def n46_44 : Code := cr n46_35
noncomputable def q46_44 : List Oper := opsOf n46_44
noncomputable def n46_45 : Code := cr n46_23
noncomputable def q46_45 : List Oper := opsOf n46_45
noncomputable def n46_46 : Code := cr n46_12
noncomputable def n46_47 : Code := cl n46_46
noncomputable def q46_47 : List Oper := opsOf n46_47
noncomputable def n46_48 : Code := cr n46_46
theorem body46 : Try.f46.body = some n46_0 := by kernel_rfl
theorem run46 (E : Ev) (args : List Value) (h : List Blk) (hl : args.length ≤ 42) : runB Try.prog E 46 args h = endS Try.prog [.tmp 4, .tmp 5, .tmp 6] h.length (codeB Try.prog E ⟨46, 42, h.length, none⟩ n46_0 ⟨enumT 0 args, h, []⟩) := GE.run_step Try.func46 body46 (by kernel_rfl) (by decide) (by kernel_rfl) hl
theorem n46_1s : codeB Try.prog E ⟨f, 42, b, ro⟩ n46_1 st = plainS (runOps Try.prog E b q46_1 (ops [false] Try.f46) st) := GE.region_step (id := 0) (GE.reg_of (by kernel_rfl)) (by kernel_rfl)
theorem n46_3s : codeB Try.prog E ⟨f, 42, b, ro⟩ n46_3 st = plainS (runOps Try.prog E b q46_3 (ops [true, false] Try.f46) st) := GE.region_step (id := 1) (GE.reg_of (by kernel_rfl)) (by kernel_rfl)
theorem n46_6s : codeB Try.prog E ⟨f, 42, b, ro⟩ n46_6 st = plainS (runOps Try.prog E b q46_6 (ops [true, true, false, false] Try.f46) st) := GE.region_step (id := 2) (GE.reg_of (by kernel_rfl)) (by kernel_rfl)
theorem n46_9s : codeB Try.prog E ⟨f, 42, b, ro⟩ n46_9 st = plainS (runOps Try.prog E b q46_9 (ops [true, true, false, true, false, false] Try.f46) st) := GE.region_step (id := 3) (GE.reg_of (by kernel_rfl)) (by kernel_rfl)
theorem n46_10s : codeB Try.prog LL ⟨46, 42, b, ro⟩ n46_10 st = normS b ⟨[4, 5, 6], []⟩ .ret st := GE.ret_step (by kernel_rfl) (by kernel_rfl)
theorem n46_8s : codeB Try.prog E cx n46_8 st = thenS (codeB Try.prog E cx n46_9 st) (codeB Try.prog E cx n46_10) := GE.seq_step (by kernel_rfl)
theorem n46_11s : codeB Try.prog E cx n46_11 st = some (.normal, st) := GE.skip_step (by kernel_rfl)
theorem n46_7s : codeB Try.prog E cx n46_7 st = condS (codeB Try.prog E cx n46_8) (codeB Try.prog E cx n46_11) (lk st.σ 14) st := GE.cond_step (c := .tmp 14) (by kernel_rfl)
theorem n46_5s : codeB Try.prog E cx n46_5 st = thenS (codeB Try.prog E cx n46_6 st) (codeB Try.prog E cx n46_7) := GE.seq_step (by kernel_rfl)
theorem n46_14s : codeB Try.prog E ⟨f, 42, b, ro⟩ n46_14 st = plainS (runOps Try.prog E b q46_14 (ops [true, true, true, false, false] Try.f46) st) := GE.region_step (id := 4) (GE.reg_of (by kernel_rfl)) (by kernel_rfl)
theorem n46_19s : codeB Try.prog E ⟨f, 42, b, ro⟩ n46_19 st = plainS (runOps Try.prog E b q46_19 (ops [true, true, true, false, true, false, false, false, false] Try.f46) st) := GE.region_step (id := 5) (GE.reg_of (by kernel_rfl)) (by kernel_rfl)
theorem n46_21s : codeB Try.prog E cx n46_21 st = some (.normal, st) := GE.skip_step (by kernel_rfl)
theorem n46_22s : codeB Try.prog LL ⟨46, 42, b, ro⟩ n46_22 st = normS b ⟨[], []⟩ (.exit 0) st := GE.exit_step (by kernel_rfl) (by kernel_rfl)
theorem n46_20s : codeB Try.prog E cx n46_20 st = condS (codeB Try.prog E cx n46_21) (codeB Try.prog E cx n46_22) (lk st.σ 19) st := GE.cond_step (c := .tmp 19) (by kernel_rfl)
theorem n46_18s : codeB Try.prog E cx n46_18 st = thenS (codeB Try.prog E cx n46_19 st) (codeB Try.prog E cx n46_20) := GE.seq_step (by kernel_rfl)
theorem n46_26s : codeB Try.prog E ⟨f, 42, b, ro⟩ n46_26 st = plainS (runOps Try.prog E b q46_26 (ops [true, true, true, false, true, false, false, true, false, false, false] Try.f46) st) := GE.region_step (id := 7) (GE.reg_of (by kernel_rfl)) (by kernel_rfl)
theorem n46_31s : codeB Try.prog E ⟨f, 42, b, ro⟩ n46_31 st = plainS (runOps Try.prog E b q46_31 (ops [true, true, true, false, true, false, false, true, false, false, true, false, false, false, false] Try.f46) st) := GE.region_step (id := 8) (GE.reg_of (by kernel_rfl)) (by kernel_rfl)
theorem n46_33s : codeB Try.prog E cx n46_33 st = some (.normal, st) := GE.skip_step (by kernel_rfl)
theorem n46_34s : codeB Try.prog LL ⟨46, 42, b, ro⟩ n46_34 st = normS b ⟨[0, 1, 8], [⟨0, 0, 2, true⟩, ⟨1, 0, 1, true⟩]⟩ (.exit 2) st := GE.exit_step (by kernel_rfl) (by kernel_rfl)
theorem n46_32s : codeB Try.prog E cx n46_32 st = condS (codeB Try.prog E cx n46_33) (codeB Try.prog E cx n46_34) (lk st.σ 27) st := GE.cond_step (c := .tmp 27) (by kernel_rfl)
theorem n46_30s : codeB Try.prog E cx n46_30 st = thenS (codeB Try.prog E cx n46_31 st) (codeB Try.prog E cx n46_32) := GE.seq_step (by kernel_rfl)
theorem n46_38s : codeB Try.prog E ⟨f, 42, b, ro⟩ n46_38 st = drawS [0, 0, 0, 6, 14, 0, 0, 96, 224, 511] (runOpsF Try.prog E b q46_38 (ops [true, true, true, false, true, false, false, true, false, false, true, false, false, true, false, false, false] Try.f46) st) := GE.draw_step (id := 10) (GE.reg_of (by kernel_rfl)) (by kernel_rfl) (by kernel_rfl) (by kernel_rfl)
theorem n46_41s : codeB Try.prog E ⟨f, 42, b, ro⟩ n46_41 st = plainS (runOps Try.prog E b q46_41 (ops [true, true, true, false, true, false, false, true, false, false, true, false, false, true, false, false, true, false, false] Try.f46) st) := GE.region_step (id := 11) (GE.reg_of (by kernel_rfl)) (by kernel_rfl)
theorem n46_42s : codeB Try.prog LL ⟨46, 42, b, ro⟩ n46_42 st = normS b ⟨[4, 5, 6], []⟩ .ret st := GE.ret_step (by kernel_rfl) (by kernel_rfl)
theorem n46_40s : codeB Try.prog E cx n46_40 st = thenS (codeB Try.prog E cx n46_41 st) (codeB Try.prog E cx n46_42) := GE.seq_step (by kernel_rfl)
theorem n46_43s : codeB Try.prog E cx n46_43 st = some (.normal, st) := GE.skip_step (by kernel_rfl)
theorem n46_39s : codeB Try.prog E cx n46_39 st = condS (codeB Try.prog E cx n46_40) (codeB Try.prog E cx n46_43) (lk st.σ 39) st := GE.cond_step (c := .tmp 39) (by kernel_rfl)
theorem n46_37s : codeB Try.prog E cx n46_37 st = thenS (codeB Try.prog E cx n46_38 st) (codeB Try.prog E cx n46_39) := GE.seq_step (by kernel_rfl)
theorem n46_36s : codeB Try.prog E cx n46_36 st = blockS 3 (codeB Try.prog E cx n46_37 st) st := GE.block_step (by kernel_rfl)
theorem n46_44s : codeB Try.prog E ⟨f, 42, b, ro⟩ n46_44 st = plainS (runOps Try.prog E b q46_44 (ops [true, true, true, false, true, false, false, true, false, false, true, false, false, true, true] Try.f46) st) := GE.region_step (id := 9) (GE.reg_of (by kernel_rfl)) (by kernel_rfl)
theorem n46_35s : codeB Try.prog E cx n46_35 st = thenS (codeB Try.prog E cx n46_36 st) (codeB Try.prog E cx n46_44) := GE.seq_step (by kernel_rfl)
theorem n46_29s : codeB Try.prog E cx n46_29 st = thenS (codeB Try.prog E cx n46_30 st) (codeB Try.prog E cx n46_35) := GE.seq_step (by kernel_rfl)
theorem n46_28k : LL.kp (⟨46, 42, b, ro⟩ : Cx).fn (4 * rid n46_29 + 3) = some ⟨[9, 0, 1, 8], [⟨0, 0, 2, true⟩, ⟨1, 0, 1, true⟩]⟩ := by kernel_rfl
theorem n46_28s : codeB Try.prog LL ⟨46, 42, b, ro⟩ n46_28 st = headS b ⟨[9, 0, 1, 8], [⟨0, 0, 2, true⟩, ⟨1, 0, 1, true⟩]⟩ st (lpB Try.prog LL ⟨46, 42, b, ro⟩ n46_28 n46_29) := GE.lpB_step (by kernel_rfl) (n46_28k b ro)
theorem n46_28g : LL.code ⟨46, 42, b, ro⟩ n46_28 st = headS b ⟨[9, 0, 1, 8], [⟨0, 0, 2, true⟩, ⟨1, 0, 1, true⟩]⟩ st (lpB Try.prog LL ⟨46, 42, b, ro⟩ n46_28 n46_29) := GE.lpB_again (by kernel_rfl) (n46_28k b ro)
theorem n46_27s : codeB Try.prog E cx n46_27 st = blockS 2 (codeB Try.prog E cx n46_28 st) st := GE.block_step (by kernel_rfl)
theorem n46_25s : codeB Try.prog E cx n46_25 st = thenS (codeB Try.prog E cx n46_26 st) (codeB Try.prog E cx n46_27) := GE.seq_step (by kernel_rfl)
theorem n46_24s : codeB Try.prog E cx n46_24 st = blockS 1 (codeB Try.prog E cx n46_25 st) st := GE.block_step (by kernel_rfl)
theorem n46_45s : codeB Try.prog E ⟨f, 42, b, ro⟩ n46_45 st = plainS (runOps Try.prog E b q46_45 (ops [true, true, true, false, true, false, false, true, true] Try.f46) st) := GE.region_step (id := 6) (GE.reg_of (by kernel_rfl)) (by kernel_rfl)
theorem n46_23s : codeB Try.prog E cx n46_23 st = thenS (codeB Try.prog E cx n46_24 st) (codeB Try.prog E cx n46_45) := GE.seq_step (by kernel_rfl)
theorem n46_17s : codeB Try.prog E cx n46_17 st = thenS (codeB Try.prog E cx n46_18 st) (codeB Try.prog E cx n46_23) := GE.seq_step (by kernel_rfl)
theorem n46_16k : LL.kp (⟨46, 42, b, ro⟩ : Cx).fn (4 * rid n46_17 + 3) = some ⟨[0, 1, 8], [⟨0, 0, 2, true⟩, ⟨1, 0, 1, true⟩]⟩ := by kernel_rfl
theorem n46_16s : codeB Try.prog LL ⟨46, 42, b, ro⟩ n46_16 st = headS b ⟨[0, 1, 8], [⟨0, 0, 2, true⟩, ⟨1, 0, 1, true⟩]⟩ st (lpB Try.prog LL ⟨46, 42, b, ro⟩ n46_16 n46_17) := GE.lpB_step (by kernel_rfl) (n46_16k b ro)
theorem n46_16g : LL.code ⟨46, 42, b, ro⟩ n46_16 st = headS b ⟨[0, 1, 8], [⟨0, 0, 2, true⟩, ⟨1, 0, 1, true⟩]⟩ st (lpB Try.prog LL ⟨46, 42, b, ro⟩ n46_16 n46_17) := GE.lpB_again (by kernel_rfl) (n46_16k b ro)
theorem n46_15s : codeB Try.prog E cx n46_15 st = blockS 0 (codeB Try.prog E cx n46_16 st) st := GE.block_step (by kernel_rfl)
theorem n46_13s : codeB Try.prog E cx n46_13 st = thenS (codeB Try.prog E cx n46_14 st) (codeB Try.prog E cx n46_15) := GE.seq_step (by kernel_rfl)
theorem n46_47s : codeB Try.prog E ⟨f, 42, b, ro⟩ n46_47 st = plainS (runOps Try.prog E b q46_47 (ops [true, true, true, true, false] Try.f46) st) := GE.region_step (id := 12) (GE.reg_of (by kernel_rfl)) (by kernel_rfl)
theorem n46_48s : codeB Try.prog LL ⟨46, 42, b, ro⟩ n46_48 st = normS b ⟨[4, 5, 6], []⟩ .ret st := GE.ret_step (by kernel_rfl) (by kernel_rfl)
theorem n46_46s : codeB Try.prog E cx n46_46 st = thenS (codeB Try.prog E cx n46_47 st) (codeB Try.prog E cx n46_48) := GE.seq_step (by kernel_rfl)
theorem n46_12s : codeB Try.prog E cx n46_12 st = thenS (codeB Try.prog E cx n46_13 st) (codeB Try.prog E cx n46_46) := GE.seq_step (by kernel_rfl)
theorem n46_4s : codeB Try.prog E cx n46_4 st = thenS (codeB Try.prog E cx n46_5 st) (codeB Try.prog E cx n46_12) := GE.seq_step (by kernel_rfl)
theorem n46_2s : codeB Try.prog E cx n46_2 st = thenS (codeB Try.prog E cx n46_3 st) (codeB Try.prog E cx n46_4) := GE.seq_step (by kernel_rfl)
theorem n46_0s : codeB Try.prog E cx n46_0 st = thenS (codeB Try.prog E cx n46_1 st) (codeB Try.prog E cx n46_2) := GE.seq_step (by kernel_rfl)
noncomputable def n49_0 : Code := bodyOf Try.f49
noncomputable def n49_1 : Code := cl n49_0
noncomputable def q49_1 : List Oper := opsOf n49_1
noncomputable def n49_2 : Code := cr n49_0
noncomputable def n49_3 : Code := cl n49_2
noncomputable def q49_3 : List Oper := opsOf n49_3
noncomputable def n49_4 : Code := cr n49_2
noncomputable def n49_5 : Code := cl n49_4
noncomputable def n49_6 : Code := cl n49_5
noncomputable def q49_6 : List Oper := opsOf n49_6
noncomputable def n49_7 : Code := cr n49_5
noncomputable def n49_8 : Code := cl n49_7
noncomputable def n49_9 : Code := cl n49_8
noncomputable def q49_9 : List Oper := opsOf n49_9
noncomputable def n49_10 : Code := cr n49_8
noncomputable def n49_11 : Code := cr n49_7
noncomputable def n49_12 : Code := cr n49_4
noncomputable def n49_13 : Code := cl n49_12
noncomputable def n49_14 : Code := cl n49_13
noncomputable def q49_14 : List Oper := opsOf n49_14
noncomputable def n49_15 : Code := cr n49_13
noncomputable def n49_16 : Code := cl n49_15
noncomputable def n49_17 : Code := cl n49_16
noncomputable def q49_17 : List Oper := opsOf n49_17
noncomputable def n49_18 : Code := cr n49_16
noncomputable def n49_19 : Code := cr n49_15
noncomputable def n49_20 : Code := cr n49_12
noncomputable def n49_21 : Code := cl n49_20
noncomputable def q49_21 : List Oper := opsOf n49_21
noncomputable def n49_22 : Code := cr n49_20
theorem body49 : Try.f49.body = some n49_0 := by kernel_rfl
theorem run49 (E : Ev) (args : List Value) (h : List Blk) (hl : args.length ≤ 26) : runB Try.prog E 49 args h = endS Try.prog [.tmp 4] h.length (codeB Try.prog E ⟨49, 26, h.length, none⟩ n49_0 ⟨enumT 0 args, h, []⟩) := GE.run_step Try.func49 body49 (by kernel_rfl) (by decide) (by kernel_rfl) hl
theorem n49_1s : codeB Try.prog E ⟨f, 26, b, ro⟩ n49_1 st = plainS (runOps Try.prog E b q49_1 (ops [false] Try.f49) st) := GE.region_step (id := 0) (GE.reg_of (by kernel_rfl)) (by kernel_rfl)
theorem n49_3s : codeB Try.prog E ⟨f, 26, b, ro⟩ n49_3 st = plainS (runOps Try.prog E b q49_3 (ops [true, false] Try.f49) st) := GE.region_step (id := 1) (GE.reg_of (by kernel_rfl)) (by kernel_rfl)
theorem n49_6s : codeB Try.prog E ⟨f, 26, b, ro⟩ n49_6 st = plainS (runOps Try.prog E b q49_6 (ops [true, true, false, false] Try.f49) st) := GE.region_step (id := 2) (GE.reg_of (by kernel_rfl)) (by kernel_rfl)
theorem n49_9s : codeB Try.prog E ⟨f, 26, b, ro⟩ n49_9 st = plainS (runOps Try.prog E b q49_9 (ops [true, true, false, true, false, false] Try.f49) st) := GE.region_step (id := 3) (GE.reg_of (by kernel_rfl)) (by kernel_rfl)
theorem n49_10s : codeB Try.prog LL ⟨49, 26, b, ro⟩ n49_10 st = normS b ⟨[4], []⟩ .ret st := GE.ret_step (by kernel_rfl) (by kernel_rfl)
theorem n49_8s : codeB Try.prog E cx n49_8 st = thenS (codeB Try.prog E cx n49_9 st) (codeB Try.prog E cx n49_10) := GE.seq_step (by kernel_rfl)
theorem n49_11s : codeB Try.prog E cx n49_11 st = some (.normal, st) := GE.skip_step (by kernel_rfl)
theorem n49_7s : codeB Try.prog E cx n49_7 st = condS (codeB Try.prog E cx n49_8) (codeB Try.prog E cx n49_11) (lk st.σ 16) st := GE.cond_step (c := .tmp 16) (by kernel_rfl)
theorem n49_5s : codeB Try.prog E cx n49_5 st = thenS (codeB Try.prog E cx n49_6 st) (codeB Try.prog E cx n49_7) := GE.seq_step (by kernel_rfl)
theorem q49_14g2 : gd q49_14 2 = some 19 := by kernel_rfl
theorem n49_14s : codeB Try.prog E ⟨f, 26, b, ro⟩ n49_14 st = plainS (runOps Try.prog E b q49_14 (ops [true, true, true, false, false] Try.f49) st) := GE.region_step (id := 4) (GE.reg_of (by kernel_rfl)) (by kernel_rfl)
theorem n49_17s : codeB Try.prog E ⟨f, 26, b, ro⟩ n49_17 st = plainS (runOps Try.prog E b q49_17 (ops [true, true, true, false, true, false, false] Try.f49) st) := GE.region_step (id := 5) (GE.reg_of (by kernel_rfl)) (by kernel_rfl)
theorem n49_18s : codeB Try.prog LL ⟨49, 26, b, ro⟩ n49_18 st = normS b ⟨[4], []⟩ .ret st := GE.ret_step (by kernel_rfl) (by kernel_rfl)
theorem n49_16s : codeB Try.prog E cx n49_16 st = thenS (codeB Try.prog E cx n49_17 st) (codeB Try.prog E cx n49_18) := GE.seq_step (by kernel_rfl)
theorem n49_19s : codeB Try.prog E cx n49_19 st = some (.normal, st) := GE.skip_step (by kernel_rfl)
theorem n49_15s : codeB Try.prog E cx n49_15 st = condS (codeB Try.prog E cx n49_16) (codeB Try.prog E cx n49_19) (lk st.σ 24) st := GE.cond_step (c := .tmp 24) (by kernel_rfl)
theorem n49_13s : codeB Try.prog E cx n49_13 st = thenS (codeB Try.prog E cx n49_14 st) (codeB Try.prog E cx n49_15) := GE.seq_step (by kernel_rfl)
theorem n49_21s : codeB Try.prog E ⟨f, 26, b, ro⟩ n49_21 st = plainS (runOps Try.prog E b q49_21 (ops [true, true, true, true, false] Try.f49) st) := GE.region_step (id := 6) (GE.reg_of (by kernel_rfl)) (by kernel_rfl)
theorem n49_22s : codeB Try.prog LL ⟨49, 26, b, ro⟩ n49_22 st = normS b ⟨[4], []⟩ .ret st := GE.ret_step (by kernel_rfl) (by kernel_rfl)
theorem n49_20s : codeB Try.prog E cx n49_20 st = thenS (codeB Try.prog E cx n49_21 st) (codeB Try.prog E cx n49_22) := GE.seq_step (by kernel_rfl)
theorem n49_12s : codeB Try.prog E cx n49_12 st = thenS (codeB Try.prog E cx n49_13 st) (codeB Try.prog E cx n49_20) := GE.seq_step (by kernel_rfl)
theorem n49_4s : codeB Try.prog E cx n49_4 st = thenS (codeB Try.prog E cx n49_5 st) (codeB Try.prog E cx n49_12) := GE.seq_step (by kernel_rfl)
theorem n49_2s : codeB Try.prog E cx n49_2 st = thenS (codeB Try.prog E cx n49_3 st) (codeB Try.prog E cx n49_4) := GE.seq_step (by kernel_rfl)
theorem n49_0s : codeB Try.prog E cx n49_0 st = thenS (codeB Try.prog E cx n49_1 st) (codeB Try.prog E cx n49_2) := GE.seq_step (by kernel_rfl)
noncomputable def n50_0 : Code := bodyOf Try.f50
noncomputable def n50_1 : Code := cl n50_0
noncomputable def q50_1 : List Oper := opsOf n50_1
noncomputable def n50_2 : Code := cr n50_0
noncomputable def n50_3 : Code := cl n50_2
noncomputable def n50_4 : Code := cl n50_3
noncomputable def q50_4 : List Oper := opsOf n50_4
noncomputable def n50_5 : Code := cr n50_3
noncomputable def n50_6 : Code := cl n50_5
noncomputable def n50_7 : Code := cl n50_6
noncomputable def q50_7 : List Oper := opsOf n50_7
noncomputable def n50_8 : Code := cr n50_6
noncomputable def n50_9 : Code := cr n50_5
noncomputable def n50_10 : Code := cr n50_2
noncomputable def n50_11 : Code := cl n50_10
noncomputable def n50_12 : Code := cl n50_11
noncomputable def q50_12 : List Oper := opsOf n50_12
noncomputable def n50_13 : Code := cr n50_11
noncomputable def n50_14 : Code := cl n50_13
noncomputable def n50_15 : Code := cl n50_14
noncomputable def q50_15 : List Oper := opsOf n50_15
noncomputable def n50_16 : Code := cr n50_14
noncomputable def n50_17 : Code := cr n50_13
noncomputable def n50_18 : Code := cr n50_10
noncomputable def n50_19 : Code := cl n50_18
noncomputable def n50_20 : Code := cl n50_19
noncomputable def q50_20 : List Oper := opsOf n50_20
noncomputable def n50_21 : Code := cr n50_19
noncomputable def n50_22 : Code := cl n50_21
noncomputable def n50_23 : Code := cl n50_22
noncomputable def n50_24 : Code := cl n50_23
noncomputable def n50_25 : Code := cl n50_24
noncomputable def q50_25 : List Oper := opsOf n50_25
noncomputable def n50_26 : Code := cr n50_24
noncomputable def n50_27 : Code := cl n50_26
noncomputable def n50_28 : Code := cr n50_26
noncomputable def n50_29 : Code := cr n50_23
noncomputable def n50_30 : Code := cl n50_29
noncomputable def n50_31 : Code := cl n50_30
noncomputable def n50_32 : Code := cl n50_31
noncomputable def q50_32 : List Oper := opsOf n50_32
noncomputable def n50_33 : Code := cr n50_31
noncomputable def n50_34 : Code := cl n50_33
noncomputable def n50_35 : Code := cl n50_34
noncomputable def q50_35 : List Oper := opsOf n50_35
noncomputable def n50_36 : Code := cr n50_34
noncomputable def n50_37 : Code := cr n50_33
noncomputable def n50_38 : Code := cr n50_29
noncomputable def q50_38 : List Oper := opsOf n50_38
noncomputable def n50_39 : Code := cr n50_18
noncomputable def n50_40 : Code := cl n50_39
noncomputable def q50_40 : List Oper := opsOf n50_40
noncomputable def n50_41 : Code := cr n50_39
theorem body50 : Try.f50.body = some n50_0 := by kernel_rfl
theorem run50 (E : Ev) (args : List Value) (h : List Blk) (hl : args.length ≤ 36) : runB Try.prog E 50 args h = endS Try.prog [.tmp 2] h.length (codeB Try.prog E ⟨50, 36, h.length, none⟩ n50_0 ⟨enumT 0 args, h, []⟩) := GE.run_step Try.func50 body50 (by kernel_rfl) (by decide) (by kernel_rfl) hl
theorem n50_1s : codeB Try.prog E ⟨f, 36, b, ro⟩ n50_1 st = plainS (runOps Try.prog E b q50_1 (ops [false] Try.f50) st) := GE.region_step (id := 0) (GE.reg_of (by kernel_rfl)) (by kernel_rfl)
theorem n50_4s : codeB Try.prog E ⟨f, 36, b, ro⟩ n50_4 st = plainS (runOps Try.prog E b q50_4 (ops [true, false, false] Try.f50) st) := GE.region_step (id := 1) (GE.reg_of (by kernel_rfl)) (by kernel_rfl)
theorem n50_7s : codeB Try.prog E ⟨f, 36, b, ro⟩ n50_7 st = plainS (runOps Try.prog E b q50_7 (ops [true, false, true, false, false] Try.f50) st) := GE.region_step (id := 2) (GE.reg_of (by kernel_rfl)) (by kernel_rfl)
theorem n50_8s : codeB Try.prog LL ⟨50, 36, b, ro⟩ n50_8 st = normS b ⟨[2], []⟩ .ret st := GE.ret_step (by kernel_rfl) (by kernel_rfl)
theorem n50_6s : codeB Try.prog E cx n50_6 st = thenS (codeB Try.prog E cx n50_7 st) (codeB Try.prog E cx n50_8) := GE.seq_step (by kernel_rfl)
theorem n50_9s : codeB Try.prog E cx n50_9 st = some (.normal, st) := GE.skip_step (by kernel_rfl)
theorem n50_5s : codeB Try.prog E cx n50_5 st = condS (codeB Try.prog E cx n50_6) (codeB Try.prog E cx n50_9) (lk st.σ 6) st := GE.cond_step (c := .tmp 6) (by kernel_rfl)
theorem n50_3s : codeB Try.prog E cx n50_3 st = thenS (codeB Try.prog E cx n50_4 st) (codeB Try.prog E cx n50_5) := GE.seq_step (by kernel_rfl)
theorem n50_12s : codeB Try.prog E ⟨f, 36, b, ro⟩ n50_12 st = plainS (runOps Try.prog E b q50_12 (ops [true, true, false, false] Try.f50) st) := GE.region_step (id := 3) (GE.reg_of (by kernel_rfl)) (by kernel_rfl)
theorem n50_15s : codeB Try.prog E ⟨f, 36, b, ro⟩ n50_15 st = plainS (runOps Try.prog E b q50_15 (ops [true, true, false, true, false, false] Try.f50) st) := GE.region_step (id := 4) (GE.reg_of (by kernel_rfl)) (by kernel_rfl)
theorem n50_16s : codeB Try.prog LL ⟨50, 36, b, ro⟩ n50_16 st = normS b ⟨[2], []⟩ .ret st := GE.ret_step (by kernel_rfl) (by kernel_rfl)
theorem n50_14s : codeB Try.prog E cx n50_14 st = thenS (codeB Try.prog E cx n50_15 st) (codeB Try.prog E cx n50_16) := GE.seq_step (by kernel_rfl)
theorem n50_17s : codeB Try.prog E cx n50_17 st = some (.normal, st) := GE.skip_step (by kernel_rfl)
theorem n50_13s : codeB Try.prog E cx n50_13 st = condS (codeB Try.prog E cx n50_14) (codeB Try.prog E cx n50_17) (lk st.σ 9) st := GE.cond_step (c := .tmp 9) (by kernel_rfl)
theorem n50_11s : codeB Try.prog E cx n50_11 st = thenS (codeB Try.prog E cx n50_12 st) (codeB Try.prog E cx n50_13) := GE.seq_step (by kernel_rfl)
theorem n50_20s : codeB Try.prog E ⟨f, 36, b, ro⟩ n50_20 st = plainS (runOps Try.prog E b q50_20 (ops [true, true, true, false, false] Try.f50) st) := GE.region_step (id := 5) (GE.reg_of (by kernel_rfl)) (by kernel_rfl)
theorem n50_25s : codeB Try.prog E ⟨f, 36, b, ro⟩ n50_25 st = plainS (runOps Try.prog E b q50_25 (ops [true, true, true, false, true, false, false, false, false] Try.f50) st) := GE.region_step (id := 6) (GE.reg_of (by kernel_rfl)) (by kernel_rfl)
theorem n50_27s : codeB Try.prog E cx n50_27 st = some (.normal, st) := GE.skip_step (by kernel_rfl)
theorem n50_28s : codeB Try.prog LL ⟨50, 36, b, ro⟩ n50_28 st = normS b ⟨[], []⟩ (.exit 0) st := GE.exit_step (by kernel_rfl) (by kernel_rfl)
theorem n50_26s : codeB Try.prog E cx n50_26 st = condS (codeB Try.prog E cx n50_27) (codeB Try.prog E cx n50_28) (lk st.σ 13) st := GE.cond_step (c := .tmp 13) (by kernel_rfl)
theorem n50_24s : codeB Try.prog E cx n50_24 st = thenS (codeB Try.prog E cx n50_25 st) (codeB Try.prog E cx n50_26) := GE.seq_step (by kernel_rfl)
theorem q50_32g12 : gd q50_32 12 = some 28 := by kernel_rfl
theorem n50_32s : codeB Try.prog E ⟨f, 36, b, ro⟩ n50_32 st = drawS [0, 0, 3, 7, 15, 0, 0, 96, 224, 480, 1023, 2047, 4095, 8191, 8191, 32767, 65535, 131071, 262143, 524287] (runOpsF Try.prog E b q50_32 (ops [true, true, true, false, true, false, false, true, false, false, false] Try.f50) st) := GE.draw_step (id := 8) (GE.reg_of (by kernel_rfl)) (by kernel_rfl) (by kernel_rfl) (by kernel_rfl)
theorem n50_35s : codeB Try.prog E ⟨f, 36, b, ro⟩ n50_35 st = plainS (runOps Try.prog E b q50_35 (ops [true, true, true, false, true, false, false, true, false, false, true, false, false] Try.f50) st) := GE.region_step (id := 9) (GE.reg_of (by kernel_rfl)) (by kernel_rfl)
theorem n50_36s : codeB Try.prog LL ⟨50, 36, b, ro⟩ n50_36 st = normS b ⟨[2], []⟩ .ret st := GE.ret_step (by kernel_rfl) (by kernel_rfl)
theorem n50_34s : codeB Try.prog E cx n50_34 st = thenS (codeB Try.prog E cx n50_35 st) (codeB Try.prog E cx n50_36) := GE.seq_step (by kernel_rfl)
theorem n50_37s : codeB Try.prog E cx n50_37 st = some (.normal, st) := GE.skip_step (by kernel_rfl)
theorem n50_33s : codeB Try.prog E cx n50_33 st = condS (codeB Try.prog E cx n50_34) (codeB Try.prog E cx n50_37) (lk st.σ 35) st := GE.cond_step (c := .tmp 35) (by kernel_rfl)
theorem n50_31s : codeB Try.prog E cx n50_31 st = thenS (codeB Try.prog E cx n50_32 st) (codeB Try.prog E cx n50_33) := GE.seq_step (by kernel_rfl)
theorem n50_30s : codeB Try.prog E cx n50_30 st = blockS 1 (codeB Try.prog E cx n50_31 st) st := GE.block_step (by kernel_rfl)
theorem n50_38s : codeB Try.prog E ⟨f, 36, b, ro⟩ n50_38 st = plainS (runOps Try.prog E b q50_38 (ops [true, true, true, false, true, false, false, true, true] Try.f50) st) := GE.region_step (id := 7) (GE.reg_of (by kernel_rfl)) (by kernel_rfl)
theorem n50_29s : codeB Try.prog E cx n50_29 st = thenS (codeB Try.prog E cx n50_30 st) (codeB Try.prog E cx n50_38) := GE.seq_step (by kernel_rfl)
theorem n50_23s : codeB Try.prog E cx n50_23 st = thenS (codeB Try.prog E cx n50_24 st) (codeB Try.prog E cx n50_29) := GE.seq_step (by kernel_rfl)
theorem n50_22k : LL.kp (⟨50, 36, b, ro⟩ : Cx).fn (4 * rid n50_23 + 3) = some ⟨[0, 3], [⟨0, 0, 2, true⟩]⟩ := by kernel_rfl
theorem n50_22s : codeB Try.prog LL ⟨50, 36, b, ro⟩ n50_22 st = headS b ⟨[0, 3], [⟨0, 0, 2, true⟩]⟩ st (lpB Try.prog LL ⟨50, 36, b, ro⟩ n50_22 n50_23) := GE.lpB_step (by kernel_rfl) (n50_22k b ro)
theorem n50_22g : LL.code ⟨50, 36, b, ro⟩ n50_22 st = headS b ⟨[0, 3], [⟨0, 0, 2, true⟩]⟩ st (lpB Try.prog LL ⟨50, 36, b, ro⟩ n50_22 n50_23) := GE.lpB_again (by kernel_rfl) (n50_22k b ro)
theorem n50_21s : codeB Try.prog E cx n50_21 st = blockS 0 (codeB Try.prog E cx n50_22 st) st := GE.block_step (by kernel_rfl)
theorem n50_19s : codeB Try.prog E cx n50_19 st = thenS (codeB Try.prog E cx n50_20 st) (codeB Try.prog E cx n50_21) := GE.seq_step (by kernel_rfl)
theorem n50_40s : codeB Try.prog E ⟨f, 36, b, ro⟩ n50_40 st = plainS (runOps Try.prog E b q50_40 (ops [true, true, true, true, false] Try.f50) st) := GE.region_step (id := 10) (GE.reg_of (by kernel_rfl)) (by kernel_rfl)
theorem n50_41s : codeB Try.prog LL ⟨50, 36, b, ro⟩ n50_41 st = normS b ⟨[2], []⟩ .ret st := GE.ret_step (by kernel_rfl) (by kernel_rfl)
theorem n50_39s : codeB Try.prog E cx n50_39 st = thenS (codeB Try.prog E cx n50_40 st) (codeB Try.prog E cx n50_41) := GE.seq_step (by kernel_rfl)
theorem n50_18s : codeB Try.prog E cx n50_18 st = thenS (codeB Try.prog E cx n50_19 st) (codeB Try.prog E cx n50_39) := GE.seq_step (by kernel_rfl)
theorem n50_10s : codeB Try.prog E cx n50_10 st = thenS (codeB Try.prog E cx n50_11 st) (codeB Try.prog E cx n50_18) := GE.seq_step (by kernel_rfl)
theorem n50_2s : codeB Try.prog E cx n50_2 st = thenS (codeB Try.prog E cx n50_3 st) (codeB Try.prog E cx n50_10) := GE.seq_step (by kernel_rfl)
theorem n50_0s : codeB Try.prog E cx n50_0 st = thenS (codeB Try.prog E cx n50_1 st) (codeB Try.prog E cx n50_2) := GE.seq_step (by kernel_rfl)
noncomputable def n53_0 : Code := bodyOf Try.f53
noncomputable def n53_1 : Code := cl n53_0
noncomputable def q53_1 : List Oper := opsOf n53_1
noncomputable def n53_2 : Code := cr n53_0
noncomputable def n53_3 : Code := cl n53_2
noncomputable def n53_4 : Code := cl n53_3
noncomputable def q53_4 : List Oper := opsOf n53_4
noncomputable def n53_5 : Code := cr n53_3
noncomputable def n53_6 : Code := cl n53_5
noncomputable def n53_7 : Code := cl n53_6
noncomputable def q53_7 : List Oper := opsOf n53_7
noncomputable def n53_8 : Code := cr n53_6
noncomputable def n53_9 : Code := cr n53_5
noncomputable def n53_10 : Code := cr n53_2
noncomputable def n53_11 : Code := cl n53_10
noncomputable def q53_11 : List Oper := opsOf n53_11
noncomputable def n53_12 : Code := cr n53_10
noncomputable def n53_13 : Code := cl n53_12
noncomputable def n53_14 : Code := cl n53_13
noncomputable def q53_14 : List Oper := opsOf n53_14
noncomputable def n53_15 : Code := cr n53_13
noncomputable def n53_16 : Code := cl n53_15
noncomputable def n53_17 : Code := cl n53_16
noncomputable def n53_18 : Code := cl n53_17
noncomputable def q53_18 : List Oper := opsOf n53_18
noncomputable def n53_19 : Code := cr n53_17
noncomputable def n53_20 : Code := cl n53_19
noncomputable def n53_21 : Code := cl n53_20
noncomputable def n53_22 : Code := cr n53_20
noncomputable def n53_23 : Code := cr n53_19
noncomputable def n53_24 : Code := cl n53_23
noncomputable def n53_25 : Code := cl n53_24
noncomputable def n53_26 : Code := cl n53_25
noncomputable def q53_26 : List Oper := opsOf n53_26
noncomputable def n53_27 : Code := cr n53_25
noncomputable def n53_28 : Code := cl n53_27
noncomputable def q53_28 : List Oper := opsOf n53_28
noncomputable def n53_29 : Code := cr n53_27
noncomputable def n53_30 : Code := cl n53_29
noncomputable def n53_31 : Code := cl n53_30
noncomputable def q53_31 : List Oper := opsOf n53_31
noncomputable def n53_32 : Code := cr n53_30
noncomputable def n53_33 : Code := cr n53_29
noncomputable def n53_34 : Code := cr n53_23
noncomputable def q53_34 : List Oper := opsOf n53_34
noncomputable def n53_35 : Code := cr n53_12
noncomputable def n53_36 : Code := cl n53_35
noncomputable def q53_36 : List Oper := opsOf n53_36
noncomputable def n53_37 : Code := cr n53_35
theorem body53 : Try.f53.body = some n53_0 := by kernel_rfl
theorem run53 (E : Ev) (args : List Value) (h : List Blk) (hl : args.length ≤ 30) : runB Try.prog E 53 args h = endS Try.prog [.tmp 6] h.length (codeB Try.prog E ⟨53, 30, h.length, none⟩ n53_0 ⟨enumT 0 args, h, []⟩) := GE.run_step Try.func53 body53 (by kernel_rfl) (by decide) (by kernel_rfl) hl
theorem n53_1s : codeB Try.prog E ⟨f, 30, b, ro⟩ n53_1 st = plainS (runOps Try.prog E b q53_1 (ops [false] Try.f53) st) := GE.region_step (id := 0) (GE.reg_of (by kernel_rfl)) (by kernel_rfl)
theorem n53_4s : codeB Try.prog E ⟨f, 30, b, ro⟩ n53_4 st = plainS (runOps Try.prog E b q53_4 (ops [true, false, false] Try.f53) st) := GE.region_step (id := 1) (GE.reg_of (by kernel_rfl)) (by kernel_rfl)
theorem n53_7s : codeB Try.prog E ⟨f, 30, b, ro⟩ n53_7 st = plainS (runOps Try.prog E b q53_7 (ops [true, false, true, false, false] Try.f53) st) := GE.region_step (id := 2) (GE.reg_of (by kernel_rfl)) (by kernel_rfl)
theorem n53_8s : codeB Try.prog LL ⟨53, 30, b, ro⟩ n53_8 st = normS b ⟨[6], []⟩ .ret st := GE.ret_step (by kernel_rfl) (by kernel_rfl)
theorem n53_6s : codeB Try.prog E cx n53_6 st = thenS (codeB Try.prog E cx n53_7 st) (codeB Try.prog E cx n53_8) := GE.seq_step (by kernel_rfl)
theorem n53_9s : codeB Try.prog E cx n53_9 st = some (.normal, st) := GE.skip_step (by kernel_rfl)
theorem n53_5s : codeB Try.prog E cx n53_5 st = condS (codeB Try.prog E cx n53_6) (codeB Try.prog E cx n53_9) (lk st.σ 11) st := GE.cond_step (c := .tmp 11) (by kernel_rfl)
theorem n53_3s : codeB Try.prog E cx n53_3 st = thenS (codeB Try.prog E cx n53_4 st) (codeB Try.prog E cx n53_5) := GE.seq_step (by kernel_rfl)
theorem n53_11s : codeB Try.prog E ⟨f, 30, b, ro⟩ n53_11 st = plainS (runOps Try.prog E b q53_11 (ops [true, true, false] Try.f53) st) := GE.region_step (id := 3) (GE.reg_of (by kernel_rfl)) (by kernel_rfl)
theorem n53_14s : codeB Try.prog E ⟨f, 30, b, ro⟩ n53_14 st = plainS (runOps Try.prog E b q53_14 (ops [true, true, true, false, false] Try.f53) st) := GE.region_step (id := 4) (GE.reg_of (by kernel_rfl)) (by kernel_rfl)
theorem n53_18s : codeB Try.prog E ⟨f, 30, b, ro⟩ n53_18 st = plainS (runOps Try.prog E b q53_18 (ops [true, true, true, false, true, false, false, false] Try.f53) st) := GE.region_step (id := 5) (GE.reg_of (by kernel_rfl)) (by kernel_rfl)
theorem n53_21s : codeB Try.prog E cx n53_21 st = some (.normal, st) := GE.skip_step (by kernel_rfl)
theorem n53_22s : codeB Try.prog LL ⟨53, 30, b, ro⟩ n53_22 st = normS b ⟨[], []⟩ (.exit 0) st := GE.exit_step (by kernel_rfl) (by kernel_rfl)
theorem n53_20s : codeB Try.prog E cx n53_20 st = condS (codeB Try.prog E cx n53_21) (codeB Try.prog E cx n53_22) (lk st.σ 17) st := GE.cond_step (c := .tmp 17) (by kernel_rfl)
theorem n53_26s : codeB Try.prog E ⟨f, 30, b, ro⟩ n53_26 st = plainS (runOps Try.prog E b q53_26 (ops [true, true, true, false, true, false, false, true, true, false, false, false] Try.f53) st) := GE.region_step (id := 6) (GE.reg_of (by kernel_rfl)) (by kernel_rfl)
theorem q53_28g4 : gd q53_28 4 = some 23 := by kernel_rfl
theorem n53_28s : codeB Try.prog E ⟨f, 30, b, ro⟩ n53_28 st = plainS (runOps Try.prog E b q53_28 (ops [true, true, true, false, true, false, false, true, true, false, false, true, false] Try.f53) st) := GE.region_step (id := 7) (GE.reg_of (by kernel_rfl)) (by kernel_rfl)
theorem n53_31s : codeB Try.prog E ⟨f, 30, b, ro⟩ n53_31 st = plainS (runOps Try.prog E b q53_31 (ops [true, true, true, false, true, false, false, true, true, false, false, true, true, false, false] Try.f53) st) := GE.region_step (id := 8) (GE.reg_of (by kernel_rfl)) (by kernel_rfl)
theorem n53_32s : codeB Try.prog LL ⟨53, 30, b, ro⟩ n53_32 st = normS b ⟨[6], []⟩ .ret st := GE.ret_step (by kernel_rfl) (by kernel_rfl)
theorem n53_30s : codeB Try.prog E cx n53_30 st = thenS (codeB Try.prog E cx n53_31 st) (codeB Try.prog E cx n53_32) := GE.seq_step (by kernel_rfl)
theorem n53_33s : codeB Try.prog E cx n53_33 st = some (.normal, st) := GE.skip_step (by kernel_rfl)
theorem n53_29s : codeB Try.prog E cx n53_29 st = condS (codeB Try.prog E cx n53_30) (codeB Try.prog E cx n53_33) (lk st.σ 28) st := GE.cond_step (c := .tmp 28) (by kernel_rfl)
theorem n53_27s : codeB Try.prog E cx n53_27 st = thenS (codeB Try.prog E cx n53_28 st) (codeB Try.prog E cx n53_29) := GE.seq_step (by kernel_rfl)
theorem n53_25s : codeB Try.prog E cx n53_25 st = thenS (codeB Try.prog E cx n53_26 st) (codeB Try.prog E cx n53_27) := GE.seq_step (by kernel_rfl)
theorem n53_24s : codeB Try.prog E cx n53_24 st = blockS 1 (codeB Try.prog E cx n53_25 st) st := GE.block_step (by kernel_rfl)
theorem n53_34s : codeB Try.prog E ⟨f, 30, b, ro⟩ n53_34 st = plainS (runOps Try.prog E b q53_34 (ops [true, true, true, false, true, false, false, true, true, true] Try.f53) st) := GE.region_step (id := 9) (GE.reg_of (by kernel_rfl)) (by kernel_rfl)
theorem n53_23s : codeB Try.prog E cx n53_23 st = thenS (codeB Try.prog E cx n53_24 st) (codeB Try.prog E cx n53_34) := GE.seq_step (by kernel_rfl)
theorem n53_19s : codeB Try.prog E cx n53_19 st = thenS (codeB Try.prog E cx n53_20 st) (codeB Try.prog E cx n53_23) := GE.seq_step (by kernel_rfl)
theorem n53_17s : codeB Try.prog E cx n53_17 st = thenS (codeB Try.prog E cx n53_18 st) (codeB Try.prog E cx n53_19) := GE.seq_step (by kernel_rfl)
theorem n53_16k : LL.kp (⟨53, 30, b, ro⟩ : Cx).fn (4 * rid n53_17 + 3) = some ⟨[1, 2, 7, 15, 16], []⟩ := by kernel_rfl
theorem n53_16s : codeB Try.prog LL ⟨53, 30, b, ro⟩ n53_16 st = headS b ⟨[1, 2, 7, 15, 16], []⟩ st (lpB Try.prog LL ⟨53, 30, b, ro⟩ n53_16 n53_17) := GE.lpB_step (by kernel_rfl) (n53_16k b ro)
theorem n53_16g : LL.code ⟨53, 30, b, ro⟩ n53_16 st = headS b ⟨[1, 2, 7, 15, 16], []⟩ st (lpB Try.prog LL ⟨53, 30, b, ro⟩ n53_16 n53_17) := GE.lpB_again (by kernel_rfl) (n53_16k b ro)
theorem n53_15s : codeB Try.prog E cx n53_15 st = blockS 0 (codeB Try.prog E cx n53_16 st) st := GE.block_step (by kernel_rfl)
theorem n53_13s : codeB Try.prog E cx n53_13 st = thenS (codeB Try.prog E cx n53_14 st) (codeB Try.prog E cx n53_15) := GE.seq_step (by kernel_rfl)
theorem n53_36s : codeB Try.prog E ⟨f, 30, b, ro⟩ n53_36 st = plainS (runOps Try.prog E b q53_36 (ops [true, true, true, true, false] Try.f53) st) := GE.region_step (id := 10) (GE.reg_of (by kernel_rfl)) (by kernel_rfl)
theorem n53_37s : codeB Try.prog LL ⟨53, 30, b, ro⟩ n53_37 st = normS b ⟨[6], []⟩ .ret st := GE.ret_step (by kernel_rfl) (by kernel_rfl)
theorem n53_35s : codeB Try.prog E cx n53_35 st = thenS (codeB Try.prog E cx n53_36 st) (codeB Try.prog E cx n53_37) := GE.seq_step (by kernel_rfl)
theorem n53_12s : codeB Try.prog E cx n53_12 st = thenS (codeB Try.prog E cx n53_13 st) (codeB Try.prog E cx n53_35) := GE.seq_step (by kernel_rfl)
theorem n53_10s : codeB Try.prog E cx n53_10 st = thenS (codeB Try.prog E cx n53_11 st) (codeB Try.prog E cx n53_12) := GE.seq_step (by kernel_rfl)
theorem n53_2s : codeB Try.prog E cx n53_2 st = thenS (codeB Try.prog E cx n53_3 st) (codeB Try.prog E cx n53_10) := GE.seq_step (by kernel_rfl)
theorem n53_0s : codeB Try.prog E cx n53_0 st = thenS (codeB Try.prog E cx n53_1 st) (codeB Try.prog E cx n53_2) := GE.seq_step (by kernel_rfl)
noncomputable def n54_0 : Code := bodyOf Try.f54
noncomputable def n54_1 : Code := cl n54_0
noncomputable def q54_1 : List Oper := opsOf n54_1
noncomputable def n54_2 : Code := cr n54_0
noncomputable def n54_3 : Code := cl n54_2
noncomputable def q54_3 : List Oper := opsOf n54_3
noncomputable def n54_4 : Code := cr n54_2
theorem body54 : Try.f54.body = some n54_0 := by kernel_rfl
theorem run54 (E : Ev) (args : List Value) (h : List Blk) (hl : args.length ≤ 9) : runB Try.prog E 54 args h = endS Try.prog [.tmp 4] h.length (codeB Try.prog E ⟨54, 9, h.length, none⟩ n54_0 ⟨enumT 0 args, h, []⟩) := GE.run_step Try.func54 body54 (by kernel_rfl) (by decide) (by kernel_rfl) hl
theorem n54_1s : codeB Try.prog E ⟨f, 9, b, ro⟩ n54_1 st = plainS (runOps Try.prog E b q54_1 (ops [false] Try.f54) st) := GE.region_step (id := 0) (GE.reg_of (by kernel_rfl)) (by kernel_rfl)
theorem n54_3s : codeB Try.prog E ⟨f, 9, b, ro⟩ n54_3 st = plainS (runOps Try.prog E b q54_3 (ops [true, false] Try.f54) st) := GE.region_step (id := 1) (GE.reg_of (by kernel_rfl)) (by kernel_rfl)
theorem n54_4s : codeB Try.prog LL ⟨54, 9, b, ro⟩ n54_4 st = normS b ⟨[4], []⟩ .ret st := GE.ret_step (by kernel_rfl) (by kernel_rfl)
theorem n54_2s : codeB Try.prog E cx n54_2 st = thenS (codeB Try.prog E cx n54_3 st) (codeB Try.prog E cx n54_4) := GE.seq_step (by kernel_rfl)
theorem n54_0s : codeB Try.prog E cx n54_0 st = thenS (codeB Try.prog E cx n54_1 st) (codeB Try.prog E cx n54_2) := GE.seq_step (by kernel_rfl)
noncomputable def n55_0 : Code := bodyOf Try.f55
noncomputable def n55_1 : Code := cl n55_0
noncomputable def q55_1 : List Oper := opsOf n55_1
noncomputable def n55_2 : Code := cr n55_0
noncomputable def n55_3 : Code := cl n55_2
noncomputable def q55_3 : List Oper := opsOf n55_3
noncomputable def n55_4 : Code := cr n55_2
theorem body55 : Try.f55.body = some n55_0 := by kernel_rfl
theorem run55 (E : Ev) (args : List Value) (h : List Blk) (hl : args.length ≤ 18) : runB Try.prog E 55 args h = endS Try.prog [.tmp 6] h.length (codeB Try.prog E ⟨55, 18, h.length, none⟩ n55_0 ⟨enumT 0 args, h, []⟩) := GE.run_step Try.func55 body55 (by kernel_rfl) (by decide) (by kernel_rfl) hl
theorem n55_1s : codeB Try.prog E ⟨f, 18, b, ro⟩ n55_1 st = plainS (runOps Try.prog E b q55_1 (ops [false] Try.f55) st) := GE.region_step (id := 0) (GE.reg_of (by kernel_rfl)) (by kernel_rfl)
theorem n55_3s : codeB Try.prog E ⟨f, 18, b, ro⟩ n55_3 st = drawS [0, 0, 3, 7, 15, 0, 0, 96, 224, 480, 1023, 2047] (runOpsF Try.prog E b q55_3 (ops [true, false] Try.f55) st) := GE.draw_step (id := 1) (GE.reg_of (by kernel_rfl)) (by kernel_rfl) (by kernel_rfl) (by kernel_rfl)
theorem n55_4s : codeB Try.prog LL ⟨55, 18, b, ro⟩ n55_4 st = normS b ⟨[6], []⟩ .ret st := GE.ret_step (by kernel_rfl) (by kernel_rfl)
theorem n55_2s : codeB Try.prog E cx n55_2 st = thenS (codeB Try.prog E cx n55_3 st) (codeB Try.prog E cx n55_4) := GE.seq_step (by kernel_rfl)
theorem n55_0s : codeB Try.prog E cx n55_0 st = thenS (codeB Try.prog E cx n55_1 st) (codeB Try.prog E cx n55_2) := GE.seq_step (by kernel_rfl)
noncomputable def n57_0 : Code := bodyOf Try.f57
noncomputable def n57_1 : Code := cl n57_0
noncomputable def q57_1 : List Oper := opsOf n57_1
noncomputable def n57_2 : Code := cr n57_0
noncomputable def n57_3 : Code := cl n57_2
noncomputable def q57_3 : List Oper := opsOf n57_3
noncomputable def n57_4 : Code := cr n57_2
theorem body57 : Try.f57.body = some n57_0 := by kernel_rfl
theorem run57 (E : Ev) (args : List Value) (h : List Blk) (hl : args.length ≤ 15) : runB Try.prog E 57 args h = endS Try.prog [.tmp 6] h.length (codeB Try.prog E ⟨57, 15, h.length, none⟩ n57_0 ⟨enumT 0 args, h, []⟩) := GE.run_step Try.func57 body57 (by kernel_rfl) (by decide) (by kernel_rfl) hl
theorem n57_1s : codeB Try.prog E ⟨f, 15, b, ro⟩ n57_1 st = plainS (runOps Try.prog E b q57_1 (ops [false] Try.f57) st) := GE.region_step (id := 0) (GE.reg_of (by kernel_rfl)) (by kernel_rfl)
theorem q57_3g3 : gd q57_3 3 = some 10 := by kernel_rfl
theorem n57_3s : codeB Try.prog E ⟨f, 15, b, ro⟩ n57_3 st = plainS (runOps Try.prog E b q57_3 (ops [true, false] Try.f57) st) := GE.region_step (id := 1) (GE.reg_of (by kernel_rfl)) (by kernel_rfl)
theorem n57_4s : codeB Try.prog LL ⟨57, 15, b, ro⟩ n57_4 st = normS b ⟨[6], []⟩ .ret st := GE.ret_step (by kernel_rfl) (by kernel_rfl)
theorem n57_2s : codeB Try.prog E cx n57_2 st = thenS (codeB Try.prog E cx n57_3 st) (codeB Try.prog E cx n57_4) := GE.seq_step (by kernel_rfl)
theorem n57_0s : codeB Try.prog E cx n57_0 st = thenS (codeB Try.prog E cx n57_1 st) (codeB Try.prog E cx n57_2) := GE.seq_step (by kernel_rfl)
noncomputable def n58_0 : Code := bodyOf Try.f58
noncomputable def n58_1 : Code := cl n58_0
noncomputable def q58_1 : List Oper := opsOf n58_1
noncomputable def n58_2 : Code := cr n58_0
noncomputable def n58_3 : Code := cl n58_2
noncomputable def q58_3 : List Oper := opsOf n58_3
noncomputable def n58_4 : Code := cr n58_2
theorem body58 : Try.f58.body = some n58_0 := by kernel_rfl
theorem run58 (E : Ev) (args : List Value) (h : List Blk) (hl : args.length ≤ 15) : runB Try.prog E 58 args h = endS Try.prog [.tmp 6] h.length (codeB Try.prog E ⟨58, 15, h.length, none⟩ n58_0 ⟨enumT 0 args, h, []⟩) := GE.run_step Try.func58 body58 (by kernel_rfl) (by decide) (by kernel_rfl) hl
theorem n58_1s : codeB Try.prog E ⟨f, 15, b, ro⟩ n58_1 st = plainS (runOps Try.prog E b q58_1 (ops [false] Try.f58) st) := GE.region_step (id := 0) (GE.reg_of (by kernel_rfl)) (by kernel_rfl)
theorem q58_3g3 : gd q58_3 3 = some 10 := by kernel_rfl
theorem n58_3s : codeB Try.prog E ⟨f, 15, b, ro⟩ n58_3 st = plainS (runOps Try.prog E b q58_3 (ops [true, false] Try.f58) st) := GE.region_step (id := 1) (GE.reg_of (by kernel_rfl)) (by kernel_rfl)
theorem n58_4s : codeB Try.prog LL ⟨58, 15, b, ro⟩ n58_4 st = normS b ⟨[6], []⟩ .ret st := GE.ret_step (by kernel_rfl) (by kernel_rfl)
theorem n58_2s : codeB Try.prog E cx n58_2 st = thenS (codeB Try.prog E cx n58_3 st) (codeB Try.prog E cx n58_4) := GE.seq_step (by kernel_rfl)
theorem n58_0s : codeB Try.prog E cx n58_0 st = thenS (codeB Try.prog E cx n58_1 st) (codeB Try.prog E cx n58_2) := GE.seq_step (by kernel_rfl)
noncomputable def n59_0 : Code := bodyOf Try.f59
noncomputable def n59_1 : Code := cl n59_0
noncomputable def q59_1 : List Oper := opsOf n59_1
noncomputable def n59_2 : Code := cr n59_0
noncomputable def n59_3 : Code := cl n59_2
noncomputable def q59_3 : List Oper := opsOf n59_3
noncomputable def n59_4 : Code := cr n59_2
noncomputable def n59_5 : Code := cl n59_4
noncomputable def n59_6 : Code := cl n59_5
noncomputable def n59_7 : Code := cl n59_6
noncomputable def q59_7 : List Oper := opsOf n59_7
noncomputable def n59_8 : Code := cr n59_6
noncomputable def n59_9 : Code := cl n59_8
noncomputable def n59_10 : Code := cl n59_9
noncomputable def q59_10 : List Oper := opsOf n59_10
noncomputable def n59_11 : Code := cr n59_9
noncomputable def n59_12 : Code := cr n59_8
noncomputable def n59_13 : Code := cl n59_12
noncomputable def q59_13 : List Oper := opsOf n59_13
noncomputable def n59_14 : Code := cr n59_12
noncomputable def n59_15 : Code := cl n59_14
noncomputable def n59_16 : Code := cl n59_15
noncomputable def q59_16 : List Oper := opsOf n59_16
noncomputable def n59_17 : Code := cr n59_15
noncomputable def n59_18 : Code := cr n59_14
noncomputable def n59_19 : Code := cr n59_4
noncomputable def n59_20 : Code := cl n59_19
noncomputable def q59_20 : List Oper := opsOf n59_20
noncomputable def n59_21 : Code := cr n59_19
theorem body59 : Try.f59.body = some n59_0 := by kernel_rfl
theorem run59 (E : Ev) (args : List Value) (h : List Blk) (hl : args.length ≤ 17) : runB Try.prog E 59 args h = endS Try.prog [.tmp 2, .tmp 3] h.length (codeB Try.prog E ⟨59, 17, h.length, none⟩ n59_0 ⟨enumT 0 args, h, []⟩) := GE.run_step Try.func59 body59 (by kernel_rfl) (by decide) (by kernel_rfl) hl
theorem n59_1s : codeB Try.prog E ⟨f, 17, b, ro⟩ n59_1 st = plainS (runOps Try.prog E b q59_1 (ops [false] Try.f59) st) := GE.region_step (id := 0) (GE.reg_of (by kernel_rfl)) (by kernel_rfl)
theorem n59_3s : codeB Try.prog E ⟨f, 17, b, ro⟩ n59_3 st = plainS (runOps Try.prog E b q59_3 (ops [true, false] Try.f59) st) := GE.region_step (id := 1) (GE.reg_of (by kernel_rfl)) (by kernel_rfl)
theorem n59_7s : codeB Try.prog E ⟨f, 17, b, ro⟩ n59_7 st = plainS (runOps Try.prog E b q59_7 (ops [true, true, false, false, false] Try.f59) st) := GE.region_step (id := 2) (GE.reg_of (by kernel_rfl)) (by kernel_rfl)
theorem n59_10s : codeB Try.prog E ⟨f, 17, b, ro⟩ n59_10 st = plainS (runOps Try.prog E b q59_10 (ops [true, true, false, false, true, false, false] Try.f59) st) := GE.region_step (id := 3) (GE.reg_of (by kernel_rfl)) (by kernel_rfl)
theorem n59_11s : codeB Try.prog LL ⟨59, 17, b, ro⟩ n59_11 st = normS b ⟨[2, 3], []⟩ .ret st := GE.ret_step (by kernel_rfl) (by kernel_rfl)
theorem n59_9s : codeB Try.prog E cx n59_9 st = thenS (codeB Try.prog E cx n59_10 st) (codeB Try.prog E cx n59_11) := GE.seq_step (by kernel_rfl)
theorem n59_13s : codeB Try.prog E ⟨f, 17, b, ro⟩ n59_13 st = plainS (runOps Try.prog E b q59_13 (ops [true, true, false, false, true, true, false] Try.f59) st) := GE.region_step (id := 4) (GE.reg_of (by kernel_rfl)) (by kernel_rfl)
theorem n59_16s : codeB Try.prog E ⟨f, 17, b, ro⟩ n59_16 st = plainS (runOps Try.prog E b q59_16 (ops [true, true, false, false, true, true, true, false, false] Try.f59) st) := GE.region_step (id := 5) (GE.reg_of (by kernel_rfl)) (by kernel_rfl)
theorem n59_17s : codeB Try.prog LL ⟨59, 17, b, ro⟩ n59_17 st = normS b ⟨[2, 3], []⟩ .ret st := GE.ret_step (by kernel_rfl) (by kernel_rfl)
theorem n59_15s : codeB Try.prog E cx n59_15 st = thenS (codeB Try.prog E cx n59_16 st) (codeB Try.prog E cx n59_17) := GE.seq_step (by kernel_rfl)
theorem n59_18s : codeB Try.prog E cx n59_18 st = some (.normal, st) := GE.skip_step (by kernel_rfl)
theorem n59_14s : codeB Try.prog E cx n59_14 st = condS (codeB Try.prog E cx n59_15) (codeB Try.prog E cx n59_18) (lk st.σ 11) st := GE.cond_step (c := .tmp 11) (by kernel_rfl)
theorem n59_12s : codeB Try.prog E cx n59_12 st = thenS (codeB Try.prog E cx n59_13 st) (codeB Try.prog E cx n59_14) := GE.seq_step (by kernel_rfl)
theorem n59_8s : codeB Try.prog E cx n59_8 st = condS (codeB Try.prog E cx n59_9) (codeB Try.prog E cx n59_12) (lk st.σ 7) st := GE.cond_step (c := .tmp 7) (by kernel_rfl)
theorem n59_6s : codeB Try.prog E cx n59_6 st = thenS (codeB Try.prog E cx n59_7 st) (codeB Try.prog E cx n59_8) := GE.seq_step (by kernel_rfl)
theorem n59_5s : codeB Try.prog E cx n59_5 st = blockS 0 (codeB Try.prog E cx n59_6 st) st := GE.block_step (by kernel_rfl)
theorem n59_20s : codeB Try.prog E ⟨f, 17, b, ro⟩ n59_20 st = plainS (runOps Try.prog E b q59_20 (ops [true, true, true, false] Try.f59) st) := GE.region_step (id := 6) (GE.reg_of (by kernel_rfl)) (by kernel_rfl)
theorem n59_21s : codeB Try.prog LL ⟨59, 17, b, ro⟩ n59_21 st = normS b ⟨[2, 3], []⟩ .ret st := GE.ret_step (by kernel_rfl) (by kernel_rfl)
theorem n59_19s : codeB Try.prog E cx n59_19 st = thenS (codeB Try.prog E cx n59_20 st) (codeB Try.prog E cx n59_21) := GE.seq_step (by kernel_rfl)
theorem n59_4s : codeB Try.prog E cx n59_4 st = thenS (codeB Try.prog E cx n59_5 st) (codeB Try.prog E cx n59_19) := GE.seq_step (by kernel_rfl)
theorem n59_2s : codeB Try.prog E cx n59_2 st = thenS (codeB Try.prog E cx n59_3 st) (codeB Try.prog E cx n59_4) := GE.seq_step (by kernel_rfl)
theorem n59_0s : codeB Try.prog E cx n59_0 st = thenS (codeB Try.prog E cx n59_1 st) (codeB Try.prog E cx n59_2) := GE.seq_step (by kernel_rfl)
noncomputable def n60_0 : Code := bodyOf Try.f60
noncomputable def n60_1 : Code := cl n60_0
noncomputable def q60_1 : List Oper := opsOf n60_1
noncomputable def n60_2 : Code := cr n60_0
noncomputable def n60_3 : Code := cl n60_2
noncomputable def q60_3 : List Oper := opsOf n60_3
noncomputable def n60_4 : Code := cr n60_2
noncomputable def n60_5 : Code := cl n60_4
noncomputable def n60_6 : Code := cl n60_5
noncomputable def q60_6 : List Oper := opsOf n60_6
noncomputable def n60_7 : Code := cr n60_5
noncomputable def n60_8 : Code := cl n60_7
noncomputable def n60_9 : Code := cl n60_8
noncomputable def q60_9 : List Oper := opsOf n60_9
noncomputable def n60_10 : Code := cr n60_8
noncomputable def q60_10 : List Oper := opsOf n60_10
noncomputable def n60_11 : Code := cr n60_7
noncomputable def n60_12 : Code := cr n60_4
noncomputable def n60_13 : Code := cl n60_12
noncomputable def q60_13 : List Oper := opsOf n60_13
noncomputable def n60_14 : Code := cr n60_12
theorem body60 : Try.f60.body = some n60_0 := by kernel_rfl
theorem run60 (E : Ev) (args : List Value) (h : List Blk) (hl : args.length ≤ 31) : runB Try.prog E 60 args h = endS Try.prog [.tmp 4] h.length (codeB Try.prog E ⟨60, 31, h.length, none⟩ n60_0 ⟨enumT 0 args, h, []⟩) := GE.run_step Try.func60 body60 (by kernel_rfl) (by decide) (by kernel_rfl) hl
theorem n60_1s : codeB Try.prog E ⟨f, 31, b, ro⟩ n60_1 st = plainS (runOps Try.prog E b q60_1 (ops [false] Try.f60) st) := GE.region_step (id := 0) (GE.reg_of (by kernel_rfl)) (by kernel_rfl)
theorem n60_3s : codeB Try.prog E ⟨f, 31, b, ro⟩ n60_3 st = plainS (runOps Try.prog E b q60_3 (ops [true, false] Try.f60) st) := GE.region_step (id := 1) (GE.reg_of (by kernel_rfl)) (by kernel_rfl)
theorem n60_6s : codeB Try.prog E ⟨f, 31, b, ro⟩ n60_6 st = plainS (runOps Try.prog E b q60_6 (ops [true, true, false, false] Try.f60) st) := GE.region_step (id := 2) (GE.reg_of (by kernel_rfl)) (by kernel_rfl)
theorem n60_9s : codeB Try.prog E ⟨f, 31, b, ro⟩ n60_9 st = plainS (runOps Try.prog E b q60_9 (ops [true, true, false, true, false, false] Try.f60) st) := GE.region_step (id := 3) (GE.reg_of (by kernel_rfl)) (by kernel_rfl)
theorem n60_10s : codeB Try.prog E ⟨f, 31, b, ro⟩ n60_10 st = plainS (runOps Try.prog E b q60_10 (ops [true, true, false, true, false, true] Try.f60) st) := GE.region_step (id := 4) (GE.reg_of (by kernel_rfl)) (by kernel_rfl)
theorem n60_8s : codeB Try.prog E cx n60_8 st = thenS (codeB Try.prog E cx n60_9 st) (codeB Try.prog E cx n60_10) := GE.seq_step (by kernel_rfl)
theorem n60_11s : codeB Try.prog E cx n60_11 st = some (.normal, st) := GE.skip_step (by kernel_rfl)
theorem n60_7s : codeB Try.prog E cx n60_7 st = condS (codeB Try.prog E cx n60_8) (codeB Try.prog E cx n60_11) (lk st.σ 17) st := GE.cond_step (c := .tmp 17) (by kernel_rfl)
theorem n60_5s : codeB Try.prog E cx n60_5 st = thenS (codeB Try.prog E cx n60_6 st) (codeB Try.prog E cx n60_7) := GE.seq_step (by kernel_rfl)
theorem n60_13s : codeB Try.prog E ⟨f, 31, b, ro⟩ n60_13 st = plainS (runOps Try.prog E b q60_13 (ops [true, true, true, false] Try.f60) st) := GE.region_step (id := 5) (GE.reg_of (by kernel_rfl)) (by kernel_rfl)
theorem n60_14s : codeB Try.prog LL ⟨60, 31, b, ro⟩ n60_14 st = normS b ⟨[4], []⟩ .ret st := GE.ret_step (by kernel_rfl) (by kernel_rfl)
theorem n60_12s : codeB Try.prog E cx n60_12 st = thenS (codeB Try.prog E cx n60_13 st) (codeB Try.prog E cx n60_14) := GE.seq_step (by kernel_rfl)
theorem n60_4s : codeB Try.prog E cx n60_4 st = thenS (codeB Try.prog E cx n60_5 st) (codeB Try.prog E cx n60_12) := GE.seq_step (by kernel_rfl)
theorem n60_2s : codeB Try.prog E cx n60_2 st = thenS (codeB Try.prog E cx n60_3 st) (codeB Try.prog E cx n60_4) := GE.seq_step (by kernel_rfl)
theorem n60_0s : codeB Try.prog E cx n60_0 st = thenS (codeB Try.prog E cx n60_1 st) (codeB Try.prog E cx n60_2) := GE.seq_step (by kernel_rfl)
noncomputable def n61_0 : Code := bodyOf Try.f61
noncomputable def n61_1 : Code := cl n61_0
noncomputable def q61_1 : List Oper := opsOf n61_1
noncomputable def n61_2 : Code := cr n61_0
noncomputable def n61_3 : Code := cl n61_2
noncomputable def q61_3 : List Oper := opsOf n61_3
noncomputable def n61_4 : Code := cr n61_2
noncomputable def n61_5 : Code := cl n61_4
noncomputable def n61_6 : Code := cl n61_5
noncomputable def q61_6 : List Oper := opsOf n61_6
noncomputable def n61_7 : Code := cr n61_5
noncomputable def n61_8 : Code := cl n61_7
noncomputable def q61_8 : List Oper := opsOf n61_8
noncomputable def n61_9 : Code := cr n61_7
noncomputable def n61_10 : Code := cr n61_4
noncomputable def n61_11 : Code := cl n61_10
noncomputable def q61_11 : List Oper := opsOf n61_11
noncomputable def n61_12 : Code := cr n61_10
theorem body61 : Try.f61.body = some n61_0 := by kernel_rfl
theorem run61 (E : Ev) (args : List Value) (h : List Blk) (hl : args.length ≤ 14) : runB Try.prog E 61 args h = endS Try.prog [.tmp 2] h.length (codeB Try.prog E ⟨61, 14, h.length, none⟩ n61_0 ⟨enumT 0 args, h, []⟩) := GE.run_step Try.func61 body61 (by kernel_rfl) (by decide) (by kernel_rfl) hl
theorem n61_1s : codeB Try.prog E ⟨f, 14, b, ro⟩ n61_1 st = plainS (runOps Try.prog E b q61_1 (ops [false] Try.f61) st) := GE.region_step (id := 0) (GE.reg_of (by kernel_rfl)) (by kernel_rfl)
theorem n61_3s : codeB Try.prog E ⟨f, 14, b, ro⟩ n61_3 st = plainS (runOps Try.prog E b q61_3 (ops [true, false] Try.f61) st) := GE.region_step (id := 1) (GE.reg_of (by kernel_rfl)) (by kernel_rfl)
theorem q61_6g2 : gd q61_6 2 = some 8 := by kernel_rfl
theorem n61_6s : codeB Try.prog E ⟨f, 14, b, ro⟩ n61_6 st = plainS (runOps Try.prog E b q61_6 (ops [true, true, false, false] Try.f61) st) := GE.region_step (id := 2) (GE.reg_of (by kernel_rfl)) (by kernel_rfl)
theorem n61_8s : codeB Try.prog E ⟨f, 14, b, ro⟩ n61_8 st = plainS (runOps Try.prog E b q61_8 (ops [true, true, false, true, false] Try.f61) st) := GE.region_step (id := 3) (GE.reg_of (by kernel_rfl)) (by kernel_rfl)
theorem n61_9s : codeB Try.prog E cx n61_9 st = some (.normal, st) := GE.skip_step (by kernel_rfl)
theorem n61_7s : codeB Try.prog E cx n61_7 st = condS (codeB Try.prog E cx n61_8) (codeB Try.prog E cx n61_9) (lk st.σ 12) st := GE.cond_step (c := .tmp 12) (by kernel_rfl)
theorem n61_5s : codeB Try.prog E cx n61_5 st = thenS (codeB Try.prog E cx n61_6 st) (codeB Try.prog E cx n61_7) := GE.seq_step (by kernel_rfl)
theorem n61_11s : codeB Try.prog E ⟨f, 14, b, ro⟩ n61_11 st = plainS (runOps Try.prog E b q61_11 (ops [true, true, true, false] Try.f61) st) := GE.region_step (id := 4) (GE.reg_of (by kernel_rfl)) (by kernel_rfl)
theorem n61_12s : codeB Try.prog LL ⟨61, 14, b, ro⟩ n61_12 st = normS b ⟨[2], []⟩ .ret st := GE.ret_step (by kernel_rfl) (by kernel_rfl)
theorem n61_10s : codeB Try.prog E cx n61_10 st = thenS (codeB Try.prog E cx n61_11 st) (codeB Try.prog E cx n61_12) := GE.seq_step (by kernel_rfl)
theorem n61_4s : codeB Try.prog E cx n61_4 st = thenS (codeB Try.prog E cx n61_5 st) (codeB Try.prog E cx n61_10) := GE.seq_step (by kernel_rfl)
theorem n61_2s : codeB Try.prog E cx n61_2 st = thenS (codeB Try.prog E cx n61_3 st) (codeB Try.prog E cx n61_4) := GE.seq_step (by kernel_rfl)
theorem n61_0s : codeB Try.prog E cx n61_0 st = thenS (codeB Try.prog E cx n61_1 st) (codeB Try.prog E cx n61_2) := GE.seq_step (by kernel_rfl)
noncomputable def n62_0 : Code := bodyOf Try.f62
noncomputable def n62_1 : Code := cl n62_0
noncomputable def q62_1 : List Oper := opsOf n62_1
noncomputable def n62_2 : Code := cr n62_0
noncomputable def n62_3 : Code := cl n62_2
noncomputable def q62_3 : List Oper := opsOf n62_3
noncomputable def n62_4 : Code := cr n62_2
noncomputable def n62_5 : Code := cl n62_4
noncomputable def q62_5 : List Oper := opsOf n62_5
noncomputable def n62_6 : Code := cr n62_4
noncomputable def n62_7 : Code := cl n62_6
noncomputable def n62_8 : Code := cl n62_7
noncomputable def q62_8 : List Oper := opsOf n62_8
noncomputable def n62_9 : Code := cr n62_7
noncomputable def n62_10 : Code := cl n62_9
noncomputable def n62_11 : Code := cl n62_10
noncomputable def n62_12 : Code := cl n62_11
noncomputable def n62_13 : Code := cl n62_12
noncomputable def q62_13 : List Oper := opsOf n62_13
noncomputable def n62_14 : Code := cr n62_12
noncomputable def n62_15 : Code := cl n62_14
noncomputable def n62_16 : Code := cr n62_14
noncomputable def n62_17 : Code := cr n62_11
noncomputable def n62_18 : Code := cl n62_17
noncomputable def n62_19 : Code := cl n62_18
noncomputable def n62_20 : Code := cl n62_19
noncomputable def q62_20 : List Oper := opsOf n62_20
noncomputable def n62_21 : Code := cr n62_19
noncomputable def n62_22 : Code := cl n62_21
noncomputable def n62_23 : Code := cl n62_22
noncomputable def n62_24 : Code := cl n62_23
noncomputable def n62_25 : Code := cl n62_24
noncomputable def q62_25 : List Oper := opsOf n62_25
noncomputable def n62_26 : Code := cr n62_24
noncomputable def n62_27 : Code := cl n62_26
noncomputable def n62_28 : Code := cr n62_26
noncomputable def n62_29 : Code := cr n62_23
noncomputable def n62_30 : Code := cl n62_29
noncomputable def n62_31 : Code := cl n62_30
noncomputable def n62_32 : Code := cl n62_31
noncomputable def q62_32 : List Oper := opsOf n62_32
noncomputable def n62_33 : Code := cr n62_31
noncomputable def n62_34 : Code := cl n62_33
noncomputable def q62_34 : List Oper := opsOf n62_34
noncomputable def n62_35 : Code := cr n62_33
noncomputable def n62_36 : Code := cr n62_29
noncomputable def q62_36 : List Oper := opsOf n62_36
noncomputable def n62_37 : Code := cr n62_17
noncomputable def q62_37 : List Oper := opsOf n62_37
noncomputable def n62_38 : Code := cr n62_6
noncomputable def n62_39 : Code := cl n62_38
noncomputable def q62_39 : List Oper := opsOf n62_39
noncomputable def n62_40 : Code := cr n62_38
theorem body62 : Try.f62.body = some n62_0 := by kernel_rfl
theorem run62 (E : Ev) (args : List Value) (h : List Blk) (hl : args.length ≤ 52) : runB Try.prog E 62 args h = endS Try.prog [.tmp 6] h.length (codeB Try.prog E ⟨62, 52, h.length, none⟩ n62_0 ⟨enumT 0 args, h, []⟩) := GE.run_step Try.func62 body62 (by kernel_rfl) (by decide) (by kernel_rfl) hl
theorem n62_1s : codeB Try.prog E ⟨f, 52, b, ro⟩ n62_1 st = plainS (runOps Try.prog E b q62_1 (ops [false] Try.f62) st) := GE.region_step (id := 0) (GE.reg_of (by kernel_rfl)) (by kernel_rfl)
theorem n62_3s : codeB Try.prog E ⟨f, 52, b, ro⟩ n62_3 st = plainS (runOps Try.prog E b q62_3 (ops [true, false] Try.f62) st) := GE.region_step (id := 1) (GE.reg_of (by kernel_rfl)) (by kernel_rfl)
theorem n62_5s : codeB Try.prog E ⟨f, 52, b, ro⟩ n62_5 st = plainS (runOps Try.prog E b q62_5 (ops [true, true, false] Try.f62) st) := GE.region_step (id := 2) (GE.reg_of (by kernel_rfl)) (by kernel_rfl)
theorem n62_8s : codeB Try.prog E ⟨f, 52, b, ro⟩ n62_8 st = plainS (runOps Try.prog E b q62_8 (ops [true, true, true, false, false] Try.f62) st) := GE.region_step (id := 3) (GE.reg_of (by kernel_rfl)) (by kernel_rfl)
theorem n62_13s : codeB Try.prog E ⟨f, 52, b, ro⟩ n62_13 st = plainS (runOps Try.prog E b q62_13 (ops [true, true, true, false, true, false, false, false, false] Try.f62) st) := GE.region_step (id := 4) (GE.reg_of (by kernel_rfl)) (by kernel_rfl)
theorem n62_15s : codeB Try.prog E cx n62_15 st = some (.normal, st) := GE.skip_step (by kernel_rfl)
theorem n62_16s : codeB Try.prog LL ⟨62, 52, b, ro⟩ n62_16 st = normS b ⟨[7], [⟨7, 0, 1, true⟩]⟩ (.exit 0) st := GE.exit_step (by kernel_rfl) (by kernel_rfl)
theorem n62_14s : codeB Try.prog E cx n62_14 st = condS (codeB Try.prog E cx n62_15) (codeB Try.prog E cx n62_16) (lk st.σ 23) st := GE.cond_step (c := .tmp 23) (by kernel_rfl)
theorem n62_12s : codeB Try.prog E cx n62_12 st = thenS (codeB Try.prog E cx n62_13 st) (codeB Try.prog E cx n62_14) := GE.seq_step (by kernel_rfl)
theorem n62_20s : codeB Try.prog E ⟨f, 52, b, ro⟩ n62_20 st = plainS (runOps Try.prog E b q62_20 (ops [true, true, true, false, true, false, false, true, false, false, false] Try.f62) st) := GE.region_step (id := 6) (GE.reg_of (by kernel_rfl)) (by kernel_rfl)
theorem n62_25s : codeB Try.prog E ⟨f, 52, b, ro⟩ n62_25 st = plainS (runOps Try.prog E b q62_25 (ops [true, true, true, false, true, false, false, true, false, false, true, false, false, false, false] Try.f62) st) := GE.region_step (id := 7) (GE.reg_of (by kernel_rfl)) (by kernel_rfl)
theorem n62_27s : codeB Try.prog E cx n62_27 st = some (.normal, st) := GE.skip_step (by kernel_rfl)
theorem n62_28s : codeB Try.prog LL ⟨62, 52, b, ro⟩ n62_28 st = normS b ⟨[0, 1, 2, 7, 8], [⟨0, 0, 2, true⟩, ⟨7, 0, 1, true⟩]⟩ (.exit 2) st := GE.exit_step (by kernel_rfl) (by kernel_rfl)
theorem n62_26s : codeB Try.prog E cx n62_26 st = condS (codeB Try.prog E cx n62_27) (codeB Try.prog E cx n62_28) (lk st.σ 29) st := GE.cond_step (c := .tmp 29) (by kernel_rfl)
theorem n62_24s : codeB Try.prog E cx n62_24 st = thenS (codeB Try.prog E cx n62_25 st) (codeB Try.prog E cx n62_26) := GE.seq_step (by kernel_rfl)
theorem n62_32s : codeB Try.prog E ⟨f, 52, b, ro⟩ n62_32 st = plainS (runOps Try.prog E b q62_32 (ops [true, true, true, false, true, false, false, true, false, false, true, false, false, true, false, false, false] Try.f62) st) := GE.region_step (id := 9) (GE.reg_of (by kernel_rfl)) (by kernel_rfl)
theorem n62_34s : codeB Try.prog E ⟨f, 52, b, ro⟩ n62_34 st = drawS [0, 0, 3, 7, 0, 0, 0, 64, 224, 496, 1008, 2047, 4095, 8191] (runOpsF Try.prog E b q62_34 (ops [true, true, true, false, true, false, false, true, false, false, true, false, false, true, false, false, true, false] Try.f62) st) := GE.draw_step (id := 10) (GE.reg_of (by kernel_rfl)) (by kernel_rfl) (by kernel_rfl) (by kernel_rfl)
theorem n62_35s : codeB Try.prog E cx n62_35 st = some (.normal, st) := GE.skip_step (by kernel_rfl)
theorem n62_33s : codeB Try.prog E cx n62_33 st = condS (codeB Try.prog E cx n62_34) (codeB Try.prog E cx n62_35) (lk st.σ 37) st := GE.cond_step (c := .tmp 37) (by kernel_rfl)
theorem n62_31s : codeB Try.prog E cx n62_31 st = thenS (codeB Try.prog E cx n62_32 st) (codeB Try.prog E cx n62_33) := GE.seq_step (by kernel_rfl)
theorem n62_30s : codeB Try.prog E cx n62_30 st = blockS 3 (codeB Try.prog E cx n62_31 st) st := GE.block_step (by kernel_rfl)
theorem n62_36s : codeB Try.prog E ⟨f, 52, b, ro⟩ n62_36 st = plainS (runOps Try.prog E b q62_36 (ops [true, true, true, false, true, false, false, true, false, false, true, false, false, true, true] Try.f62) st) := GE.region_step (id := 8) (GE.reg_of (by kernel_rfl)) (by kernel_rfl)
theorem n62_29s : codeB Try.prog E cx n62_29 st = thenS (codeB Try.prog E cx n62_30 st) (codeB Try.prog E cx n62_36) := GE.seq_step (by kernel_rfl)
theorem n62_23s : codeB Try.prog E cx n62_23 st = thenS (codeB Try.prog E cx n62_24 st) (codeB Try.prog E cx n62_29) := GE.seq_step (by kernel_rfl)
theorem n62_22k : LL.kp (⟨62, 52, b, ro⟩ : Cx).fn (4 * rid n62_23 + 3) = some ⟨[9, 0, 1, 2, 7, 8], [⟨0, 0, 2, true⟩, ⟨7, 0, 1, true⟩]⟩ := by kernel_rfl
theorem n62_22s : codeB Try.prog LL ⟨62, 52, b, ro⟩ n62_22 st = headS b ⟨[9, 0, 1, 2, 7, 8], [⟨0, 0, 2, true⟩, ⟨7, 0, 1, true⟩]⟩ st (lpB Try.prog LL ⟨62, 52, b, ro⟩ n62_22 n62_23) := GE.lpB_step (by kernel_rfl) (n62_22k b ro)
theorem n62_22g : LL.code ⟨62, 52, b, ro⟩ n62_22 st = headS b ⟨[9, 0, 1, 2, 7, 8], [⟨0, 0, 2, true⟩, ⟨7, 0, 1, true⟩]⟩ st (lpB Try.prog LL ⟨62, 52, b, ro⟩ n62_22 n62_23) := GE.lpB_again (by kernel_rfl) (n62_22k b ro)
theorem n62_21s : codeB Try.prog E cx n62_21 st = blockS 2 (codeB Try.prog E cx n62_22 st) st := GE.block_step (by kernel_rfl)
theorem n62_19s : codeB Try.prog E cx n62_19 st = thenS (codeB Try.prog E cx n62_20 st) (codeB Try.prog E cx n62_21) := GE.seq_step (by kernel_rfl)
theorem n62_18s : codeB Try.prog E cx n62_18 st = blockS 1 (codeB Try.prog E cx n62_19 st) st := GE.block_step (by kernel_rfl)
theorem n62_37s : codeB Try.prog E ⟨f, 52, b, ro⟩ n62_37 st = plainS (runOps Try.prog E b q62_37 (ops [true, true, true, false, true, false, false, true, true] Try.f62) st) := GE.region_step (id := 5) (GE.reg_of (by kernel_rfl)) (by kernel_rfl)
theorem n62_17s : codeB Try.prog E cx n62_17 st = thenS (codeB Try.prog E cx n62_18 st) (codeB Try.prog E cx n62_37) := GE.seq_step (by kernel_rfl)
theorem n62_11s : codeB Try.prog E cx n62_11 st = thenS (codeB Try.prog E cx n62_12 st) (codeB Try.prog E cx n62_17) := GE.seq_step (by kernel_rfl)
theorem n62_10k : LL.kp (⟨62, 52, b, ro⟩ : Cx).fn (4 * rid n62_11 + 3) = some ⟨[0, 1, 2, 7, 8], [⟨0, 0, 2, true⟩, ⟨7, 0, 1, true⟩]⟩ := by kernel_rfl
theorem n62_10s : codeB Try.prog LL ⟨62, 52, b, ro⟩ n62_10 st = headS b ⟨[0, 1, 2, 7, 8], [⟨0, 0, 2, true⟩, ⟨7, 0, 1, true⟩]⟩ st (lpB Try.prog LL ⟨62, 52, b, ro⟩ n62_10 n62_11) := GE.lpB_step (by kernel_rfl) (n62_10k b ro)
theorem n62_10g : LL.code ⟨62, 52, b, ro⟩ n62_10 st = headS b ⟨[0, 1, 2, 7, 8], [⟨0, 0, 2, true⟩, ⟨7, 0, 1, true⟩]⟩ st (lpB Try.prog LL ⟨62, 52, b, ro⟩ n62_10 n62_11) := GE.lpB_again (by kernel_rfl) (n62_10k b ro)
theorem n62_9s : codeB Try.prog E cx n62_9 st = blockS 0 (codeB Try.prog E cx n62_10 st) st := GE.block_step (by kernel_rfl)
theorem n62_7s : codeB Try.prog E cx n62_7 st = thenS (codeB Try.prog E cx n62_8 st) (codeB Try.prog E cx n62_9) := GE.seq_step (by kernel_rfl)
theorem n62_39s : codeB Try.prog E ⟨f, 52, b, ro⟩ n62_39 st = plainS (runOps Try.prog E b q62_39 (ops [true, true, true, true, false] Try.f62) st) := GE.region_step (id := 11) (GE.reg_of (by kernel_rfl)) (by kernel_rfl)
theorem n62_40s : codeB Try.prog LL ⟨62, 52, b, ro⟩ n62_40 st = normS b ⟨[6], [⟨6, 0, 1, true⟩]⟩ .ret st := GE.ret_step (by kernel_rfl) (by kernel_rfl)
theorem n62_38s : codeB Try.prog E cx n62_38 st = thenS (codeB Try.prog E cx n62_39 st) (codeB Try.prog E cx n62_40) := GE.seq_step (by kernel_rfl)
theorem n62_6s : codeB Try.prog E cx n62_6 st = thenS (codeB Try.prog E cx n62_7 st) (codeB Try.prog E cx n62_38) := GE.seq_step (by kernel_rfl)
theorem n62_4s : codeB Try.prog E cx n62_4 st = thenS (codeB Try.prog E cx n62_5 st) (codeB Try.prog E cx n62_6) := GE.seq_step (by kernel_rfl)
theorem n62_2s : codeB Try.prog E cx n62_2 st = thenS (codeB Try.prog E cx n62_3 st) (codeB Try.prog E cx n62_4) := GE.seq_step (by kernel_rfl)
theorem n62_0s : codeB Try.prog E cx n62_0 st = thenS (codeB Try.prog E cx n62_1 st) (codeB Try.prog E cx n62_2) := GE.seq_step (by kernel_rfl)
noncomputable def n63_0 : Code := bodyOf Try.f63
noncomputable def n63_1 : Code := cl n63_0
noncomputable def q63_1 : List Oper := opsOf n63_1
noncomputable def n63_2 : Code := cr n63_0
noncomputable def n63_3 : Code := cl n63_2
noncomputable def n63_4 : Code := cl n63_3
noncomputable def q63_4 : List Oper := opsOf n63_4
noncomputable def n63_5 : Code := cr n63_3
noncomputable def n63_6 : Code := cl n63_5
noncomputable def n63_7 : Code := cl n63_6
noncomputable def q63_7 : List Oper := opsOf n63_7
noncomputable def n63_8 : Code := cr n63_6
noncomputable def n63_9 : Code := cr n63_5
noncomputable def n63_10 : Code := cr n63_2
noncomputable def n63_11 : Code := cl n63_10
noncomputable def n63_12 : Code := cl n63_11
noncomputable def q63_12 : List Oper := opsOf n63_12
noncomputable def n63_13 : Code := cr n63_11
noncomputable def n63_14 : Code := cl n63_13
noncomputable def n63_15 : Code := cl n63_14
noncomputable def n63_16 : Code := cl n63_15
noncomputable def n63_17 : Code := cl n63_16
noncomputable def q63_17 : List Oper := opsOf n63_17
noncomputable def n63_18 : Code := cr n63_16
noncomputable def n63_19 : Code := cl n63_18
noncomputable def n63_20 : Code := cr n63_18
noncomputable def n63_21 : Code := cr n63_15
noncomputable def n63_22 : Code := cl n63_21
noncomputable def n63_23 : Code := cl n63_22
noncomputable def n63_24 : Code := cl n63_23
noncomputable def q63_24 : List Oper := opsOf n63_24
noncomputable def n63_25 : Code := cr n63_23
noncomputable def n63_26 : Code := cl n63_25
noncomputable def n63_27 : Code := cl n63_26
noncomputable def q63_27 : List Oper := opsOf n63_27
noncomputable def n63_28 : Code := cr n63_26
noncomputable def n63_29 : Code := cr n63_25
noncomputable def n63_30 : Code := cr n63_21
noncomputable def q63_30 : List Oper := opsOf n63_30
noncomputable def n63_31 : Code := cr n63_10
noncomputable def n63_32 : Code := cl n63_31
noncomputable def q63_32 : List Oper := opsOf n63_32
noncomputable def n63_33 : Code := cr n63_31
theorem body63 : Try.f63.body = some n63_0 := by kernel_rfl
theorem run63 (E : Ev) (args : List Value) (h : List Blk) (hl : args.length ≤ 50) : runB Try.prog E 63 args h = endS Try.prog [.tmp 10] h.length (codeB Try.prog E ⟨63, 50, h.length, none⟩ n63_0 ⟨enumT 0 args, h, []⟩) := GE.run_step Try.func63 body63 (by kernel_rfl) (by decide) (by kernel_rfl) hl
theorem n63_1s : codeB Try.prog E ⟨f, 50, b, ro⟩ n63_1 st = plainS (runOps Try.prog E b q63_1 (ops [false] Try.f63) st) := GE.region_step (id := 0) (GE.reg_of (by kernel_rfl)) (by kernel_rfl)
theorem q63_4g5 : gd q63_4 5 = some 17 := by kernel_rfl
theorem q63_4g9 : gd q63_4 9 = some 21 := by kernel_rfl
theorem q63_4g13 : gd q63_4 13 = some 25 := by kernel_rfl
theorem n63_4s : codeB Try.prog E ⟨f, 50, b, ro⟩ n63_4 st = plainS (runOps Try.prog E b q63_4 (ops [true, false, false] Try.f63) st) := GE.region_step (id := 1) (GE.reg_of (by kernel_rfl)) (by kernel_rfl)
theorem n63_7s : codeB Try.prog E ⟨f, 50, b, ro⟩ n63_7 st = plainS (runOps Try.prog E b q63_7 (ops [true, false, true, false, false] Try.f63) st) := GE.region_step (id := 2) (GE.reg_of (by kernel_rfl)) (by kernel_rfl)
theorem n63_8s : codeB Try.prog LL ⟨63, 50, b, ro⟩ n63_8 st = normS b ⟨[10], []⟩ .ret st := GE.ret_step (by kernel_rfl) (by kernel_rfl)
theorem n63_6s : codeB Try.prog E cx n63_6 st = thenS (codeB Try.prog E cx n63_7 st) (codeB Try.prog E cx n63_8) := GE.seq_step (by kernel_rfl)
theorem n63_9s : codeB Try.prog E cx n63_9 st = some (.normal, st) := GE.skip_step (by kernel_rfl)
theorem n63_5s : codeB Try.prog E cx n63_5 st = condS (codeB Try.prog E cx n63_6) (codeB Try.prog E cx n63_9) (lk st.σ 32) st := GE.cond_step (c := .tmp 32) (by kernel_rfl)
theorem n63_3s : codeB Try.prog E cx n63_3 st = thenS (codeB Try.prog E cx n63_4 st) (codeB Try.prog E cx n63_5) := GE.seq_step (by kernel_rfl)
theorem n63_12s : codeB Try.prog E ⟨f, 50, b, ro⟩ n63_12 st = plainS (runOps Try.prog E b q63_12 (ops [true, true, false, false] Try.f63) st) := GE.region_step (id := 3) (GE.reg_of (by kernel_rfl)) (by kernel_rfl)
theorem n63_17s : codeB Try.prog E ⟨f, 50, b, ro⟩ n63_17 st = plainS (runOps Try.prog E b q63_17 (ops [true, true, false, true, false, false, false, false] Try.f63) st) := GE.region_step (id := 4) (GE.reg_of (by kernel_rfl)) (by kernel_rfl)
theorem n63_19s : codeB Try.prog E cx n63_19 st = some (.normal, st) := GE.skip_step (by kernel_rfl)
theorem n63_20s : codeB Try.prog LL ⟨63, 50, b, ro⟩ n63_20 st = normS b ⟨[], []⟩ (.exit 0) st := GE.exit_step (by kernel_rfl) (by kernel_rfl)
theorem n63_18s : codeB Try.prog E cx n63_18 st = condS (codeB Try.prog E cx n63_19) (codeB Try.prog E cx n63_20) (lk st.σ 36) st := GE.cond_step (c := .tmp 36) (by kernel_rfl)
theorem n63_16s : codeB Try.prog E cx n63_16 st = thenS (codeB Try.prog E cx n63_17 st) (codeB Try.prog E cx n63_18) := GE.seq_step (by kernel_rfl)
theorem q63_24g5 : gd q63_24 5 = some 44 := by kernel_rfl
theorem n63_24s : codeB Try.prog E ⟨f, 50, b, ro⟩ n63_24 st = plainS (runOps Try.prog E b q63_24 (ops [true, true, false, true, false, false, true, false, false, false] Try.f63) st) := GE.region_step (id := 6) (GE.reg_of (by kernel_rfl)) (by kernel_rfl)
theorem n63_27s : codeB Try.prog E ⟨f, 50, b, ro⟩ n63_27 st = plainS (runOps Try.prog E b q63_27 (ops [true, true, false, true, false, false, true, false, false, true, false, false] Try.f63) st) := GE.region_step (id := 7) (GE.reg_of (by kernel_rfl)) (by kernel_rfl)
theorem n63_28s : codeB Try.prog LL ⟨63, 50, b, ro⟩ n63_28 st = normS b ⟨[10], []⟩ .ret st := GE.ret_step (by kernel_rfl) (by kernel_rfl)
theorem n63_26s : codeB Try.prog E cx n63_26 st = thenS (codeB Try.prog E cx n63_27 st) (codeB Try.prog E cx n63_28) := GE.seq_step (by kernel_rfl)
theorem n63_29s : codeB Try.prog E cx n63_29 st = some (.normal, st) := GE.skip_step (by kernel_rfl)
theorem n63_25s : codeB Try.prog E cx n63_25 st = condS (codeB Try.prog E cx n63_26) (codeB Try.prog E cx n63_29) (lk st.σ 49) st := GE.cond_step (c := .tmp 49) (by kernel_rfl)
theorem n63_23s : codeB Try.prog E cx n63_23 st = thenS (codeB Try.prog E cx n63_24 st) (codeB Try.prog E cx n63_25) := GE.seq_step (by kernel_rfl)
theorem n63_22s : codeB Try.prog E cx n63_22 st = blockS 1 (codeB Try.prog E cx n63_23 st) st := GE.block_step (by kernel_rfl)
theorem n63_30s : codeB Try.prog E ⟨f, 50, b, ro⟩ n63_30 st = plainS (runOps Try.prog E b q63_30 (ops [true, true, false, true, false, false, true, true] Try.f63) st) := GE.region_step (id := 5) (GE.reg_of (by kernel_rfl)) (by kernel_rfl)
theorem n63_21s : codeB Try.prog E cx n63_21 st = thenS (codeB Try.prog E cx n63_22 st) (codeB Try.prog E cx n63_30) := GE.seq_step (by kernel_rfl)
theorem n63_15s : codeB Try.prog E cx n63_15 st = thenS (codeB Try.prog E cx n63_16 st) (codeB Try.prog E cx n63_21) := GE.seq_step (by kernel_rfl)
theorem n63_14k : LL.kp (⟨63, 50, b, ro⟩ : Cx).fn (4 * rid n63_15 + 3) = some ⟨[0, 1, 2, 11], [⟨0, 0, 2, true⟩]⟩ := by kernel_rfl
theorem n63_14s : codeB Try.prog LL ⟨63, 50, b, ro⟩ n63_14 st = headS b ⟨[0, 1, 2, 11], [⟨0, 0, 2, true⟩]⟩ st (lpB Try.prog LL ⟨63, 50, b, ro⟩ n63_14 n63_15) := GE.lpB_step (by kernel_rfl) (n63_14k b ro)
theorem n63_14g : LL.code ⟨63, 50, b, ro⟩ n63_14 st = headS b ⟨[0, 1, 2, 11], [⟨0, 0, 2, true⟩]⟩ st (lpB Try.prog LL ⟨63, 50, b, ro⟩ n63_14 n63_15) := GE.lpB_again (by kernel_rfl) (n63_14k b ro)
theorem n63_13s : codeB Try.prog E cx n63_13 st = blockS 0 (codeB Try.prog E cx n63_14 st) st := GE.block_step (by kernel_rfl)
theorem n63_11s : codeB Try.prog E cx n63_11 st = thenS (codeB Try.prog E cx n63_12 st) (codeB Try.prog E cx n63_13) := GE.seq_step (by kernel_rfl)
theorem n63_32s : codeB Try.prog E ⟨f, 50, b, ro⟩ n63_32 st = plainS (runOps Try.prog E b q63_32 (ops [true, true, true, false] Try.f63) st) := GE.region_step (id := 8) (GE.reg_of (by kernel_rfl)) (by kernel_rfl)
theorem n63_33s : codeB Try.prog LL ⟨63, 50, b, ro⟩ n63_33 st = normS b ⟨[10], []⟩ .ret st := GE.ret_step (by kernel_rfl) (by kernel_rfl)
theorem n63_31s : codeB Try.prog E cx n63_31 st = thenS (codeB Try.prog E cx n63_32 st) (codeB Try.prog E cx n63_33) := GE.seq_step (by kernel_rfl)
theorem n63_10s : codeB Try.prog E cx n63_10 st = thenS (codeB Try.prog E cx n63_11 st) (codeB Try.prog E cx n63_31) := GE.seq_step (by kernel_rfl)
theorem n63_2s : codeB Try.prog E cx n63_2 st = thenS (codeB Try.prog E cx n63_3 st) (codeB Try.prog E cx n63_10) := GE.seq_step (by kernel_rfl)
theorem n63_0s : codeB Try.prog E cx n63_0 st = thenS (codeB Try.prog E cx n63_1 st) (codeB Try.prog E cx n63_2) := GE.seq_step (by kernel_rfl)
noncomputable def n69_0 : Code := bodyOf Try.f69
noncomputable def n69_1 : Code := cl n69_0
noncomputable def q69_1 : List Oper := opsOf n69_1
noncomputable def n69_2 : Code := cr n69_0
noncomputable def n69_3 : Code := cl n69_2
noncomputable def q69_3 : List Oper := opsOf n69_3
noncomputable def n69_4 : Code := cr n69_2
noncomputable def n69_5 : Code := cl n69_4
noncomputable def q69_5 : List Oper := opsOf n69_5
noncomputable def n69_6 : Code := cr n69_4
noncomputable def n69_7 : Code := cl n69_6
noncomputable def q69_7 : List Oper := opsOf n69_7
noncomputable def n69_8 : Code := cr n69_6
noncomputable def n69_9 : Code := cl n69_8
noncomputable def q69_9 : List Oper := opsOf n69_9
noncomputable def n69_10 : Code := cr n69_8
noncomputable def n69_11 : Code := cl n69_10
noncomputable def q69_11 : List Oper := opsOf n69_11
noncomputable def n69_12 : Code := cr n69_10
theorem body69 : Try.f69.body = some n69_0 := by kernel_rfl
theorem run69 (E : Ev) (args : List Value) (h : List Blk) (hl : args.length ≤ 32) : runB Try.prog E 69 args h = endS Try.prog [.tmp 4] h.length (codeB Try.prog E ⟨69, 32, h.length, none⟩ n69_0 ⟨enumT 0 args, h, []⟩) := GE.run_step Try.func69 body69 (by kernel_rfl) (by decide) (by kernel_rfl) hl
theorem n69_1s : codeB Try.prog E ⟨f, 32, b, ro⟩ n69_1 st = plainS (runOps Try.prog E b q69_1 (ops [false] Try.f69) st) := GE.region_step (id := 0) (GE.reg_of (by kernel_rfl)) (by kernel_rfl)
theorem n69_3s : codeB Try.prog E ⟨f, 32, b, ro⟩ n69_3 st = plainS (runOps Try.prog E b q69_3 (ops [true, false] Try.f69) st) := GE.region_step (id := 1) (GE.reg_of (by kernel_rfl)) (by kernel_rfl)
theorem n69_5s : codeB Try.prog E ⟨f, 32, b, ro⟩ n69_5 st = plainS (runOps Try.prog E b q69_5 (ops [true, true, false] Try.f69) st) := GE.region_step (id := 2) (GE.reg_of (by kernel_rfl)) (by kernel_rfl)
theorem n69_7s : codeB Try.prog E ⟨f, 32, b, ro⟩ n69_7 st = plainS (runOps Try.prog E b q69_7 (ops [true, true, true, false] Try.f69) st) := GE.region_step (id := 3) (GE.reg_of (by kernel_rfl)) (by kernel_rfl)
theorem n69_9s : codeB Try.prog E ⟨f, 32, b, ro⟩ n69_9 st = plainS (runOps Try.prog E b q69_9 (ops [true, true, true, true, false] Try.f69) st) := GE.region_step (id := 4) (GE.reg_of (by kernel_rfl)) (by kernel_rfl)
theorem n69_11s : codeB Try.prog E ⟨f, 32, b, ro⟩ n69_11 st = plainS (runOps Try.prog E b q69_11 (ops [true, true, true, true, true, false] Try.f69) st) := GE.region_step (id := 5) (GE.reg_of (by kernel_rfl)) (by kernel_rfl)
theorem n69_12s : codeB Try.prog LL ⟨69, 32, b, ro⟩ n69_12 st = normS b ⟨[4], []⟩ .ret st := GE.ret_step (by kernel_rfl) (by kernel_rfl)
theorem n69_10s : codeB Try.prog E cx n69_10 st = thenS (codeB Try.prog E cx n69_11 st) (codeB Try.prog E cx n69_12) := GE.seq_step (by kernel_rfl)
theorem n69_8s : codeB Try.prog E cx n69_8 st = thenS (codeB Try.prog E cx n69_9 st) (codeB Try.prog E cx n69_10) := GE.seq_step (by kernel_rfl)
theorem n69_6s : codeB Try.prog E cx n69_6 st = thenS (codeB Try.prog E cx n69_7 st) (codeB Try.prog E cx n69_8) := GE.seq_step (by kernel_rfl)
theorem n69_4s : codeB Try.prog E cx n69_4 st = thenS (codeB Try.prog E cx n69_5 st) (codeB Try.prog E cx n69_6) := GE.seq_step (by kernel_rfl)
theorem n69_2s : codeB Try.prog E cx n69_2 st = thenS (codeB Try.prog E cx n69_3 st) (codeB Try.prog E cx n69_4) := GE.seq_step (by kernel_rfl)
theorem n69_0s : codeB Try.prog E cx n69_0 st = thenS (codeB Try.prog E cx n69_1 st) (codeB Try.prog E cx n69_2) := GE.seq_step (by kernel_rfl)
noncomputable def n71_0 : Code := bodyOf Try.f71
noncomputable def n71_1 : Code := cl n71_0
noncomputable def q71_1 : List Oper := opsOf n71_1
noncomputable def n71_2 : Code := cr n71_0
noncomputable def n71_3 : Code := cl n71_2
noncomputable def q71_3 : List Oper := opsOf n71_3
noncomputable def n71_4 : Code := cr n71_2
theorem body71 : Try.f71.body = some n71_0 := by kernel_rfl
theorem run71 (E : Ev) (args : List Value) (h : List Blk) (hl : args.length ≤ 10) : runB Try.prog E 71 args h = endS Try.prog [.tmp 4] h.length (codeB Try.prog E ⟨71, 10, h.length, none⟩ n71_0 ⟨enumT 0 args, h, []⟩) := GE.run_step Try.func71 body71 (by kernel_rfl) (by decide) (by kernel_rfl) hl
theorem n71_1s : codeB Try.prog E ⟨f, 10, b, ro⟩ n71_1 st = plainS (runOps Try.prog E b q71_1 (ops [false] Try.f71) st) := GE.region_step (id := 0) (GE.reg_of (by kernel_rfl)) (by kernel_rfl)
theorem n71_3s : codeB Try.prog E ⟨f, 10, b, ro⟩ n71_3 st = plainS (runOps Try.prog E b q71_3 (ops [true, false] Try.f71) st) := GE.region_step (id := 1) (GE.reg_of (by kernel_rfl)) (by kernel_rfl)
theorem n71_4s : codeB Try.prog LL ⟨71, 10, b, ro⟩ n71_4 st = normS b ⟨[4], []⟩ .ret st := GE.ret_step (by kernel_rfl) (by kernel_rfl)
theorem n71_2s : codeB Try.prog E cx n71_2 st = thenS (codeB Try.prog E cx n71_3 st) (codeB Try.prog E cx n71_4) := GE.seq_step (by kernel_rfl)
theorem n71_0s : codeB Try.prog E cx n71_0 st = thenS (codeB Try.prog E cx n71_1 st) (codeB Try.prog E cx n71_2) := GE.seq_step (by kernel_rfl)
noncomputable def n72_0 : Code := bodyOf Try.f72
noncomputable def n72_1 : Code := cl n72_0
noncomputable def q72_1 : List Oper := opsOf n72_1
noncomputable def n72_2 : Code := cr n72_0
noncomputable def n72_3 : Code := cl n72_2
noncomputable def n72_4 : Code := cl n72_3
noncomputable def q72_4 : List Oper := opsOf n72_4
noncomputable def n72_5 : Code := cr n72_3
noncomputable def n72_6 : Code := cl n72_5
noncomputable def q72_6 : List Oper := opsOf n72_6
noncomputable def n72_7 : Code := cr n72_5
noncomputable def n72_8 : Code := cl n72_7
noncomputable def n72_9 : Code := cl n72_8
noncomputable def q72_9 : List Oper := opsOf n72_9
noncomputable def n72_10 : Code := cr n72_8
noncomputable def n72_11 : Code := cr n72_7
noncomputable def n72_12 : Code := cr n72_2
noncomputable def n72_13 : Code := cl n72_12
noncomputable def n72_14 : Code := cl n72_13
noncomputable def q72_14 : List Oper := opsOf n72_14
noncomputable def n72_15 : Code := cr n72_13
noncomputable def n72_16 : Code := cl n72_15
noncomputable def n72_17 : Code := cl n72_16
noncomputable def q72_17 : List Oper := opsOf n72_17
noncomputable def n72_18 : Code := cr n72_16
noncomputable def n72_19 : Code := cr n72_15
noncomputable def n72_20 : Code := cr n72_12
noncomputable def n72_21 : Code := cl n72_20
noncomputable def q72_21 : List Oper := opsOf n72_21
noncomputable def n72_22 : Code := cr n72_20
noncomputable def n72_23 : Code := cl n72_22
noncomputable def n72_24 : Code := cl n72_23
noncomputable def q72_24 : List Oper := opsOf n72_24
noncomputable def n72_25 : Code := cr n72_23
noncomputable def n72_26 : Code := cl n72_25
noncomputable def n72_27 : Code := cl n72_26
noncomputable def n72_28 : Code := cl n72_27
noncomputable def q72_28 : List Oper := opsOf n72_28
noncomputable def n72_29 : Code := cr n72_27
noncomputable def n72_30 : Code := cl n72_29
noncomputable def n72_31 : Code := cl n72_30
noncomputable def n72_32 : Code := cr n72_30
noncomputable def n72_33 : Code := cr n72_29
noncomputable def n72_34 : Code := cl n72_33
noncomputable def n72_35 : Code := cl n72_34
noncomputable def n72_36 : Code := cl n72_35
noncomputable def q72_36 : List Oper := opsOf n72_36
noncomputable def n72_37 : Code := cr n72_35
noncomputable def n72_38 : Code := cl n72_37
noncomputable def n72_39 : Code := cl n72_38
noncomputable def n72_40 : Code := cl n72_39
noncomputable def q72_40 : List Oper := opsOf n72_40
noncomputable def n72_41 : Code := cr n72_39
noncomputable def n72_42 : Code := cl n72_41
noncomputable def n72_43 : Code := cl n72_42
noncomputable def q72_43 : List Oper := opsOf n72_43
noncomputable def n72_44 : Code := cr n72_42
noncomputable def n72_45 : Code := cr n72_41
noncomputable def n72_46 : Code := cl n72_45
noncomputable def q72_46 : List Oper := opsOf n72_46
noncomputable def n72_47 : Code := cr n72_45
noncomputable def n72_48 : Code := cl n72_47
noncomputable def n72_49 : Code := cl n72_48
noncomputable def q72_49 : List Oper := opsOf n72_49
noncomputable def n72_50 : Code := cr n72_48
noncomputable def n72_51 : Code := cr n72_47
noncomputable def n72_52 : Code := cr n72_37
noncomputable def q72_52 : List Oper := opsOf n72_52
noncomputable def n72_53 : Code := cr n72_33
noncomputable def q72_53 : List Oper := opsOf n72_53
noncomputable def n72_54 : Code := cr n72_22
noncomputable def n72_55 : Code := cl n72_54
noncomputable def q72_55 : List Oper := opsOf n72_55
noncomputable def n72_56 : Code := cr n72_54
theorem body72 : Try.f72.body = some n72_0 := by kernel_rfl
theorem run72 (E : Ev) (args : List Value) (h : List Blk) (hl : args.length ≤ 43) : runB Try.prog E 72 args h = endS Try.prog [.tmp 4] h.length (codeB Try.prog E ⟨72, 43, h.length, none⟩ n72_0 ⟨enumT 0 args, h, []⟩) := GE.run_step Try.func72 body72 (by kernel_rfl) (by decide) (by kernel_rfl) hl
theorem n72_1s : codeB Try.prog E ⟨f, 43, b, ro⟩ n72_1 st = plainS (runOps Try.prog E b q72_1 (ops [false] Try.f72) st) := GE.region_step (id := 0) (GE.reg_of (by kernel_rfl)) (by kernel_rfl)
theorem n72_4s : codeB Try.prog E ⟨f, 43, b, ro⟩ n72_4 st = plainS (runOps Try.prog E b q72_4 (ops [true, false, false] Try.f72) st) := GE.region_step (id := 1) (GE.reg_of (by kernel_rfl)) (by kernel_rfl)
theorem n72_6s : codeB Try.prog E ⟨f, 43, b, ro⟩ n72_6 st = plainS (runOps Try.prog E b q72_6 (ops [true, false, true, false] Try.f72) st) := GE.region_step (id := 2) (GE.reg_of (by kernel_rfl)) (by kernel_rfl)
theorem n72_9s : codeB Try.prog E ⟨f, 43, b, ro⟩ n72_9 st = plainS (runOps Try.prog E b q72_9 (ops [true, false, true, true, false, false] Try.f72) st) := GE.region_step (id := 3) (GE.reg_of (by kernel_rfl)) (by kernel_rfl)
theorem n72_10s : codeB Try.prog LL ⟨72, 43, b, ro⟩ n72_10 st = normS b ⟨[4], []⟩ .ret st := GE.ret_step (by kernel_rfl) (by kernel_rfl)
theorem n72_8s : codeB Try.prog E cx n72_8 st = thenS (codeB Try.prog E cx n72_9 st) (codeB Try.prog E cx n72_10) := GE.seq_step (by kernel_rfl)
theorem n72_11s : codeB Try.prog E cx n72_11 st = some (.normal, st) := GE.skip_step (by kernel_rfl)
theorem n72_7s : codeB Try.prog E cx n72_7 st = condS (codeB Try.prog E cx n72_8) (codeB Try.prog E cx n72_11) (lk st.σ 12) st := GE.cond_step (c := .tmp 12) (by kernel_rfl)
theorem n72_5s : codeB Try.prog E cx n72_5 st = thenS (codeB Try.prog E cx n72_6 st) (codeB Try.prog E cx n72_7) := GE.seq_step (by kernel_rfl)
theorem n72_3s : codeB Try.prog E cx n72_3 st = thenS (codeB Try.prog E cx n72_4 st) (codeB Try.prog E cx n72_5) := GE.seq_step (by kernel_rfl)
theorem n72_14s : codeB Try.prog E ⟨f, 43, b, ro⟩ n72_14 st = plainS (runOps Try.prog E b q72_14 (ops [true, true, false, false] Try.f72) st) := GE.region_step (id := 4) (GE.reg_of (by kernel_rfl)) (by kernel_rfl)
theorem n72_17s : codeB Try.prog E ⟨f, 43, b, ro⟩ n72_17 st = plainS (runOps Try.prog E b q72_17 (ops [true, true, false, true, false, false] Try.f72) st) := GE.region_step (id := 5) (GE.reg_of (by kernel_rfl)) (by kernel_rfl)
theorem n72_18s : codeB Try.prog LL ⟨72, 43, b, ro⟩ n72_18 st = normS b ⟨[4], []⟩ .ret st := GE.ret_step (by kernel_rfl) (by kernel_rfl)
theorem n72_16s : codeB Try.prog E cx n72_16 st = thenS (codeB Try.prog E cx n72_17 st) (codeB Try.prog E cx n72_18) := GE.seq_step (by kernel_rfl)
theorem n72_19s : codeB Try.prog E cx n72_19 st = some (.normal, st) := GE.skip_step (by kernel_rfl)
theorem n72_15s : codeB Try.prog E cx n72_15 st = condS (codeB Try.prog E cx n72_16) (codeB Try.prog E cx n72_19) (lk st.σ 18) st := GE.cond_step (c := .tmp 18) (by kernel_rfl)
theorem n72_13s : codeB Try.prog E cx n72_13 st = thenS (codeB Try.prog E cx n72_14 st) (codeB Try.prog E cx n72_15) := GE.seq_step (by kernel_rfl)
theorem n72_21s : codeB Try.prog E ⟨f, 43, b, ro⟩ n72_21 st = plainS (runOps Try.prog E b q72_21 (ops [true, true, true, false] Try.f72) st) := GE.region_step (id := 6) (GE.reg_of (by kernel_rfl)) (by kernel_rfl)
theorem n72_24s : codeB Try.prog E ⟨f, 43, b, ro⟩ n72_24 st = plainS (runOps Try.prog E b q72_24 (ops [true, true, true, true, false, false] Try.f72) st) := GE.region_step (id := 7) (GE.reg_of (by kernel_rfl)) (by kernel_rfl)
theorem n72_28s : codeB Try.prog E ⟨f, 43, b, ro⟩ n72_28 st = plainS (runOps Try.prog E b q72_28 (ops [true, true, true, true, false, true, false, false, false] Try.f72) st) := GE.region_step (id := 8) (GE.reg_of (by kernel_rfl)) (by kernel_rfl)
theorem n72_31s : codeB Try.prog E cx n72_31 st = some (.normal, st) := GE.skip_step (by kernel_rfl)
theorem n72_32s : codeB Try.prog LL ⟨72, 43, b, ro⟩ n72_32 st = normS b ⟨[], []⟩ (.exit 0) st := GE.exit_step (by kernel_rfl) (by kernel_rfl)
theorem n72_30s : codeB Try.prog E cx n72_30 st = condS (codeB Try.prog E cx n72_31) (codeB Try.prog E cx n72_32) (lk st.σ 22) st := GE.cond_step (c := .tmp 22) (by kernel_rfl)
theorem n72_36s : codeB Try.prog E ⟨f, 43, b, ro⟩ n72_36 st = plainS (runOps Try.prog E b q72_36 (ops [true, true, true, true, false, true, false, false, true, true, false, false, false] Try.f72) st) := GE.region_step (id := 9) (GE.reg_of (by kernel_rfl)) (by kernel_rfl)
theorem n72_40s : codeB Try.prog E ⟨f, 43, b, ro⟩ n72_40 st = plainS (runOps Try.prog E b q72_40 (ops [true, true, true, true, false, true, false, false, true, true, false, false, true, false, false, false] Try.f72) st) := GE.region_step (id := 10) (GE.reg_of (by kernel_rfl)) (by kernel_rfl)
theorem n72_43s : codeB Try.prog E ⟨f, 43, b, ro⟩ n72_43 st = plainS (runOps Try.prog E b q72_43 (ops [true, true, true, true, false, true, false, false, true, true, false, false, true, false, false, true, false, false] Try.f72) st) := GE.region_step (id := 11) (GE.reg_of (by kernel_rfl)) (by kernel_rfl)
theorem n72_44s : codeB Try.prog LL ⟨72, 43, b, ro⟩ n72_44 st = normS b ⟨[4], []⟩ .ret st := GE.ret_step (by kernel_rfl) (by kernel_rfl)
theorem n72_42s : codeB Try.prog E cx n72_42 st = thenS (codeB Try.prog E cx n72_43 st) (codeB Try.prog E cx n72_44) := GE.seq_step (by kernel_rfl)
theorem n72_46s : codeB Try.prog E ⟨f, 43, b, ro⟩ n72_46 st = plainS (runOps Try.prog E b q72_46 (ops [true, true, true, true, false, true, false, false, true, true, false, false, true, false, false, true, true, false] Try.f72) st) := GE.region_step (id := 12) (GE.reg_of (by kernel_rfl)) (by kernel_rfl)
theorem n72_49s : codeB Try.prog E ⟨f, 43, b, ro⟩ n72_49 st = plainS (runOps Try.prog E b q72_49 (ops [true, true, true, true, false, true, false, false, true, true, false, false, true, false, false, true, true, true, false, false] Try.f72) st) := GE.region_step (id := 13) (GE.reg_of (by kernel_rfl)) (by kernel_rfl)
theorem n72_50s : codeB Try.prog LL ⟨72, 43, b, ro⟩ n72_50 st = normS b ⟨[4], []⟩ .ret st := GE.ret_step (by kernel_rfl) (by kernel_rfl)
theorem n72_48s : codeB Try.prog E cx n72_48 st = thenS (codeB Try.prog E cx n72_49 st) (codeB Try.prog E cx n72_50) := GE.seq_step (by kernel_rfl)
theorem n72_51s : codeB Try.prog E cx n72_51 st = some (.normal, st) := GE.skip_step (by kernel_rfl)
theorem n72_47s : codeB Try.prog E cx n72_47 st = condS (codeB Try.prog E cx n72_48) (codeB Try.prog E cx n72_51) (lk st.σ 32) st := GE.cond_step (c := .tmp 32) (by kernel_rfl)
theorem n72_45s : codeB Try.prog E cx n72_45 st = thenS (codeB Try.prog E cx n72_46 st) (codeB Try.prog E cx n72_47) := GE.seq_step (by kernel_rfl)
theorem n72_41s : codeB Try.prog E cx n72_41 st = condS (codeB Try.prog E cx n72_42) (codeB Try.prog E cx n72_45) (lk st.σ 25) st := GE.cond_step (c := .tmp 25) (by kernel_rfl)
theorem n72_39s : codeB Try.prog E cx n72_39 st = thenS (codeB Try.prog E cx n72_40 st) (codeB Try.prog E cx n72_41) := GE.seq_step (by kernel_rfl)
theorem n72_38s : codeB Try.prog E cx n72_38 st = blockS 2 (codeB Try.prog E cx n72_39 st) st := GE.block_step (by kernel_rfl)
theorem n72_52s : codeB Try.prog E ⟨f, 43, b, ro⟩ n72_52 st = plainS (runOps Try.prog E b q72_52 (ops [true, true, true, true, false, true, false, false, true, true, false, false, true, true] Try.f72) st) := GE.region_step (id := 14) (GE.reg_of (by kernel_rfl)) (by kernel_rfl)
theorem n72_37s : codeB Try.prog E cx n72_37 st = thenS (codeB Try.prog E cx n72_38 st) (codeB Try.prog E cx n72_52) := GE.seq_step (by kernel_rfl)
theorem n72_35s : codeB Try.prog E cx n72_35 st = thenS (codeB Try.prog E cx n72_36 st) (codeB Try.prog E cx n72_37) := GE.seq_step (by kernel_rfl)
theorem n72_34s : codeB Try.prog E cx n72_34 st = blockS 1 (codeB Try.prog E cx n72_35 st) st := GE.block_step (by kernel_rfl)
theorem n72_53s : codeB Try.prog E ⟨f, 43, b, ro⟩ n72_53 st = plainS (runOps Try.prog E b q72_53 (ops [true, true, true, true, false, true, false, false, true, true, true] Try.f72) st) := GE.region_step (id := 15) (GE.reg_of (by kernel_rfl)) (by kernel_rfl)
theorem n72_33s : codeB Try.prog E cx n72_33 st = thenS (codeB Try.prog E cx n72_34 st) (codeB Try.prog E cx n72_53) := GE.seq_step (by kernel_rfl)
theorem n72_29s : codeB Try.prog E cx n72_29 st = thenS (codeB Try.prog E cx n72_30 st) (codeB Try.prog E cx n72_33) := GE.seq_step (by kernel_rfl)
theorem n72_27s : codeB Try.prog E cx n72_27 st = thenS (codeB Try.prog E cx n72_28 st) (codeB Try.prog E cx n72_29) := GE.seq_step (by kernel_rfl)
theorem n72_26k : LL.kp (⟨72, 43, b, ro⟩ : Cx).fn (4 * rid n72_27 + 3) = some ⟨[0, 6, 19, 20, 21], [⟨0, 0, 2, true⟩, ⟨19, 0, 1, true⟩]⟩ := by kernel_rfl
theorem n72_26s : codeB Try.prog LL ⟨72, 43, b, ro⟩ n72_26 st = headS b ⟨[0, 6, 19, 20, 21], [⟨0, 0, 2, true⟩, ⟨19, 0, 1, true⟩]⟩ st (lpB Try.prog LL ⟨72, 43, b, ro⟩ n72_26 n72_27) := GE.lpB_step (by kernel_rfl) (n72_26k b ro)
theorem n72_26g : LL.code ⟨72, 43, b, ro⟩ n72_26 st = headS b ⟨[0, 6, 19, 20, 21], [⟨0, 0, 2, true⟩, ⟨19, 0, 1, true⟩]⟩ st (lpB Try.prog LL ⟨72, 43, b, ro⟩ n72_26 n72_27) := GE.lpB_again (by kernel_rfl) (n72_26k b ro)
theorem n72_25s : codeB Try.prog E cx n72_25 st = blockS 0 (codeB Try.prog E cx n72_26 st) st := GE.block_step (by kernel_rfl)
theorem n72_23s : codeB Try.prog E cx n72_23 st = thenS (codeB Try.prog E cx n72_24 st) (codeB Try.prog E cx n72_25) := GE.seq_step (by kernel_rfl)
theorem n72_55s : codeB Try.prog E ⟨f, 43, b, ro⟩ n72_55 st = plainS (runOps Try.prog E b q72_55 (ops [true, true, true, true, true, false] Try.f72) st) := GE.region_step (id := 16) (GE.reg_of (by kernel_rfl)) (by kernel_rfl)
theorem n72_56s : codeB Try.prog LL ⟨72, 43, b, ro⟩ n72_56 st = normS b ⟨[4], []⟩ .ret st := GE.ret_step (by kernel_rfl) (by kernel_rfl)
theorem n72_54s : codeB Try.prog E cx n72_54 st = thenS (codeB Try.prog E cx n72_55 st) (codeB Try.prog E cx n72_56) := GE.seq_step (by kernel_rfl)
theorem n72_22s : codeB Try.prog E cx n72_22 st = thenS (codeB Try.prog E cx n72_23 st) (codeB Try.prog E cx n72_54) := GE.seq_step (by kernel_rfl)
theorem n72_20s : codeB Try.prog E cx n72_20 st = thenS (codeB Try.prog E cx n72_21 st) (codeB Try.prog E cx n72_22) := GE.seq_step (by kernel_rfl)
theorem n72_12s : codeB Try.prog E cx n72_12 st = thenS (codeB Try.prog E cx n72_13 st) (codeB Try.prog E cx n72_20) := GE.seq_step (by kernel_rfl)
theorem n72_2s : codeB Try.prog E cx n72_2 st = thenS (codeB Try.prog E cx n72_3 st) (codeB Try.prog E cx n72_12) := GE.seq_step (by kernel_rfl)
theorem n72_0s : codeB Try.prog E cx n72_0 st = thenS (codeB Try.prog E cx n72_1 st) (codeB Try.prog E cx n72_2) := GE.seq_step (by kernel_rfl)
noncomputable def n73_0 : Code := bodyOf Try.f73
noncomputable def n73_1 : Code := cl n73_0
noncomputable def q73_1 : List Oper := opsOf n73_1
noncomputable def n73_2 : Code := cr n73_0
noncomputable def n73_3 : Code := cl n73_2
noncomputable def n73_4 : Code := cl n73_3
noncomputable def q73_4 : List Oper := opsOf n73_4
noncomputable def n73_5 : Code := cr n73_3
noncomputable def n73_6 : Code := cl n73_5
noncomputable def n73_7 : Code := cl n73_6
noncomputable def n73_8 : Code := cl n73_7
noncomputable def q73_8 : List Oper := opsOf n73_8
noncomputable def n73_9 : Code := cr n73_7
noncomputable def n73_10 : Code := cl n73_9
noncomputable def n73_11 : Code := cl n73_10
noncomputable def n73_12 : Code := cr n73_10
noncomputable def n73_13 : Code := cr n73_9
noncomputable def n73_14 : Code := cl n73_13
noncomputable def n73_15 : Code := cl n73_14
noncomputable def n73_16 : Code := cl n73_15
noncomputable def q73_16 : List Oper := opsOf n73_16
noncomputable def n73_17 : Code := cr n73_15
noncomputable def n73_18 : Code := cl n73_17
noncomputable def q73_18 : List Oper := opsOf n73_18
noncomputable def n73_19 : Code := cr n73_17
noncomputable def n73_20 : Code := cl n73_19
noncomputable def n73_21 : Code := cl n73_20
noncomputable def n73_22 : Code := cl n73_21
noncomputable def n73_23 : Code := cl n73_22
noncomputable def q73_23 : List Oper := opsOf n73_23
noncomputable def n73_24 : Code := cr n73_22
noncomputable def n73_25 : Code := cl n73_24
noncomputable def n73_26 : Code := cr n73_24
noncomputable def n73_27 : Code := cr n73_21
noncomputable def n73_28 : Code := cl n73_27
noncomputable def n73_29 : Code := cl n73_28
noncomputable def n73_30 : Code := cl n73_29
noncomputable def q73_30 : List Oper := opsOf n73_30
noncomputable def n73_31 : Code := cr n73_29
noncomputable def n73_32 : Code := cl n73_31
noncomputable def n73_33 : Code := cl n73_32
noncomputable def q73_33 : List Oper := opsOf n73_33
noncomputable def n73_34 : Code := cr n73_32
noncomputable def n73_35 : Code := cr n73_31
noncomputable def n73_36 : Code := cr n73_27
noncomputable def q73_36 : List Oper := opsOf n73_36
noncomputable def n73_37 : Code := cr n73_13
noncomputable def q73_37 : List Oper := opsOf n73_37
noncomputable def n73_38 : Code := cr n73_2
noncomputable def n73_39 : Code := cl n73_38
noncomputable def q73_39 : List Oper := opsOf n73_39
noncomputable def n73_40 : Code := cr n73_38
theorem body73 : Try.f73.body = some n73_0 := by kernel_rfl
theorem run73 (E : Ev) (args : List Value) (h : List Blk) (hl : args.length ≤ 35) : runB Try.prog E 73 args h = endS Try.prog [.tmp 4, .tmp 5, .tmp 6] h.length (codeB Try.prog E ⟨73, 35, h.length, none⟩ n73_0 ⟨enumT 0 args, h, []⟩) := GE.run_step Try.func73 body73 (by kernel_rfl) (by decide) (by kernel_rfl) hl
theorem n73_1s : codeB Try.prog E ⟨f, 35, b, ro⟩ n73_1 st = plainS (runOps Try.prog E b q73_1 (ops [false] Try.f73) st) := GE.region_step (id := 0) (GE.reg_of (by kernel_rfl)) (by kernel_rfl)
theorem n73_4s : codeB Try.prog E ⟨f, 35, b, ro⟩ n73_4 st = plainS (runOps Try.prog E b q73_4 (ops [true, false, false] Try.f73) st) := GE.region_step (id := 1) (GE.reg_of (by kernel_rfl)) (by kernel_rfl)
theorem n73_8s : codeB Try.prog E ⟨f, 35, b, ro⟩ n73_8 st = plainS (runOps Try.prog E b q73_8 (ops [true, false, true, false, false, false] Try.f73) st) := GE.region_step (id := 2) (GE.reg_of (by kernel_rfl)) (by kernel_rfl)
theorem n73_11s : codeB Try.prog E cx n73_11 st = some (.normal, st) := GE.skip_step (by kernel_rfl)
theorem n73_12s : codeB Try.prog LL ⟨73, 35, b, ro⟩ n73_12 st = normS b ⟨[], []⟩ (.exit 0) st := GE.exit_step (by kernel_rfl) (by kernel_rfl)
theorem n73_10s : codeB Try.prog E cx n73_10 st = condS (codeB Try.prog E cx n73_11) (codeB Try.prog E cx n73_12) (lk st.σ 12) st := GE.cond_step (c := .tmp 12) (by kernel_rfl)
theorem n73_16s : codeB Try.prog E ⟨f, 35, b, ro⟩ n73_16 st = plainS (runOps Try.prog E b q73_16 (ops [true, false, true, false, false, true, true, false, false, false] Try.f73) st) := GE.region_step (id := 3) (GE.reg_of (by kernel_rfl)) (by kernel_rfl)
theorem n73_18s : codeB Try.prog E ⟨f, 35, b, ro⟩ n73_18 st = plainS (runOps Try.prog E b q73_18 (ops [true, false, true, false, false, true, true, false, false, true, false] Try.f73) st) := GE.region_step (id := 4) (GE.reg_of (by kernel_rfl)) (by kernel_rfl)
theorem n73_23s : codeB Try.prog E ⟨f, 35, b, ro⟩ n73_23 st = plainS (runOps Try.prog E b q73_23 (ops [true, false, true, false, false, true, true, false, false, true, true, false, false, false, false] Try.f73) st) := GE.region_step (id := 5) (GE.reg_of (by kernel_rfl)) (by kernel_rfl)
theorem n73_25s : codeB Try.prog E cx n73_25 st = some (.normal, st) := GE.skip_step (by kernel_rfl)
theorem n73_26s : codeB Try.prog LL ⟨73, 35, b, ro⟩ n73_26 st = normS b ⟨[0, 1, 10, 11], [⟨0, 0, 2, true⟩, ⟨1, 0, 1, true⟩]⟩ (.exit 2) st := GE.exit_step (by kernel_rfl) (by kernel_rfl)
theorem n73_24s : codeB Try.prog E cx n73_24 st = condS (codeB Try.prog E cx n73_25) (codeB Try.prog E cx n73_26) (lk st.σ 19) st := GE.cond_step (c := .tmp 19) (by kernel_rfl)
theorem n73_22s : codeB Try.prog E cx n73_22 st = thenS (codeB Try.prog E cx n73_23 st) (codeB Try.prog E cx n73_24) := GE.seq_step (by kernel_rfl)
theorem n73_30s : codeB Try.prog E ⟨f, 35, b, ro⟩ n73_30 st = drawS [0, 0, 0, 6, 14, 0, 0, 96, 224, 511] (runOpsF Try.prog E b q73_30 (ops [true, false, true, false, false, true, true, false, false, true, true, false, false, true, false, false, false] Try.f73) st) := GE.draw_step (id := 7) (GE.reg_of (by kernel_rfl)) (by kernel_rfl) (by kernel_rfl) (by kernel_rfl)
theorem n73_33s : codeB Try.prog E ⟨f, 35, b, ro⟩ n73_33 st = plainS (runOps Try.prog E b q73_33 (ops [true, false, true, false, false, true, true, false, false, true, true, false, false, true, false, false, true, false, false] Try.f73) st) := GE.region_step (id := 8) (GE.reg_of (by kernel_rfl)) (by kernel_rfl)
theorem n73_34s : codeB Try.prog LL ⟨73, 35, b, ro⟩ n73_34 st = normS b ⟨[4, 5, 6], []⟩ .ret st := GE.ret_step (by kernel_rfl) (by kernel_rfl)
theorem n73_32s : codeB Try.prog E cx n73_32 st = thenS (codeB Try.prog E cx n73_33 st) (codeB Try.prog E cx n73_34) := GE.seq_step (by kernel_rfl)
theorem n73_35s : codeB Try.prog E cx n73_35 st = some (.normal, st) := GE.skip_step (by kernel_rfl)
theorem n73_31s : codeB Try.prog E cx n73_31 st = condS (codeB Try.prog E cx n73_32) (codeB Try.prog E cx n73_35) (lk st.σ 31) st := GE.cond_step (c := .tmp 31) (by kernel_rfl)
theorem n73_29s : codeB Try.prog E cx n73_29 st = thenS (codeB Try.prog E cx n73_30 st) (codeB Try.prog E cx n73_31) := GE.seq_step (by kernel_rfl)
theorem n73_28s : codeB Try.prog E cx n73_28 st = blockS 3 (codeB Try.prog E cx n73_29 st) st := GE.block_step (by kernel_rfl)
theorem n73_36s : codeB Try.prog E ⟨f, 35, b, ro⟩ n73_36 st = plainS (runOps Try.prog E b q73_36 (ops [true, false, true, false, false, true, true, false, false, true, true, false, false, true, true] Try.f73) st) := GE.region_step (id := 6) (GE.reg_of (by kernel_rfl)) (by kernel_rfl)
theorem n73_27s : codeB Try.prog E cx n73_27 st = thenS (codeB Try.prog E cx n73_28 st) (codeB Try.prog E cx n73_36) := GE.seq_step (by kernel_rfl)
theorem n73_21s : codeB Try.prog E cx n73_21 st = thenS (codeB Try.prog E cx n73_22 st) (codeB Try.prog E cx n73_27) := GE.seq_step (by kernel_rfl)
theorem n73_20k : LL.kp (⟨73, 35, b, ro⟩ : Cx).fn (4 * rid n73_21 + 3) = some ⟨[7, 8, 0, 1, 10, 11], [⟨0, 0, 2, true⟩, ⟨1, 0, 1, true⟩]⟩ := by kernel_rfl
theorem n73_20s : codeB Try.prog LL ⟨73, 35, b, ro⟩ n73_20 st = headS b ⟨[7, 8, 0, 1, 10, 11], [⟨0, 0, 2, true⟩, ⟨1, 0, 1, true⟩]⟩ st (lpB Try.prog LL ⟨73, 35, b, ro⟩ n73_20 n73_21) := GE.lpB_step (by kernel_rfl) (n73_20k b ro)
theorem n73_20g : LL.code ⟨73, 35, b, ro⟩ n73_20 st = headS b ⟨[7, 8, 0, 1, 10, 11], [⟨0, 0, 2, true⟩, ⟨1, 0, 1, true⟩]⟩ st (lpB Try.prog LL ⟨73, 35, b, ro⟩ n73_20 n73_21) := GE.lpB_again (by kernel_rfl) (n73_20k b ro)
theorem n73_19s : codeB Try.prog E cx n73_19 st = blockS 2 (codeB Try.prog E cx n73_20 st) st := GE.block_step (by kernel_rfl)
theorem n73_17s : codeB Try.prog E cx n73_17 st = thenS (codeB Try.prog E cx n73_18 st) (codeB Try.prog E cx n73_19) := GE.seq_step (by kernel_rfl)
theorem n73_15s : codeB Try.prog E cx n73_15 st = thenS (codeB Try.prog E cx n73_16 st) (codeB Try.prog E cx n73_17) := GE.seq_step (by kernel_rfl)
theorem n73_14s : codeB Try.prog E cx n73_14 st = blockS 1 (codeB Try.prog E cx n73_15 st) st := GE.block_step (by kernel_rfl)
theorem n73_37s : codeB Try.prog E ⟨f, 35, b, ro⟩ n73_37 st = plainS (runOps Try.prog E b q73_37 (ops [true, false, true, false, false, true, true, true] Try.f73) st) := GE.region_step (id := 9) (GE.reg_of (by kernel_rfl)) (by kernel_rfl)
theorem n73_13s : codeB Try.prog E cx n73_13 st = thenS (codeB Try.prog E cx n73_14 st) (codeB Try.prog E cx n73_37) := GE.seq_step (by kernel_rfl)
theorem n73_9s : codeB Try.prog E cx n73_9 st = thenS (codeB Try.prog E cx n73_10 st) (codeB Try.prog E cx n73_13) := GE.seq_step (by kernel_rfl)
theorem n73_7s : codeB Try.prog E cx n73_7 st = thenS (codeB Try.prog E cx n73_8 st) (codeB Try.prog E cx n73_9) := GE.seq_step (by kernel_rfl)
theorem n73_6k : LL.kp (⟨73, 35, b, ro⟩ : Cx).fn (4 * rid n73_7 + 3) = some ⟨[0, 1, 10, 11], [⟨0, 0, 2, true⟩, ⟨1, 0, 1, true⟩]⟩ := by kernel_rfl
theorem n73_6s : codeB Try.prog LL ⟨73, 35, b, ro⟩ n73_6 st = headS b ⟨[0, 1, 10, 11], [⟨0, 0, 2, true⟩, ⟨1, 0, 1, true⟩]⟩ st (lpB Try.prog LL ⟨73, 35, b, ro⟩ n73_6 n73_7) := GE.lpB_step (by kernel_rfl) (n73_6k b ro)
theorem n73_6g : LL.code ⟨73, 35, b, ro⟩ n73_6 st = headS b ⟨[0, 1, 10, 11], [⟨0, 0, 2, true⟩, ⟨1, 0, 1, true⟩]⟩ st (lpB Try.prog LL ⟨73, 35, b, ro⟩ n73_6 n73_7) := GE.lpB_again (by kernel_rfl) (n73_6k b ro)
theorem n73_5s : codeB Try.prog E cx n73_5 st = blockS 0 (codeB Try.prog E cx n73_6 st) st := GE.block_step (by kernel_rfl)
theorem n73_3s : codeB Try.prog E cx n73_3 st = thenS (codeB Try.prog E cx n73_4 st) (codeB Try.prog E cx n73_5) := GE.seq_step (by kernel_rfl)
theorem n73_39s : codeB Try.prog E ⟨f, 35, b, ro⟩ n73_39 st = plainS (runOps Try.prog E b q73_39 (ops [true, true, false] Try.f73) st) := GE.region_step (id := 10) (GE.reg_of (by kernel_rfl)) (by kernel_rfl)
theorem n73_40s : codeB Try.prog LL ⟨73, 35, b, ro⟩ n73_40 st = normS b ⟨[4, 5, 6], []⟩ .ret st := GE.ret_step (by kernel_rfl) (by kernel_rfl)
theorem n73_38s : codeB Try.prog E cx n73_38 st = thenS (codeB Try.prog E cx n73_39 st) (codeB Try.prog E cx n73_40) := GE.seq_step (by kernel_rfl)
theorem n73_2s : codeB Try.prog E cx n73_2 st = thenS (codeB Try.prog E cx n73_3 st) (codeB Try.prog E cx n73_38) := GE.seq_step (by kernel_rfl)
theorem n73_0s : codeB Try.prog E cx n73_0 st = thenS (codeB Try.prog E cx n73_1 st) (codeB Try.prog E cx n73_2) := GE.seq_step (by kernel_rfl)
noncomputable def n74_0 : Code := bodyOf Try.f74
noncomputable def n74_1 : Code := cl n74_0
noncomputable def q74_1 : List Oper := opsOf n74_1
noncomputable def n74_2 : Code := cr n74_0
noncomputable def n74_3 : Code := cl n74_2
noncomputable def q74_3 : List Oper := opsOf n74_3
noncomputable def n74_4 : Code := cr n74_2
theorem body74 : Try.f74.body = some n74_0 := by kernel_rfl
theorem run74 (E : Ev) (args : List Value) (h : List Blk) (hl : args.length ≤ 9) : runB Try.prog E 74 args h = endS Try.prog [.tmp 4] h.length (codeB Try.prog E ⟨74, 9, h.length, none⟩ n74_0 ⟨enumT 0 args, h, []⟩) := GE.run_step Try.func74 body74 (by kernel_rfl) (by decide) (by kernel_rfl) hl
theorem n74_1s : codeB Try.prog E ⟨f, 9, b, ro⟩ n74_1 st = plainS (runOps Try.prog E b q74_1 (ops [false] Try.f74) st) := GE.region_step (id := 0) (GE.reg_of (by kernel_rfl)) (by kernel_rfl)
theorem n74_3s : codeB Try.prog E ⟨f, 9, b, ro⟩ n74_3 st = plainS (runOps Try.prog E b q74_3 (ops [true, false] Try.f74) st) := GE.region_step (id := 1) (GE.reg_of (by kernel_rfl)) (by kernel_rfl)
theorem n74_4s : codeB Try.prog LL ⟨74, 9, b, ro⟩ n74_4 st = normS b ⟨[4], []⟩ .ret st := GE.ret_step (by kernel_rfl) (by kernel_rfl)
theorem n74_2s : codeB Try.prog E cx n74_2 st = thenS (codeB Try.prog E cx n74_3 st) (codeB Try.prog E cx n74_4) := GE.seq_step (by kernel_rfl)
theorem n74_0s : codeB Try.prog E cx n74_0 st = thenS (codeB Try.prog E cx n74_1 st) (codeB Try.prog E cx n74_2) := GE.seq_step (by kernel_rfl)
noncomputable def n75_0 : Code := bodyOf Try.f75
noncomputable def n75_1 : Code := cl n75_0
noncomputable def q75_1 : List Oper := opsOf n75_1
noncomputable def n75_2 : Code := cr n75_0
noncomputable def n75_3 : Code := cl n75_2
noncomputable def q75_3 : List Oper := opsOf n75_3
noncomputable def n75_4 : Code := cr n75_2
theorem body75 : Try.f75.body = some n75_0 := by kernel_rfl
theorem run75 (E : Ev) (args : List Value) (h : List Blk) (hl : args.length ≤ 14) : runB Try.prog E 75 args h = endS Try.prog [.tmp 2] h.length (codeB Try.prog E ⟨75, 14, h.length, none⟩ n75_0 ⟨enumT 0 args, h, []⟩) := GE.run_step Try.func75 body75 (by kernel_rfl) (by decide) (by kernel_rfl) hl
theorem n75_1s : codeB Try.prog E ⟨f, 14, b, ro⟩ n75_1 st = plainS (runOps Try.prog E b q75_1 (ops [false] Try.f75) st) := GE.region_step (id := 0) (GE.reg_of (by kernel_rfl)) (by kernel_rfl)
theorem q75_3g6 : gd q75_3 6 = some 9 := by kernel_rfl
theorem n75_3s : codeB Try.prog E ⟨f, 14, b, ro⟩ n75_3 st = plainS (runOps Try.prog E b q75_3 (ops [true, false] Try.f75) st) := GE.region_step (id := 1) (GE.reg_of (by kernel_rfl)) (by kernel_rfl)
theorem n75_4s : codeB Try.prog LL ⟨75, 14, b, ro⟩ n75_4 st = normS b ⟨[2], []⟩ .ret st := GE.ret_step (by kernel_rfl) (by kernel_rfl)
theorem n75_2s : codeB Try.prog E cx n75_2 st = thenS (codeB Try.prog E cx n75_3 st) (codeB Try.prog E cx n75_4) := GE.seq_step (by kernel_rfl)
theorem n75_0s : codeB Try.prog E cx n75_0 st = thenS (codeB Try.prog E cx n75_1 st) (codeB Try.prog E cx n75_2) := GE.seq_step (by kernel_rfl)
noncomputable def n76_0 : Code := bodyOf Try.f76
noncomputable def n76_1 : Code := cl n76_0
noncomputable def q76_1 : List Oper := opsOf n76_1
noncomputable def n76_2 : Code := cr n76_0
noncomputable def n76_3 : Code := cl n76_2
noncomputable def q76_3 : List Oper := opsOf n76_3
noncomputable def n76_4 : Code := cr n76_2
noncomputable def n76_5 : Code := cl n76_4
noncomputable def n76_6 : Code := cl n76_5
noncomputable def q76_6 : List Oper := opsOf n76_6
noncomputable def n76_7 : Code := cr n76_5
noncomputable def n76_8 : Code := cl n76_7
noncomputable def n76_9 : Code := cl n76_8
noncomputable def q76_9 : List Oper := opsOf n76_9
noncomputable def n76_10 : Code := cr n76_8
noncomputable def n76_11 : Code := cr n76_7
noncomputable def n76_12 : Code := cr n76_4
noncomputable def n76_13 : Code := cl n76_12
noncomputable def n76_14 : Code := cl n76_13
noncomputable def q76_14 : List Oper := opsOf n76_14
noncomputable def n76_15 : Code := cr n76_13
noncomputable def n76_16 : Code := cl n76_15
noncomputable def n76_17 : Code := cl n76_16
noncomputable def q76_17 : List Oper := opsOf n76_17
noncomputable def n76_18 : Code := cr n76_16
noncomputable def n76_19 : Code := cr n76_15
noncomputable def n76_20 : Code := cr n76_12
noncomputable def n76_21 : Code := cl n76_20
noncomputable def n76_22 : Code := cl n76_21
noncomputable def q76_22 : List Oper := opsOf n76_22
noncomputable def n76_23 : Code := cr n76_21
noncomputable def n76_24 : Code := cl n76_23
noncomputable def n76_25 : Code := cl n76_24
noncomputable def n76_26 : Code := cl n76_25
noncomputable def n76_27 : Code := cl n76_26
noncomputable def q76_27 : List Oper := opsOf n76_27
noncomputable def n76_28 : Code := cr n76_26
noncomputable def n76_29 : Code := cl n76_28
noncomputable def n76_30 : Code := cr n76_28
noncomputable def n76_31 : Code := cr n76_25
noncomputable def n76_32 : Code := cl n76_31
noncomputable def n76_33 : Code := cl n76_32
noncomputable def n76_34 : Code := cl n76_33
noncomputable def n76_35 : Code := cl n76_34
noncomputable def q76_35 : List Oper := opsOf n76_35
noncomputable def n76_36 : Code := cr n76_34
noncomputable def n76_37 : Code := cl n76_36
noncomputable def n76_38 : Code := cl n76_37
noncomputable def q76_38 : List Oper := opsOf n76_38
noncomputable def n76_39 : Code := cr n76_37
noncomputable def n76_40 : Code := cr n76_36
noncomputable def n76_41 : Code := cr n76_33
noncomputable def n76_42 : Code := cl n76_41
noncomputable def q76_42 : List Oper := opsOf n76_42
noncomputable def n76_43 : Code := cr n76_41
noncomputable def n76_44 : Code := cl n76_43
noncomputable def n76_45 : Code := cl n76_44
noncomputable def n76_46 : Code := cl n76_45
noncomputable def n76_47 : Code := cl n76_46
noncomputable def q76_47 : List Oper := opsOf n76_47
noncomputable def n76_48 : Code := cr n76_46
noncomputable def n76_49 : Code := cl n76_48
noncomputable def n76_50 : Code := cr n76_48
noncomputable def n76_51 : Code := cr n76_45
noncomputable def n76_52 : Code := cl n76_51
noncomputable def n76_53 : Code := cl n76_52
noncomputable def n76_54 : Code := cl n76_53
noncomputable def q76_54 : List Oper := opsOf n76_54
noncomputable def n76_55 : Code := cr n76_53
noncomputable def n76_56 : Code := cl n76_55
noncomputable def n76_57 : Code := cl n76_56
noncomputable def q76_57 : List Oper := opsOf n76_57
noncomputable def n76_58 : Code := cr n76_56
noncomputable def n76_59 : Code := cr n76_55
noncomputable def n76_60 : Code := cr n76_51
noncomputable def q76_60 : List Oper := opsOf n76_60
noncomputable def n76_61 : Code := cr n76_31
noncomputable def q76_61 : List Oper := opsOf n76_61
noncomputable def n76_62 : Code := cr n76_20
noncomputable def n76_63 : Code := cl n76_62
noncomputable def q76_63 : List Oper := opsOf n76_63
noncomputable def n76_64 : Code := cr n76_62
theorem body76 : Try.f76.body = some n76_0 := by kernel_rfl
theorem run76 (E : Ev) (args : List Value) (h : List Blk) (hl : args.length ≤ 47) : runB Try.prog E 76 args h = endS Try.prog [.tmp 4] h.length (codeB Try.prog E ⟨76, 47, h.length, none⟩ n76_0 ⟨enumT 0 args, h, []⟩) := GE.run_step Try.func76 body76 (by kernel_rfl) (by decide) (by kernel_rfl) hl
theorem n76_1s : codeB Try.prog E ⟨f, 47, b, ro⟩ n76_1 st = plainS (runOps Try.prog E b q76_1 (ops [false] Try.f76) st) := GE.region_step (id := 0) (GE.reg_of (by kernel_rfl)) (by kernel_rfl)
theorem n76_3s : codeB Try.prog E ⟨f, 47, b, ro⟩ n76_3 st = plainS (runOps Try.prog E b q76_3 (ops [true, false] Try.f76) st) := GE.region_step (id := 1) (GE.reg_of (by kernel_rfl)) (by kernel_rfl)
theorem n76_6s : codeB Try.prog E ⟨f, 47, b, ro⟩ n76_6 st = plainS (runOps Try.prog E b q76_6 (ops [true, true, false, false] Try.f76) st) := GE.region_step (id := 2) (GE.reg_of (by kernel_rfl)) (by kernel_rfl)
theorem n76_9s : codeB Try.prog E ⟨f, 47, b, ro⟩ n76_9 st = plainS (runOps Try.prog E b q76_9 (ops [true, true, false, true, false, false] Try.f76) st) := GE.region_step (id := 3) (GE.reg_of (by kernel_rfl)) (by kernel_rfl)
theorem n76_10s : codeB Try.prog LL ⟨76, 47, b, ro⟩ n76_10 st = normS b ⟨[4], []⟩ .ret st := GE.ret_step (by kernel_rfl) (by kernel_rfl)
theorem n76_8s : codeB Try.prog E cx n76_8 st = thenS (codeB Try.prog E cx n76_9 st) (codeB Try.prog E cx n76_10) := GE.seq_step (by kernel_rfl)
theorem n76_11s : codeB Try.prog E cx n76_11 st = some (.normal, st) := GE.skip_step (by kernel_rfl)
theorem n76_7s : codeB Try.prog E cx n76_7 st = condS (codeB Try.prog E cx n76_8) (codeB Try.prog E cx n76_11) (lk st.σ 11) st := GE.cond_step (c := .tmp 11) (by kernel_rfl)
theorem n76_5s : codeB Try.prog E cx n76_5 st = thenS (codeB Try.prog E cx n76_6 st) (codeB Try.prog E cx n76_7) := GE.seq_step (by kernel_rfl)
theorem n76_14s : codeB Try.prog E ⟨f, 47, b, ro⟩ n76_14 st = plainS (runOps Try.prog E b q76_14 (ops [true, true, true, false, false] Try.f76) st) := GE.region_step (id := 4) (GE.reg_of (by kernel_rfl)) (by kernel_rfl)
theorem n76_17s : codeB Try.prog E ⟨f, 47, b, ro⟩ n76_17 st = plainS (runOps Try.prog E b q76_17 (ops [true, true, true, false, true, false, false] Try.f76) st) := GE.region_step (id := 5) (GE.reg_of (by kernel_rfl)) (by kernel_rfl)
theorem n76_18s : codeB Try.prog LL ⟨76, 47, b, ro⟩ n76_18 st = normS b ⟨[4], []⟩ .ret st := GE.ret_step (by kernel_rfl) (by kernel_rfl)
theorem n76_16s : codeB Try.prog E cx n76_16 st = thenS (codeB Try.prog E cx n76_17 st) (codeB Try.prog E cx n76_18) := GE.seq_step (by kernel_rfl)
theorem n76_19s : codeB Try.prog E cx n76_19 st = some (.normal, st) := GE.skip_step (by kernel_rfl)
theorem n76_15s : codeB Try.prog E cx n76_15 st = condS (codeB Try.prog E cx n76_16) (codeB Try.prog E cx n76_19) (lk st.σ 17) st := GE.cond_step (c := .tmp 17) (by kernel_rfl)
theorem n76_13s : codeB Try.prog E cx n76_13 st = thenS (codeB Try.prog E cx n76_14 st) (codeB Try.prog E cx n76_15) := GE.seq_step (by kernel_rfl)
theorem n76_22s : codeB Try.prog E ⟨f, 47, b, ro⟩ n76_22 st = plainS (runOps Try.prog E b q76_22 (ops [true, true, true, true, false, false] Try.f76) st) := GE.region_step (id := 6) (GE.reg_of (by kernel_rfl)) (by kernel_rfl)
theorem n76_27s : codeB Try.prog E ⟨f, 47, b, ro⟩ n76_27 st = plainS (runOps Try.prog E b q76_27 (ops [true, true, true, true, false, true, false, false, false, false] Try.f76) st) := GE.region_step (id := 7) (GE.reg_of (by kernel_rfl)) (by kernel_rfl)
theorem n76_29s : codeB Try.prog E cx n76_29 st = some (.normal, st) := GE.skip_step (by kernel_rfl)
theorem n76_30s : codeB Try.prog LL ⟨76, 47, b, ro⟩ n76_30 st = normS b ⟨[], []⟩ (.exit 0) st := GE.exit_step (by kernel_rfl) (by kernel_rfl)
theorem n76_28s : codeB Try.prog E cx n76_28 st = condS (codeB Try.prog E cx n76_29) (codeB Try.prog E cx n76_30) (lk st.σ 21) st := GE.cond_step (c := .tmp 21) (by kernel_rfl)
theorem n76_26s : codeB Try.prog E cx n76_26 st = thenS (codeB Try.prog E cx n76_27 st) (codeB Try.prog E cx n76_28) := GE.seq_step (by kernel_rfl)
theorem n76_35s : codeB Try.prog E ⟨f, 47, b, ro⟩ n76_35 st = plainS (runOps Try.prog E b q76_35 (ops [true, true, true, true, false, true, false, false, true, false, false, false, false] Try.f76) st) := GE.region_step (id := 9) (GE.reg_of (by kernel_rfl)) (by kernel_rfl)
theorem n76_38s : codeB Try.prog E ⟨f, 47, b, ro⟩ n76_38 st = plainS (runOps Try.prog E b q76_38 (ops [true, true, true, true, false, true, false, false, true, false, false, false, true, false, false] Try.f76) st) := GE.region_step (id := 10) (GE.reg_of (by kernel_rfl)) (by kernel_rfl)
theorem n76_39s : codeB Try.prog LL ⟨76, 47, b, ro⟩ n76_39 st = normS b ⟨[4], []⟩ .ret st := GE.ret_step (by kernel_rfl) (by kernel_rfl)
theorem n76_37s : codeB Try.prog E cx n76_37 st = thenS (codeB Try.prog E cx n76_38 st) (codeB Try.prog E cx n76_39) := GE.seq_step (by kernel_rfl)
theorem n76_40s : codeB Try.prog E cx n76_40 st = some (.normal, st) := GE.skip_step (by kernel_rfl)
theorem n76_36s : codeB Try.prog E cx n76_36 st = condS (codeB Try.prog E cx n76_37) (codeB Try.prog E cx n76_40) (lk st.σ 32) st := GE.cond_step (c := .tmp 32) (by kernel_rfl)
theorem n76_34s : codeB Try.prog E cx n76_34 st = thenS (codeB Try.prog E cx n76_35 st) (codeB Try.prog E cx n76_36) := GE.seq_step (by kernel_rfl)
theorem n76_42s : codeB Try.prog E ⟨f, 47, b, ro⟩ n76_42 st = plainS (runOps Try.prog E b q76_42 (ops [true, true, true, true, false, true, false, false, true, false, false, true, false] Try.f76) st) := GE.region_step (id := 11) (GE.reg_of (by kernel_rfl)) (by kernel_rfl)
theorem n76_47s : codeB Try.prog E ⟨f, 47, b, ro⟩ n76_47 st = plainS (runOps Try.prog E b q76_47 (ops [true, true, true, true, false, true, false, false, true, false, false, true, true, false, false, false, false] Try.f76) st) := GE.region_step (id := 12) (GE.reg_of (by kernel_rfl)) (by kernel_rfl)
theorem n76_49s : codeB Try.prog E cx n76_49 st = some (.normal, st) := GE.skip_step (by kernel_rfl)
theorem n76_50s : codeB Try.prog LL ⟨76, 47, b, ro⟩ n76_50 st = normS b ⟨[0, 1, 6], [⟨0, 0, 2, true⟩, ⟨1, 0, 1, true⟩]⟩ (.exit 2) st := GE.exit_step (by kernel_rfl) (by kernel_rfl)
theorem n76_48s : codeB Try.prog E cx n76_48 st = condS (codeB Try.prog E cx n76_49) (codeB Try.prog E cx n76_50) (lk st.σ 35) st := GE.cond_step (c := .tmp 35) (by kernel_rfl)
theorem n76_46s : codeB Try.prog E cx n76_46 st = thenS (codeB Try.prog E cx n76_47 st) (codeB Try.prog E cx n76_48) := GE.seq_step (by kernel_rfl)
theorem n76_54s : codeB Try.prog E ⟨f, 47, b, ro⟩ n76_54 st = drawS [0, 0, 3, 7, 0, 0, 48, 112, 255] (runOpsF Try.prog E b q76_54 (ops [true, true, true, true, false, true, false, false, true, false, false, true, true, false, false, true, false, false, false] Try.f76) st) := GE.draw_step (id := 14) (GE.reg_of (by kernel_rfl)) (by kernel_rfl) (by kernel_rfl) (by kernel_rfl)
theorem n76_57s : codeB Try.prog E ⟨f, 47, b, ro⟩ n76_57 st = plainS (runOps Try.prog E b q76_57 (ops [true, true, true, true, false, true, false, false, true, false, false, true, true, false, false, true, false, false, true, false, false] Try.f76) st) := GE.region_step (id := 15) (GE.reg_of (by kernel_rfl)) (by kernel_rfl)
theorem n76_58s : codeB Try.prog LL ⟨76, 47, b, ro⟩ n76_58 st = normS b ⟨[4], []⟩ .ret st := GE.ret_step (by kernel_rfl) (by kernel_rfl)
theorem n76_56s : codeB Try.prog E cx n76_56 st = thenS (codeB Try.prog E cx n76_57 st) (codeB Try.prog E cx n76_58) := GE.seq_step (by kernel_rfl)
theorem n76_59s : codeB Try.prog E cx n76_59 st = some (.normal, st) := GE.skip_step (by kernel_rfl)
theorem n76_55s : codeB Try.prog E cx n76_55 st = condS (codeB Try.prog E cx n76_56) (codeB Try.prog E cx n76_59) (lk st.σ 46) st := GE.cond_step (c := .tmp 46) (by kernel_rfl)
theorem n76_53s : codeB Try.prog E cx n76_53 st = thenS (codeB Try.prog E cx n76_54 st) (codeB Try.prog E cx n76_55) := GE.seq_step (by kernel_rfl)
theorem n76_52s : codeB Try.prog E cx n76_52 st = blockS 3 (codeB Try.prog E cx n76_53 st) st := GE.block_step (by kernel_rfl)
theorem n76_60s : codeB Try.prog E ⟨f, 47, b, ro⟩ n76_60 st = plainS (runOps Try.prog E b q76_60 (ops [true, true, true, true, false, true, false, false, true, false, false, true, true, false, false, true, true] Try.f76) st) := GE.region_step (id := 13) (GE.reg_of (by kernel_rfl)) (by kernel_rfl)
theorem n76_51s : codeB Try.prog E cx n76_51 st = thenS (codeB Try.prog E cx n76_52 st) (codeB Try.prog E cx n76_60) := GE.seq_step (by kernel_rfl)
theorem n76_45s : codeB Try.prog E cx n76_45 st = thenS (codeB Try.prog E cx n76_46 st) (codeB Try.prog E cx n76_51) := GE.seq_step (by kernel_rfl)
theorem n76_44k : LL.kp (⟨76, 47, b, ro⟩ : Cx).fn (4 * rid n76_45 + 3) = some ⟨[7, 0, 1, 6], [⟨0, 0, 2, true⟩, ⟨1, 0, 1, true⟩]⟩ := by kernel_rfl
theorem n76_44s : codeB Try.prog LL ⟨76, 47, b, ro⟩ n76_44 st = headS b ⟨[7, 0, 1, 6], [⟨0, 0, 2, true⟩, ⟨1, 0, 1, true⟩]⟩ st (lpB Try.prog LL ⟨76, 47, b, ro⟩ n76_44 n76_45) := GE.lpB_step (by kernel_rfl) (n76_44k b ro)
theorem n76_44g : LL.code ⟨76, 47, b, ro⟩ n76_44 st = headS b ⟨[7, 0, 1, 6], [⟨0, 0, 2, true⟩, ⟨1, 0, 1, true⟩]⟩ st (lpB Try.prog LL ⟨76, 47, b, ro⟩ n76_44 n76_45) := GE.lpB_again (by kernel_rfl) (n76_44k b ro)
theorem n76_43s : codeB Try.prog E cx n76_43 st = blockS 2 (codeB Try.prog E cx n76_44 st) st := GE.block_step (by kernel_rfl)
theorem n76_41s : codeB Try.prog E cx n76_41 st = thenS (codeB Try.prog E cx n76_42 st) (codeB Try.prog E cx n76_43) := GE.seq_step (by kernel_rfl)
theorem n76_33s : codeB Try.prog E cx n76_33 st = thenS (codeB Try.prog E cx n76_34 st) (codeB Try.prog E cx n76_41) := GE.seq_step (by kernel_rfl)
theorem n76_32s : codeB Try.prog E cx n76_32 st = blockS 1 (codeB Try.prog E cx n76_33 st) st := GE.block_step (by kernel_rfl)
theorem n76_61s : codeB Try.prog E ⟨f, 47, b, ro⟩ n76_61 st = plainS (runOps Try.prog E b q76_61 (ops [true, true, true, true, false, true, false, false, true, true] Try.f76) st) := GE.region_step (id := 8) (GE.reg_of (by kernel_rfl)) (by kernel_rfl)
theorem n76_31s : codeB Try.prog E cx n76_31 st = thenS (codeB Try.prog E cx n76_32 st) (codeB Try.prog E cx n76_61) := GE.seq_step (by kernel_rfl)
theorem n76_25s : codeB Try.prog E cx n76_25 st = thenS (codeB Try.prog E cx n76_26 st) (codeB Try.prog E cx n76_31) := GE.seq_step (by kernel_rfl)
theorem n76_24k : LL.kp (⟨76, 47, b, ro⟩ : Cx).fn (4 * rid n76_25 + 3) = some ⟨[0, 1, 6], [⟨0, 0, 2, true⟩, ⟨1, 0, 1, true⟩]⟩ := by kernel_rfl
theorem n76_24s : codeB Try.prog LL ⟨76, 47, b, ro⟩ n76_24 st = headS b ⟨[0, 1, 6], [⟨0, 0, 2, true⟩, ⟨1, 0, 1, true⟩]⟩ st (lpB Try.prog LL ⟨76, 47, b, ro⟩ n76_24 n76_25) := GE.lpB_step (by kernel_rfl) (n76_24k b ro)
theorem n76_24g : LL.code ⟨76, 47, b, ro⟩ n76_24 st = headS b ⟨[0, 1, 6], [⟨0, 0, 2, true⟩, ⟨1, 0, 1, true⟩]⟩ st (lpB Try.prog LL ⟨76, 47, b, ro⟩ n76_24 n76_25) := GE.lpB_again (by kernel_rfl) (n76_24k b ro)
theorem n76_23s : codeB Try.prog E cx n76_23 st = blockS 0 (codeB Try.prog E cx n76_24 st) st := GE.block_step (by kernel_rfl)
theorem n76_21s : codeB Try.prog E cx n76_21 st = thenS (codeB Try.prog E cx n76_22 st) (codeB Try.prog E cx n76_23) := GE.seq_step (by kernel_rfl)
theorem n76_63s : codeB Try.prog E ⟨f, 47, b, ro⟩ n76_63 st = plainS (runOps Try.prog E b q76_63 (ops [true, true, true, true, true, false] Try.f76) st) := GE.region_step (id := 16) (GE.reg_of (by kernel_rfl)) (by kernel_rfl)
theorem n76_64s : codeB Try.prog LL ⟨76, 47, b, ro⟩ n76_64 st = normS b ⟨[4], []⟩ .ret st := GE.ret_step (by kernel_rfl) (by kernel_rfl)
theorem n76_62s : codeB Try.prog E cx n76_62 st = thenS (codeB Try.prog E cx n76_63 st) (codeB Try.prog E cx n76_64) := GE.seq_step (by kernel_rfl)
theorem n76_20s : codeB Try.prog E cx n76_20 st = thenS (codeB Try.prog E cx n76_21 st) (codeB Try.prog E cx n76_62) := GE.seq_step (by kernel_rfl)
theorem n76_12s : codeB Try.prog E cx n76_12 st = thenS (codeB Try.prog E cx n76_13 st) (codeB Try.prog E cx n76_20) := GE.seq_step (by kernel_rfl)
theorem n76_4s : codeB Try.prog E cx n76_4 st = thenS (codeB Try.prog E cx n76_5 st) (codeB Try.prog E cx n76_12) := GE.seq_step (by kernel_rfl)
theorem n76_2s : codeB Try.prog E cx n76_2 st = thenS (codeB Try.prog E cx n76_3 st) (codeB Try.prog E cx n76_4) := GE.seq_step (by kernel_rfl)
theorem n76_0s : codeB Try.prog E cx n76_0 st = thenS (codeB Try.prog E cx n76_1 st) (codeB Try.prog E cx n76_2) := GE.seq_step (by kernel_rfl)
noncomputable def n77_0 : Code := bodyOf Try.f77
noncomputable def n77_1 : Code := cl n77_0
noncomputable def q77_1 : List Oper := opsOf n77_1
noncomputable def n77_2 : Code := cr n77_0
noncomputable def n77_3 : Code := cl n77_2
noncomputable def q77_3 : List Oper := opsOf n77_3
noncomputable def n77_4 : Code := cr n77_2
theorem body77 : Try.f77.body = some n77_0 := by kernel_rfl
theorem run77 (E : Ev) (args : List Value) (h : List Blk) (hl : args.length ≤ 18) : runB Try.prog E 77 args h = endS Try.prog [.tmp 6] h.length (codeB Try.prog E ⟨77, 18, h.length, none⟩ n77_0 ⟨enumT 0 args, h, []⟩) := GE.run_step Try.func77 body77 (by kernel_rfl) (by decide) (by kernel_rfl) hl
theorem n77_1s : codeB Try.prog E ⟨f, 18, b, ro⟩ n77_1 st = plainS (runOps Try.prog E b q77_1 (ops [false] Try.f77) st) := GE.region_step (id := 0) (GE.reg_of (by kernel_rfl)) (by kernel_rfl)
theorem n77_3s : codeB Try.prog E ⟨f, 18, b, ro⟩ n77_3 st = drawS [0, 0, 3, 7, 15, 0, 0, 96, 224, 480, 1023, 2047] (runOpsF Try.prog E b q77_3 (ops [true, false] Try.f77) st) := GE.draw_step (id := 1) (GE.reg_of (by kernel_rfl)) (by kernel_rfl) (by kernel_rfl) (by kernel_rfl)
theorem n77_4s : codeB Try.prog LL ⟨77, 18, b, ro⟩ n77_4 st = normS b ⟨[6], []⟩ .ret st := GE.ret_step (by kernel_rfl) (by kernel_rfl)
theorem n77_2s : codeB Try.prog E cx n77_2 st = thenS (codeB Try.prog E cx n77_3 st) (codeB Try.prog E cx n77_4) := GE.seq_step (by kernel_rfl)
theorem n77_0s : codeB Try.prog E cx n77_0 st = thenS (codeB Try.prog E cx n77_1 st) (codeB Try.prog E cx n77_2) := GE.seq_step (by kernel_rfl)
noncomputable def n78_0 : Code := bodyOf Try.f78
noncomputable def n78_1 : Code := cl n78_0
noncomputable def q78_1 : List Oper := opsOf n78_1
noncomputable def n78_2 : Code := cr n78_0
noncomputable def n78_3 : Code := cl n78_2
noncomputable def q78_3 : List Oper := opsOf n78_3
noncomputable def n78_4 : Code := cr n78_2
theorem body78 : Try.f78.body = some n78_0 := by kernel_rfl
theorem run78 (E : Ev) (args : List Value) (h : List Blk) (hl : args.length ≤ 5) : runB Try.prog E 78 args h = endS Try.prog [.tmp 4] h.length (codeB Try.prog E ⟨78, 5, h.length, none⟩ n78_0 ⟨enumT 0 args, h, []⟩) := GE.run_step Try.func78 body78 (by kernel_rfl) (by decide) (by kernel_rfl) hl
theorem n78_1s : codeB Try.prog E ⟨f, 5, b, ro⟩ n78_1 st = plainS (runOps Try.prog E b q78_1 (ops [false] Try.f78) st) := GE.region_step (id := 0) (GE.reg_of (by kernel_rfl)) (by kernel_rfl)
theorem n78_3s : codeB Try.prog E ⟨f, 5, b, ro⟩ n78_3 st = plainS (runOps Try.prog E b q78_3 (ops [true, false] Try.f78) st) := GE.region_step (id := 1) (GE.reg_of (by kernel_rfl)) (by kernel_rfl)
theorem n78_4s : codeB Try.prog LL ⟨78, 5, b, ro⟩ n78_4 st = normS b ⟨[4], []⟩ .ret st := GE.ret_step (by kernel_rfl) (by kernel_rfl)
theorem n78_2s : codeB Try.prog E cx n78_2 st = thenS (codeB Try.prog E cx n78_3 st) (codeB Try.prog E cx n78_4) := GE.seq_step (by kernel_rfl)
theorem n78_0s : codeB Try.prog E cx n78_0 st = thenS (codeB Try.prog E cx n78_1 st) (codeB Try.prog E cx n78_2) := GE.seq_step (by kernel_rfl)
noncomputable def n80_0 : Code := bodyOf Try.f80
noncomputable def n80_1 : Code := cl n80_0
noncomputable def q80_1 : List Oper := opsOf n80_1
noncomputable def n80_2 : Code := cr n80_0
noncomputable def n80_3 : Code := cl n80_2
noncomputable def q80_3 : List Oper := opsOf n80_3
noncomputable def n80_4 : Code := cr n80_2
noncomputable def n80_5 : Code := cl n80_4
noncomputable def n80_6 : Code := cl n80_5
noncomputable def q80_6 : List Oper := opsOf n80_6
noncomputable def n80_7 : Code := cr n80_5
noncomputable def n80_8 : Code := cl n80_7
noncomputable def n80_9 : Code := cl n80_8
noncomputable def n80_10 : Code := cl n80_9
noncomputable def q80_10 : List Oper := opsOf n80_10
noncomputable def n80_11 : Code := cr n80_9
noncomputable def n80_12 : Code := cl n80_11
noncomputable def n80_13 : Code := cl n80_12
noncomputable def n80_14 : Code := cr n80_12
noncomputable def n80_15 : Code := cr n80_11
noncomputable def n80_16 : Code := cl n80_15
noncomputable def n80_17 : Code := cl n80_16
noncomputable def n80_18 : Code := cl n80_17
noncomputable def q80_18 : List Oper := opsOf n80_18
noncomputable def n80_19 : Code := cr n80_17
noncomputable def n80_20 : Code := cl n80_19
noncomputable def q80_20 : List Oper := opsOf n80_20
noncomputable def n80_21 : Code := cr n80_19
noncomputable def n80_22 : Code := cl n80_21
noncomputable def q80_22 : List Oper := opsOf n80_22
noncomputable def n80_23 : Code := cr n80_21
noncomputable def n80_24 : Code := cr n80_15
noncomputable def q80_24 : List Oper := opsOf n80_24
noncomputable def n80_25 : Code := cr n80_4
noncomputable def n80_26 : Code := cl n80_25
noncomputable def q80_26 : List Oper := opsOf n80_26
noncomputable def n80_27 : Code := cr n80_25
theorem body80 : Try.f80.body = some n80_0 := by kernel_rfl
theorem run80 (E : Ev) (args : List Value) (h : List Blk) (hl : args.length ≤ 35) : runB Try.prog E 80 args h = endS Try.prog [.tmp 5] h.length (codeB Try.prog E ⟨80, 35, h.length, none⟩ n80_0 ⟨enumT 0 args, h, []⟩) := GE.run_step Try.func80 body80 (by kernel_rfl) (by decide) (by kernel_rfl) hl
theorem n80_1s : codeB Try.prog E ⟨f, 35, b, ro⟩ n80_1 st = plainS (runOps Try.prog E b q80_1 (ops [false] Try.f80) st) := GE.region_step (id := 0) (GE.reg_of (by kernel_rfl)) (by kernel_rfl)
theorem n80_3s : codeB Try.prog E ⟨f, 35, b, ro⟩ n80_3 st = plainS (runOps Try.prog E b q80_3 (ops [true, false] Try.f80) st) := GE.region_step (id := 1) (GE.reg_of (by kernel_rfl)) (by kernel_rfl)
theorem n80_6s : codeB Try.prog E ⟨f, 35, b, ro⟩ n80_6 st = plainS (runOps Try.prog E b q80_6 (ops [true, true, false, false] Try.f80) st) := GE.region_step (id := 2) (GE.reg_of (by kernel_rfl)) (by kernel_rfl)
theorem n80_10s : codeB Try.prog E ⟨f, 35, b, ro⟩ n80_10 st = plainS (runOps Try.prog E b q80_10 (ops [true, true, false, true, false, false, false] Try.f80) st) := GE.region_step (id := 3) (GE.reg_of (by kernel_rfl)) (by kernel_rfl)
theorem n80_13s : codeB Try.prog E cx n80_13 st = some (.normal, st) := GE.skip_step (by kernel_rfl)
theorem n80_14s : codeB Try.prog LL ⟨80, 35, b, ro⟩ n80_14 st = normS b ⟨[6], []⟩ (.exit 0) st := GE.exit_step (by kernel_rfl) (by kernel_rfl)
theorem n80_12s : codeB Try.prog E cx n80_12 st = condS (codeB Try.prog E cx n80_13) (codeB Try.prog E cx n80_14) (lk st.σ 11) st := GE.cond_step (c := .tmp 11) (by kernel_rfl)
theorem n80_18s : codeB Try.prog E ⟨f, 35, b, ro⟩ n80_18 st = plainS (runOps Try.prog E b q80_18 (ops [true, true, false, true, false, false, true, true, false, false, false] Try.f80) st) := GE.region_step (id := 4) (GE.reg_of (by kernel_rfl)) (by kernel_rfl)
theorem q80_20g4 : gd q80_20 4 = some 17 := by kernel_rfl
theorem n80_20s : codeB Try.prog E ⟨f, 35, b, ro⟩ n80_20 st = plainS (runOps Try.prog E b q80_20 (ops [true, true, false, true, false, false, true, true, false, false, true, false] Try.f80) st) := GE.region_step (id := 5) (GE.reg_of (by kernel_rfl)) (by kernel_rfl)
theorem n80_22s : codeB Try.prog E ⟨f, 35, b, ro⟩ n80_22 st = drawS [0, 0, 2, 6, 14, 0, 0, 96, 254, 511, 1023] (runOpsF Try.prog E b q80_22 (ops [true, true, false, true, false, false, true, true, false, false, true, true, false] Try.f80) st) := GE.draw_step (id := 6) (GE.reg_of (by kernel_rfl)) (by kernel_rfl) (by kernel_rfl) (by kernel_rfl)
theorem n80_23s : codeB Try.prog E cx n80_23 st = some (.normal, st) := GE.skip_step (by kernel_rfl)
theorem n80_21s : codeB Try.prog E cx n80_21 st = condS (codeB Try.prog E cx n80_22) (codeB Try.prog E cx n80_23) (lk st.σ 22) st := GE.cond_step (c := .tmp 22) (by kernel_rfl)
theorem n80_19s : codeB Try.prog E cx n80_19 st = thenS (codeB Try.prog E cx n80_20 st) (codeB Try.prog E cx n80_21) := GE.seq_step (by kernel_rfl)
theorem n80_17s : codeB Try.prog E cx n80_17 st = thenS (codeB Try.prog E cx n80_18 st) (codeB Try.prog E cx n80_19) := GE.seq_step (by kernel_rfl)
theorem n80_16s : codeB Try.prog E cx n80_16 st = blockS 1 (codeB Try.prog E cx n80_17 st) st := GE.block_step (by kernel_rfl)
theorem n80_24s : codeB Try.prog E ⟨f, 35, b, ro⟩ n80_24 st = plainS (runOps Try.prog E b q80_24 (ops [true, true, false, true, false, false, true, true, true] Try.f80) st) := GE.region_step (id := 7) (GE.reg_of (by kernel_rfl)) (by kernel_rfl)
theorem n80_15s : codeB Try.prog E cx n80_15 st = thenS (codeB Try.prog E cx n80_16 st) (codeB Try.prog E cx n80_24) := GE.seq_step (by kernel_rfl)
theorem n80_11s : codeB Try.prog E cx n80_11 st = thenS (codeB Try.prog E cx n80_12 st) (codeB Try.prog E cx n80_15) := GE.seq_step (by kernel_rfl)
theorem n80_9s : codeB Try.prog E cx n80_9 st = thenS (codeB Try.prog E cx n80_10 st) (codeB Try.prog E cx n80_11) := GE.seq_step (by kernel_rfl)
theorem n80_8k : LL.kp (⟨80, 35, b, ro⟩ : Cx).fn (4 * rid n80_9 + 3) = some ⟨[0, 1, 2, 3, 6, 9, 10], []⟩ := by kernel_rfl
theorem n80_8s : codeB Try.prog LL ⟨80, 35, b, ro⟩ n80_8 st = headS b ⟨[0, 1, 2, 3, 6, 9, 10], []⟩ st (lpB Try.prog LL ⟨80, 35, b, ro⟩ n80_8 n80_9) := GE.lpB_step (by kernel_rfl) (n80_8k b ro)
theorem n80_8g : LL.code ⟨80, 35, b, ro⟩ n80_8 st = headS b ⟨[0, 1, 2, 3, 6, 9, 10], []⟩ st (lpB Try.prog LL ⟨80, 35, b, ro⟩ n80_8 n80_9) := GE.lpB_again (by kernel_rfl) (n80_8k b ro)
theorem n80_7s : codeB Try.prog E cx n80_7 st = blockS 0 (codeB Try.prog E cx n80_8 st) st := GE.block_step (by kernel_rfl)
theorem n80_5s : codeB Try.prog E cx n80_5 st = thenS (codeB Try.prog E cx n80_6 st) (codeB Try.prog E cx n80_7) := GE.seq_step (by kernel_rfl)
theorem n80_26s : codeB Try.prog E ⟨f, 35, b, ro⟩ n80_26 st = plainS (runOps Try.prog E b q80_26 (ops [true, true, true, false] Try.f80) st) := GE.region_step (id := 8) (GE.reg_of (by kernel_rfl)) (by kernel_rfl)
theorem n80_27s : codeB Try.prog LL ⟨80, 35, b, ro⟩ n80_27 st = normS b ⟨[5], []⟩ .ret st := GE.ret_step (by kernel_rfl) (by kernel_rfl)
theorem n80_25s : codeB Try.prog E cx n80_25 st = thenS (codeB Try.prog E cx n80_26 st) (codeB Try.prog E cx n80_27) := GE.seq_step (by kernel_rfl)
theorem n80_4s : codeB Try.prog E cx n80_4 st = thenS (codeB Try.prog E cx n80_5 st) (codeB Try.prog E cx n80_25) := GE.seq_step (by kernel_rfl)
theorem n80_2s : codeB Try.prog E cx n80_2 st = thenS (codeB Try.prog E cx n80_3 st) (codeB Try.prog E cx n80_4) := GE.seq_step (by kernel_rfl)
theorem n80_0s : codeB Try.prog E cx n80_0 st = thenS (codeB Try.prog E cx n80_1 st) (codeB Try.prog E cx n80_2) := GE.seq_step (by kernel_rfl)
noncomputable def n82_0 : Code := bodyOf Try.f82
noncomputable def n82_1 : Code := cl n82_0
noncomputable def q82_1 : List Oper := opsOf n82_1
noncomputable def n82_2 : Code := cr n82_0
noncomputable def n82_3 : Code := cl n82_2
noncomputable def n82_4 : Code := cl n82_3
noncomputable def q82_4 : List Oper := opsOf n82_4
noncomputable def n82_5 : Code := cr n82_3
noncomputable def n82_6 : Code := cl n82_5
noncomputable def n82_7 : Code := cl n82_6
noncomputable def n82_8 : Code := cl n82_7
noncomputable def q82_8 : List Oper := opsOf n82_8
noncomputable def n82_9 : Code := cr n82_7
noncomputable def n82_10 : Code := cl n82_9
noncomputable def n82_11 : Code := cl n82_10
noncomputable def n82_12 : Code := cr n82_10
noncomputable def n82_13 : Code := cr n82_9
noncomputable def n82_14 : Code := cl n82_13
noncomputable def n82_15 : Code := cl n82_14
noncomputable def n82_16 : Code := cl n82_15
noncomputable def q82_16 : List Oper := opsOf n82_16
noncomputable def n82_17 : Code := cr n82_15
noncomputable def n82_18 : Code := cl n82_17
noncomputable def q82_18 : List Oper := opsOf n82_18
noncomputable def n82_19 : Code := cr n82_17
noncomputable def n82_20 : Code := cl n82_19
noncomputable def n82_21 : Code := cl n82_20
noncomputable def q82_21 : List Oper := opsOf n82_21
noncomputable def n82_22 : Code := cr n82_20
noncomputable def n82_23 : Code := cr n82_19
noncomputable def n82_24 : Code := cr n82_13
noncomputable def q82_24 : List Oper := opsOf n82_24
noncomputable def n82_25 : Code := cr n82_2
noncomputable def n82_26 : Code := cl n82_25
noncomputable def q82_26 : List Oper := opsOf n82_26
noncomputable def n82_27 : Code := cr n82_25
theorem body82 : Try.f82.body = some n82_0 := by kernel_rfl
theorem run82 (E : Ev) (args : List Value) (h : List Blk) (hl : args.length ≤ 19) : runB Try.prog E 82 args h = endS Try.prog [.tmp 4] h.length (codeB Try.prog E ⟨82, 19, h.length, none⟩ n82_0 ⟨enumT 0 args, h, []⟩) := GE.run_step Try.func82 body82 (by kernel_rfl) (by decide) (by kernel_rfl) hl
theorem n82_1s : codeB Try.prog E ⟨f, 19, b, ro⟩ n82_1 st = plainS (runOps Try.prog E b q82_1 (ops [false] Try.f82) st) := GE.region_step (id := 0) (GE.reg_of (by kernel_rfl)) (by kernel_rfl)
theorem n82_4s : codeB Try.prog E ⟨f, 19, b, ro⟩ n82_4 st = plainS (runOps Try.prog E b q82_4 (ops [true, false, false] Try.f82) st) := GE.region_step (id := 1) (GE.reg_of (by kernel_rfl)) (by kernel_rfl)
theorem n82_8s : codeB Try.prog E ⟨f, 19, b, ro⟩ n82_8 st = plainS (runOps Try.prog E b q82_8 (ops [true, false, true, false, false, false] Try.f82) st) := GE.region_step (id := 2) (GE.reg_of (by kernel_rfl)) (by kernel_rfl)
theorem n82_11s : codeB Try.prog E cx n82_11 st = some (.normal, st) := GE.skip_step (by kernel_rfl)
theorem n82_12s : codeB Try.prog LL ⟨82, 19, b, ro⟩ n82_12 st = normS b ⟨[], []⟩ (.exit 0) st := GE.exit_step (by kernel_rfl) (by kernel_rfl)
theorem n82_10s : codeB Try.prog E cx n82_10 st = condS (codeB Try.prog E cx n82_11) (codeB Try.prog E cx n82_12) (lk st.σ 9) st := GE.cond_step (c := .tmp 9) (by kernel_rfl)
theorem n82_16s : codeB Try.prog E ⟨f, 19, b, ro⟩ n82_16 st = plainS (runOps Try.prog E b q82_16 (ops [true, false, true, false, false, true, true, false, false, false] Try.f82) st) := GE.region_step (id := 3) (GE.reg_of (by kernel_rfl)) (by kernel_rfl)
theorem n82_18s : codeB Try.prog E ⟨f, 19, b, ro⟩ n82_18 st = plainS (runOps Try.prog E b q82_18 (ops [true, false, true, false, false, true, true, false, false, true, false] Try.f82) st) := GE.region_step (id := 4) (GE.reg_of (by kernel_rfl)) (by kernel_rfl)
theorem n82_21s : codeB Try.prog E ⟨f, 19, b, ro⟩ n82_21 st = plainS (runOps Try.prog E b q82_21 (ops [true, false, true, false, false, true, true, false, false, true, true, false, false] Try.f82) st) := GE.region_step (id := 5) (GE.reg_of (by kernel_rfl)) (by kernel_rfl)
theorem n82_22s : codeB Try.prog LL ⟨82, 19, b, ro⟩ n82_22 st = normS b ⟨[4], []⟩ .ret st := GE.ret_step (by kernel_rfl) (by kernel_rfl)
theorem n82_20s : codeB Try.prog E cx n82_20 st = thenS (codeB Try.prog E cx n82_21 st) (codeB Try.prog E cx n82_22) := GE.seq_step (by kernel_rfl)
theorem n82_23s : codeB Try.prog E cx n82_23 st = some (.normal, st) := GE.skip_step (by kernel_rfl)
theorem n82_19s : codeB Try.prog E cx n82_19 st = condS (codeB Try.prog E cx n82_20) (codeB Try.prog E cx n82_23) (lk st.σ 16) st := GE.cond_step (c := .tmp 16) (by kernel_rfl)
theorem n82_17s : codeB Try.prog E cx n82_17 st = thenS (codeB Try.prog E cx n82_18 st) (codeB Try.prog E cx n82_19) := GE.seq_step (by kernel_rfl)
theorem n82_15s : codeB Try.prog E cx n82_15 st = thenS (codeB Try.prog E cx n82_16 st) (codeB Try.prog E cx n82_17) := GE.seq_step (by kernel_rfl)
theorem n82_14s : codeB Try.prog E cx n82_14 st = blockS 1 (codeB Try.prog E cx n82_15 st) st := GE.block_step (by kernel_rfl)
theorem n82_24s : codeB Try.prog E ⟨f, 19, b, ro⟩ n82_24 st = plainS (runOps Try.prog E b q82_24 (ops [true, false, true, false, false, true, true, true] Try.f82) st) := GE.region_step (id := 6) (GE.reg_of (by kernel_rfl)) (by kernel_rfl)
theorem n82_13s : codeB Try.prog E cx n82_13 st = thenS (codeB Try.prog E cx n82_14 st) (codeB Try.prog E cx n82_24) := GE.seq_step (by kernel_rfl)
theorem n82_9s : codeB Try.prog E cx n82_9 st = thenS (codeB Try.prog E cx n82_10 st) (codeB Try.prog E cx n82_13) := GE.seq_step (by kernel_rfl)
theorem n82_7s : codeB Try.prog E cx n82_7 st = thenS (codeB Try.prog E cx n82_8 st) (codeB Try.prog E cx n82_9) := GE.seq_step (by kernel_rfl)
theorem n82_6k : LL.kp (⟨82, 19, b, ro⟩ : Cx).fn (4 * rid n82_7 + 3) = some ⟨[0, 1, 7, 8], [⟨0, 0, 2, true⟩]⟩ := by kernel_rfl
theorem n82_6s : codeB Try.prog LL ⟨82, 19, b, ro⟩ n82_6 st = headS b ⟨[0, 1, 7, 8], [⟨0, 0, 2, true⟩]⟩ st (lpB Try.prog LL ⟨82, 19, b, ro⟩ n82_6 n82_7) := GE.lpB_step (by kernel_rfl) (n82_6k b ro)
theorem n82_6g : LL.code ⟨82, 19, b, ro⟩ n82_6 st = headS b ⟨[0, 1, 7, 8], [⟨0, 0, 2, true⟩]⟩ st (lpB Try.prog LL ⟨82, 19, b, ro⟩ n82_6 n82_7) := GE.lpB_again (by kernel_rfl) (n82_6k b ro)
theorem n82_5s : codeB Try.prog E cx n82_5 st = blockS 0 (codeB Try.prog E cx n82_6 st) st := GE.block_step (by kernel_rfl)
theorem n82_3s : codeB Try.prog E cx n82_3 st = thenS (codeB Try.prog E cx n82_4 st) (codeB Try.prog E cx n82_5) := GE.seq_step (by kernel_rfl)
theorem n82_26s : codeB Try.prog E ⟨f, 19, b, ro⟩ n82_26 st = plainS (runOps Try.prog E b q82_26 (ops [true, true, false] Try.f82) st) := GE.region_step (id := 7) (GE.reg_of (by kernel_rfl)) (by kernel_rfl)
theorem n82_27s : codeB Try.prog LL ⟨82, 19, b, ro⟩ n82_27 st = normS b ⟨[4], []⟩ .ret st := GE.ret_step (by kernel_rfl) (by kernel_rfl)
theorem n82_25s : codeB Try.prog E cx n82_25 st = thenS (codeB Try.prog E cx n82_26 st) (codeB Try.prog E cx n82_27) := GE.seq_step (by kernel_rfl)
theorem n82_2s : codeB Try.prog E cx n82_2 st = thenS (codeB Try.prog E cx n82_3 st) (codeB Try.prog E cx n82_25) := GE.seq_step (by kernel_rfl)
theorem n82_0s : codeB Try.prog E cx n82_0 st = thenS (codeB Try.prog E cx n82_1 st) (codeB Try.prog E cx n82_2) := GE.seq_step (by kernel_rfl)
theorem lk_22 : lenK Try.prog 22 = some .sl := by kernel_rfl
theorem lk_24 : lenK Try.prog 24 = some .sl := by kernel_rfl
theorem es_24 : elemK Try.prog 24 = some (none, 1) := by kernel_rfl
theorem ia_3 : aggK Try.prog 3 = some (false, 1) := by kernel_rfl
theorem fa_90_1 : fieldAt Try.prog 90 1 = some (1, 1) := by kernel_rfl
theorem ia_88 : aggK Try.prog 88 = some (false, 1) := by kernel_rfl
theorem fa_90_0 : fieldAt Try.prog 90 0 = some (0, 1) := by kernel_rfl
theorem ia_78 : aggK Try.prog 78 = some (false, 1) := by kernel_rfl
theorem ze_24 : zeroE Try.prog 24 = some (.int .i64 (0)) := by kernel_rfl
theorem ba_24_1 : baseArr (Value.cells (.int .i64 (0))) (1 * 1) = #[(.int .i64 (0))] := by kernel_rfl
theorem ap_24 : apK Try.prog 24 = some (1, 8) := by kernel_rfl
theorem ni_24 : notInt Try.prog 24 = true := by kernel_rfl
theorem es_22 : elemK Try.prog 22 = some (none, 2) := by kernel_rfl
theorem fa_55_0 : fieldAt Try.prog 55 0 = some (0, 1) := by kernel_rfl
theorem fa_55_1 : fieldAt Try.prog 55 1 = some (1, 1) := by kernel_rfl
theorem lk_78 : lenK Try.prog 78 = some .sl := by kernel_rfl
theorem fa_110_0 : fieldAt Try.prog 110 0 = some (0, 1) := by kernel_rfl
theorem ia_108 : aggK Try.prog 108 = some (false, 1) := by kernel_rfl
theorem fa_110_1 : fieldAt Try.prog 110 1 = some (1, 1) := by kernel_rfl
theorem ia_91 : aggK Try.prog 91 = some (false, 1) := by kernel_rfl
theorem sz_3 : aggSize Try.prog 3 = some 1 := by kernel_rfl
theorem za_90 : zeroA Try.prog 90 = some (.agg #[(.slice none 0 0), (.pointer none), (.pointer none)]) := by kernel_rfl
theorem pl_90 : plK Try.prog 90 = some [(0, 1), (1, 1), (2, 1)] := by kernel_rfl
theorem za_85 : zeroA Try.prog 85 = some (.pointer none) := by kernel_rfl
theorem sz_85 : aggSize Try.prog 85 = some 1 := by kernel_rfl
theorem ia_85 : aggK Try.prog 85 = some (false, 1) := by kernel_rfl
theorem za_110 : zeroA Try.prog 110 = some (.agg #[(.map none), .nilFunc]) := by kernel_rfl
theorem pl_110 : plK Try.prog 110 = some [(0, 1), (1, 1)] := by kernel_rfl
theorem sz_88 : aggSize Try.prog 88 = some 1 := by kernel_rfl
theorem fa_90_2 : fieldAt Try.prog 90 2 = some (2, 1) := by kernel_rfl
theorem es_78 : elemK Try.prog 78 = some (none, 2) := by kernel_rfl
theorem ia_79 : aggK Try.prog 79 = some (false, 1) := by kernel_rfl
theorem ia_55 : aggK Try.prog 55 = some (true, 2) := by kernel_rfl

end Go.Proofs.Ytfccmddkblbeoaa.rk
