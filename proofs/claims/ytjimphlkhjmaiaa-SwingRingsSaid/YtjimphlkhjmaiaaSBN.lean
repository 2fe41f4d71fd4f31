/-
  Names for the nodes of the code of some functions (projections of their bodies), the step of each node, and the facts of types that they use.
-/
import Derived.Test.YtjimphlkhjmaiaaKp
namespace Go.Proofs.Ytjimphlkhjmaiaa.sw
open Go.GE
set_option maxRecDepth 100000
variable (E : Ev) (cx : Cx) (st : St) (f nt b : Nat) (ro : Option Nat)
noncomputable def n5_0 : Code := bodyOf Try.f5
noncomputable def n5_1 : Code := cl n5_0
noncomputable def q5_1 : List Oper := opsOf n5_1
noncomputable def n5_2 : Code := cr n5_0
noncomputable def n5_3 : Code := cl n5_2
noncomputable def q5_3 : List Oper := opsOf n5_3
noncomputable def n5_4 : Code := cr n5_2
noncomputable def n5_5 : Code := cl n5_4
noncomputable def q5_5 : List Oper := opsOf n5_5
noncomputable def n5_6 : Code := cr n5_4
noncomputable def n5_7 : Code := cl n5_6
noncomputable def q5_7 : List Oper := opsOf n5_7
noncomputable def n5_8 : Code := cr n5_6
noncomputable def n5_9 : Code := cl n5_8
noncomputable def q5_9 : List Oper := opsOf n5_9
noncomputable def n5_10 : Code := cr n5_8
noncomputable def n5_11 : Code := cl n5_10
noncomputable def q5_11 : List Oper := opsOf n5_11
noncomputable def n5_12 : Code := cr n5_10
noncomputable def n5_13 : Code := cl n5_12
noncomputable def q5_13 : List Oper := opsOf n5_13
noncomputable def n5_14 : Code := cr n5_12
noncomputable def n5_15 : Code := cl n5_14
noncomputable def q5_15 : List Oper := opsOf n5_15
noncomputable def n5_16 : Code := cr n5_14
theorem body5 : Try.f5.body = some n5_0 := by kernel_rfl
theorem run5 (E : Ev) (args : List Value) (h : List Blk) (hl : args.length ≤ 76) : runB Try.prog E 5 args h = endS Try.prog [.tmp 2] h.length (codeB Try.prog E ⟨5, 76, h.length, none⟩ n5_0 ⟨enumT 0 args, h, []⟩) := GE.run_step Try.func5 body5 (by kernel_rfl) (by decide) (by kernel_rfl) hl
theorem n5_1s : codeB Try.prog E ⟨f, 76, b, ro⟩ n5_1 st = plainS (runOps Try.prog E b q5_1 (ops [false] Try.f5) st) := GE.region_step (id := 0) (GE.reg_of (by kernel_rfl)) (by kernel_rfl)
theorem n5_3s : codeB Try.prog E ⟨f, 76, b, ro⟩ n5_3 st = plainS (runOps Try.prog E b q5_3 (ops [true, false] Try.f5) st) := GE.region_step (id := 1) (GE.reg_of (by kernel_rfl)) (by kernel_rfl)
theorem n5_5s : codeB Try.prog E ⟨f, 76, b, ro⟩ n5_5 st = plainS (runOps Try.prog E b q5_5 (ops [true, true, false] Try.f5) st) := GE.region_step (id := 2) (GE.reg_of (by kernel_rfl)) (by kernel_rfl)
theorem n5_7s : codeB Try.prog E ⟨f, 76, b, ro⟩ n5_7 st = plainS (runOps Try.prog E b q5_7 (ops [true, true, true, false] Try.f5) st) := GE.region_step (id := 3) (GE.reg_of (by kernel_rfl)) (by kernel_rfl)
theorem n5_9s : codeB Try.prog E ⟨f, 76, b, ro⟩ n5_9 st = plainS (runOps Try.prog E b q5_9 (ops [true, true, true, true, false] Try.f5) st) := GE.region_step (id := 4) (GE.reg_of (by kernel_rfl)) (by kernel_rfl)
theorem n5_11s : codeB Try.prog E ⟨f, 76, b, ro⟩ n5_11 st = plainS (runOps Try.prog E b q5_11 (ops [true, true, true, true, true, false] Try.f5) st) := GE.region_step (id := 5) (GE.reg_of (by kernel_rfl)) (by kernel_rfl)
theorem n5_13s : codeB Try.prog E ⟨f, 76, b, ro⟩ n5_13 st = plainS (runOps Try.prog E b q5_13 (ops [true, true, true, true, true, true, false] Try.f5) st) := GE.region_step (id := 6) (GE.reg_of (by kernel_rfl)) (by kernel_rfl)
theorem q5_15g3 : gd q5_15 3 = some 48 := by kernel_rfl
theorem q5_15g8 : gd q5_15 8 = some 53 := by kernel_rfl
theorem q5_15g13 : gd q5_15 13 = some 58 := by kernel_rfl
theorem q5_15g18 : gd q5_15 18 = some 63 := by kernel_rfl
theorem q5_15g23 : gd q5_15 23 = some 68 := by kernel_rfl
theorem q5_15g28 : gd q5_15 28 = some 73 := by kernel_rfl
theorem n5_15s : codeB Try.prog E ⟨f, 76, b, ro⟩ n5_15 st = plainS (runOps Try.prog E b q5_15 (ops [true, true, true, true, true, true, true, false] Try.f5) st) := GE.region_step (id := 7) (GE.reg_of (by kernel_rfl)) (by kernel_rfl)
theorem n5_16s : codeB Try.prog LL ⟨5, 76, b, ro⟩ n5_16 st = normS b ⟨[2], []⟩ .ret st := GE.ret_step (by kernel_rfl) (by kernel_rfl)
theorem n5_14s : codeB Try.prog E cx n5_14 st = thenS (codeB Try.prog E cx n5_15 st) (codeB Try.prog E cx n5_16) := GE.seq_step (by kernel_rfl)
theorem n5_12s : codeB Try.prog E cx n5_12 st = thenS (codeB Try.prog E cx n5_13 st) (codeB Try.prog E cx n5_14) := GE.seq_step (by kernel_rfl)
theorem n5_10s : codeB Try.prog E cx n5_10 st = thenS (codeB Try.prog E cx n5_11 st) (codeB Try.prog E cx n5_12) := GE.seq_step (by kernel_rfl)
theorem n5_8s : codeB Try.prog E cx n5_8 st = thenS (codeB Try.prog E cx n5_9 st) (codeB Try.prog E cx n5_10) := GE.seq_step (by kernel_rfl)
theorem n5_6s : codeB Try.prog E cx n5_6 st = thenS (codeB Try.prog E cx n5_7 st) (codeB Try.prog E cx n5_8) := GE.seq_step (by kernel_rfl)
theorem n5_4s : codeB Try.prog E cx n5_4 st = thenS (codeB Try.prog E cx n5_5 st) (codeB Try.prog E cx n5_6) := GE.seq_step (by kernel_rfl)
theorem n5_2s : codeB Try.prog E cx n5_2 st = thenS (codeB Try.prog E cx n5_3 st) (codeB Try.prog E cx n5_4) := GE.seq_step (by kernel_rfl)
theorem n5_0s : codeB Try.prog E cx n5_0 st = thenS (codeB Try.prog E cx n5_1 st) (codeB Try.prog E cx n5_2) := GE.seq_step (by kernel_rfl)
noncomputable def n21_0 : Code := bodyOf Try.f21
noncomputable def n21_1 : Code := cl n21_0
noncomputable def q21_1 : List Oper := opsOf n21_1
noncomputable def n21_2 : Code := cr n21_0
noncomputable def n21_3 : Code := cl n21_2
noncomputable def n21_4 : Code := cl n21_3
noncomputable def q21_4 : List Oper := opsOf n21_4
noncomputable def n21_5 : Code := cr n21_3
noncomputable def n21_6 : Code := cl n21_5
noncomputable def n21_7 : Code := cl n21_6
noncomputable def q21_7 : List Oper := opsOf n21_7
noncomputable def n21_8 : Code := cr n21_6
noncomputable def n21_9 : Code := cr n21_5
noncomputable def n21_10 : Code := cr n21_2
noncomputable def n21_11 : Code := cl n21_10
noncomputable def n21_12 : Code := cl n21_11
noncomputable def q21_12 : List Oper := opsOf n21_12
noncomputable def n21_13 : Code := cr n21_11
noncomputable def n21_14 : Code := cl n21_13
noncomputable def n21_15 : Code := cl n21_14
noncomputable def n21_16 : Code := cl n21_15
noncomputable def n21_17 : Code := cl n21_16
noncomputable def q21_17 : List Oper := opsOf n21_17
noncomputable def n21_18 : Code := cr n21_16
noncomputable def n21_19 : Code := cl n21_18
noncomputable def n21_20 : Code := cr n21_18
noncomputable def n21_21 : Code := cr n21_15
noncomputable def n21_22 : Code := cl n21_21
noncomputable def n21_23 : Code := cl n21_22
noncomputable def n21_24 : Code := cl n21_23
noncomputable def q21_24 : List Oper := opsOf n21_24
noncomputable def n21_25 : Code := cr n21_23
noncomputable def n21_26 : Code := cl n21_25
noncomputable def n21_27 : Code := cl n21_26
noncomputable def q21_27 : List Oper := opsOf n21_27
noncomputable def n21_28 : Code := cr n21_26
noncomputable def n21_29 : Code := cr n21_25
noncomputable def n21_30 : Code := cr n21_21
noncomputable def q21_30 : List Oper := opsOf n21_30
noncomputable def n21_31 : Code := cr n21_10
noncomputable def n21_32 : Code := cl n21_31
noncomputable def q21_32 : List Oper := opsOf n21_32
noncomputable def n21_33 : Code := cr n21_31
theorem body21 : Try.f21.body = some n21_0 := by kernel_rfl
theorem run21 (E : Ev) (args : List Value) (h : List Blk) (hl : args.length ≤ 26) : runB Try.prog E 21 args h = endS Try.prog [.tmp 4] h.length (codeB Try.prog E ⟨21, 26, h.length, none⟩ n21_0 ⟨enumT 0 args, h, []⟩) := GE.run_step Try.func21 body21 (by kernel_rfl) (by decide) (by kernel_rfl) hl
theorem n21_1s : codeB Try.prog E ⟨f, 26, b, ro⟩ n21_1 st = plainS (runOps Try.prog E b q21_1 (ops [false] Try.f21) st) := GE.region_step (id := 0) (GE.reg_of (by kernel_rfl)) (by kernel_rfl)
theorem n21_4s : codeB Try.prog E ⟨f, 26, b, ro⟩ n21_4 st = plainS (runOps Try.prog E b q21_4 (ops [true, false, false] Try.f21) st) := GE.region_step (id := 1) (GE.reg_of (by kernel_rfl)) (by kernel_rfl)
theorem n21_7s : codeB Try.prog E ⟨f, 26, b, ro⟩ n21_7 st = plainS (runOps Try.prog E b q21_7 (ops [true, false, true, false, false] Try.f21) st) := GE.region_step (id := 2) (GE.reg_of (by kernel_rfl)) (by kernel_rfl)
theorem n21_8s : codeB Try.prog LL ⟨21, 26, b, ro⟩ n21_8 st = normS b ⟨[4], []⟩ .ret st := GE.ret_step (by kernel_rfl) (by kernel_rfl)
theorem n21_6s : codeB Try.prog E cx n21_6 st = thenS (codeB Try.prog E cx n21_7 st) (codeB Try.prog E cx n21_8) := GE.seq_step (by kernel_rfl)
theorem n21_9s : codeB Try.prog E cx n21_9 st = some (.normal, st) := GE.skip_step (by kernel_rfl)
theorem n21_5s : codeB Try.prog E cx n21_5 st = condS (codeB Try.prog E cx n21_6) (codeB Try.prog E cx n21_9) (lk st.σ 10) st := GE.cond_step (c := .tmp 10) (by kernel_rfl)
theorem n21_3s : codeB Try.prog E cx n21_3 st = thenS (codeB Try.prog E cx n21_4 st) (codeB Try.prog E cx n21_5) := GE.seq_step (by kernel_rfl)
theorem n21_12s : codeB Try.prog E ⟨f, 26, b, ro⟩ n21_12 st = plainS (runOps Try.prog E b q21_12 (ops [true, true, false, false] Try.f21) st) := GE.region_step (id := 3) (GE.reg_of (by kernel_rfl)) (by kernel_rfl)
theorem n21_17s : codeB Try.prog E ⟨f, 26, b, ro⟩ n21_17 st = plainS (runOps Try.prog E b q21_17 (ops [true, true, false, true, false, false, false, false] Try.f21) st) := GE.region_step (id := 4) (GE.reg_of (by kernel_rfl)) (by kernel_rfl)
theorem n21_19s : codeB Try.prog E cx n21_19 st = some (.normal, st) := GE.skip_step (by kernel_rfl)
theorem n21_20s : codeB Try.prog LL ⟨21, 26, b, ro⟩ n21_20 st = normS b ⟨[], []⟩ (.exit 0) st := GE.exit_step (by kernel_rfl) (by kernel_rfl)
theorem n21_18s : codeB Try.prog E cx n21_18 st = condS (codeB Try.prog E cx n21_19) (codeB Try.prog E cx n21_20) (lk st.σ 14) st := GE.cond_step (c := .tmp 14) (by kernel_rfl)
theorem n21_16s : codeB Try.prog E cx n21_16 st = thenS (codeB Try.prog E cx n21_17 st) (codeB Try.prog E cx n21_18) := GE.seq_step (by kernel_rfl)
theorem n21_24s : codeB Try.prog E ⟨f, 26, b, ro⟩ n21_24 st = drawS [0, 0, 3, 7, 0, 0, 48, 112, 255] (runOpsF Try.prog E b q21_24 (ops [true, true, false, true, false, false, true, false, false, false] Try.f21) st) := GE.draw_step (id := 6) (GE.reg_of (by kernel_rfl)) (by kernel_rfl) (by kernel_rfl) (by kernel_rfl)
theorem n21_27s : codeB Try.prog E ⟨f, 26, b, ro⟩ n21_27 st = plainS (runOps Try.prog E b q21_27 (ops [true, true, false, true, false, false, true, false, false, true, false, false] Try.f21) st) := GE.region_step (id := 7) (GE.reg_of (by kernel_rfl)) (by kernel_rfl)
theorem n21_28s : codeB Try.prog LL ⟨21, 26, b, ro⟩ n21_28 st = normS b ⟨[4], []⟩ .ret st := GE.ret_step (by kernel_rfl) (by kernel_rfl)
theorem n21_26s : codeB Try.prog E cx n21_26 st = thenS (codeB Try.prog E cx n21_27 st) (codeB Try.prog E cx n21_28) := GE.seq_step (by kernel_rfl)
theorem n21_29s : codeB Try.prog E cx n21_29 st = some (.normal, st) := GE.skip_step (by kernel_rfl)
theorem n21_25s : codeB Try.prog E cx n21_25 st = condS (codeB Try.prog E cx n21_26) (codeB Try.prog E cx n21_29) (lk st.σ 25) st := GE.cond_step (c := .tmp 25) (by kernel_rfl)
theorem n21_23s : codeB Try.prog E cx n21_23 st = thenS (codeB Try.prog E cx n21_24 st) (codeB Try.prog E cx n21_25) := GE.seq_step (by kernel_rfl)
theorem n21_22s : codeB Try.prog E cx n21_22 st = blockS 1 (codeB Try.prog E cx n21_23 st) st := GE.block_step (by kernel_rfl)
theorem n21_30s : codeB Try.prog E ⟨f, 26, b, ro⟩ n21_30 st = plainS (runOps Try.prog E b q21_30 (ops [true, true, false, true, false, false, true, true] Try.f21) st) := GE.region_step (id := 5) (GE.reg_of (by kernel_rfl)) (by kernel_rfl)
theorem n21_21s : codeB Try.prog E cx n21_21 st = thenS (codeB Try.prog E cx n21_22 st) (codeB Try.prog E cx n21_30) := GE.seq_step (by kernel_rfl)
theorem n21_15s : codeB Try.prog E cx n21_15 st = thenS (codeB Try.prog E cx n21_16 st) (codeB Try.prog E cx n21_21) := GE.seq_step (by kernel_rfl)
theorem n21_14k : LL.kp (⟨21, 26, b, ro⟩ : Cx).fn (4 * rid n21_15 + 3) = some ⟨[0, 1, 5], [⟨0, 0, 1, true⟩, ⟨1, 0, 1, true⟩]⟩ := by kernel_rfl
theorem n21_14s : codeB Try.prog LL ⟨21, 26, b, ro⟩ n21_14 st = headS b ⟨[0, 1, 5], [⟨0, 0, 1, true⟩, ⟨1, 0, 1, true⟩]⟩ st (lpB Try.prog LL ⟨21, 26, b, ro⟩ n21_14 n21_15) := GE.lpB_step (by kernel_rfl) (n21_14k b ro)
theorem n21_14g : LL.code ⟨21, 26, b, ro⟩ n21_14 st = headS b ⟨[0, 1, 5], [⟨0, 0, 1, true⟩, ⟨1, 0, 1, true⟩]⟩ st (lpB Try.prog LL ⟨21, 26, b, ro⟩ n21_14 n21_15) := GE.lpB_again (by kernel_rfl) (n21_14k b ro)
theorem n21_13s : codeB Try.prog E cx n21_13 st = blockS 0 (codeB Try.prog E cx n21_14 st) st := GE.block_step (by kernel_rfl)
theorem n21_11s : codeB Try.prog E cx n21_11 st = thenS (codeB Try.prog E cx n21_12 st) (codeB Try.prog E cx n21_13) := GE.seq_step (by kernel_rfl)
theorem n21_32s : codeB Try.prog E ⟨f, 26, b, ro⟩ n21_32 st = plainS (runOps Try.prog E b q21_32 (ops [true, true, true, false] Try.f21) st) := GE.region_step (id := 8) (GE.reg_of (by kernel_rfl)) (by kernel_rfl)
theorem n21_33s : codeB Try.prog LL ⟨21, 26, b, ro⟩ n21_33 st = normS b ⟨[4], []⟩ .ret st := GE.ret_step (by kernel_rfl) (by kernel_rfl)
theorem n21_31s : codeB Try.prog E cx n21_31 st = thenS (codeB Try.prog E cx n21_32 st) (codeB Try.prog E cx n21_33) := GE.seq_step (by kernel_rfl)
theorem n21_10s : codeB Try.prog E cx n21_10 st = thenS (codeB Try.prog E cx n21_11 st) (codeB Try.prog E cx n21_31) := GE.seq_step (by kernel_rfl)
theorem n21_2s : codeB Try.prog E cx n21_2 st = thenS (codeB Try.prog E cx n21_3 st) (codeB Try.prog E cx n21_10) := GE.seq_step (by kernel_rfl)
theorem n21_0s : codeB Try.prog E cx n21_0 st = thenS (codeB Try.prog E cx n21_1 st) (codeB Try.prog E cx n21_2) := GE.seq_step (by kernel_rfl)
noncomputable def n27_0 : Code := bodyOf Try.f27
noncomputable def n27_1 : Code := cl n27_0
noncomputable def q27_1 : List Oper := opsOf n27_1
noncomputable def n27_2 : Code := cr n27_0
noncomputable def n27_3 : Code := cl n27_2
noncomputable def n27_4 : Code := cl n27_3
noncomputable def q27_4 : List Oper := opsOf n27_4
noncomputable def n27_5 : Code := cr n27_3
noncomputable def n27_6 : Code := cl n27_5
noncomputable def n27_7 : Code := cl n27_6
noncomputable def q27_7 : List Oper := opsOf n27_7
noncomputable def n27_8 : Code := cr n27_6
noncomputable def n27_9 : Code := cr n27_5
noncomputable def n27_10 : Code := cr n27_2
noncomputable def n27_11 : Code := cl n27_10
noncomputable def q27_11 : List Oper := opsOf n27_11
noncomputable def n27_12 : Code := cr n27_10
noncomputable def n27_13 : Code := cl n27_12
noncomputable def n27_14 : Code := cl n27_13
noncomputable def q27_14 : List Oper := opsOf n27_14
noncomputable def n27_15 : Code := cr n27_13
noncomputable def n27_16 : Code := cl n27_15
noncomputable def n27_17 : Code := cl n27_16
noncomputable def q27_17 : List Oper := opsOf n27_17
noncomputable def n27_18 : Code := cr n27_16
noncomputable def n27_19 : Code := cl n27_18
noncomputable def n27_20 : Code := cl n27_19
noncomputable def q27_20 : List Oper := opsOf n27_20
noncomputable def n27_21 : Code := cr n27_19
noncomputable def n27_22 : Code := cl n27_21
noncomputable def q27_22 : List Oper := opsOf n27_22
noncomputable def n27_23 : Code := cr n27_21
noncomputable def n27_24 : Code := cr n27_12
noncomputable def n27_25 : Code := cl n27_24
noncomputable def q27_25 : List Oper := opsOf n27_25
noncomputable def n27_26 : Code := cr n27_24
theorem body27 : Try.f27.body = some n27_0 := by kernel_rfl
theorem run27 (E : Ev) (args : List Value) (h : List Blk) (hl : args.length ≤ 24) : runB Try.prog E 27 args h = endS Try.prog [.tmp 2, .tmp 3] h.length (codeB Try.prog E ⟨27, 24, h.length, none⟩ n27_0 ⟨enumT 0 args, h, []⟩) := GE.run_step Try.func27 body27 (by kernel_rfl) (by decide) (by kernel_rfl) hl
theorem n27_1s : codeB Try.prog E ⟨f, 24, b, ro⟩ n27_1 st = plainS (runOps Try.prog E b q27_1 (ops [false] Try.f27) st) := GE.region_step (id := 0) (GE.reg_of (by kernel_rfl)) (by kernel_rfl)
theorem q27_4g2 : gd q27_4 2 = some 8 := by kernel_rfl
theorem n27_4s : codeB Try.prog E ⟨f, 24, b, ro⟩ n27_4 st = plainS (runOps Try.prog E b q27_4 (ops [true, false, false] Try.f27) st) := GE.region_step (id := 1) (GE.reg_of (by kernel_rfl)) (by kernel_rfl)
theorem n27_7s : codeB Try.prog E ⟨f, 24, b, ro⟩ n27_7 st = plainS (runOps Try.prog E b q27_7 (ops [true, false, true, false, false] Try.f27) st) := GE.region_step (id := 2) (GE.reg_of (by kernel_rfl)) (by kernel_rfl)
theorem n27_8s : codeB Try.prog LL ⟨27, 24, b, ro⟩ n27_8 st = normS b ⟨[2, 3], [⟨2, 0, 1, true⟩]⟩ .ret st := GE.ret_step (by kernel_rfl) (by kernel_rfl)
theorem n27_6s : codeB Try.prog E cx n27_6 st = thenS (codeB Try.prog E cx n27_7 st) (codeB Try.prog E cx n27_8) := GE.seq_step (by kernel_rfl)
theorem n27_9s : codeB Try.prog E cx n27_9 st = some (.normal, st) := GE.skip_step (by kernel_rfl)
theorem n27_5s : codeB Try.prog E cx n27_5 st = condS (codeB Try.prog E cx n27_6) (codeB Try.prog E cx n27_9) (lk st.σ 11) st := GE.cond_step (c := .tmp 11) (by kernel_rfl)
theorem n27_3s : codeB Try.prog E cx n27_3 st = thenS (codeB Try.prog E cx n27_4 st) (codeB Try.prog E cx n27_5) := GE.seq_step (by kernel_rfl)
theorem n27_11s : codeB Try.prog E ⟨f, 24, b, ro⟩ n27_11 st = plainS (runOps Try.prog E b q27_11 (ops [true, true, false] Try.f27) st) := GE.region_step (id := 3) (GE.reg_of (by kernel_rfl)) (by kernel_rfl)
theorem n27_14s : codeB Try.prog E ⟨f, 24, b, ro⟩ n27_14 st = plainS (runOps Try.prog E b q27_14 (ops [true, true, true, false, false] Try.f27) st) := GE.region_step (id := 4) (GE.reg_of (by kernel_rfl)) (by kernel_rfl)
theorem n27_17s : codeB Try.prog E ⟨f, 24, b, ro⟩ n27_17 st = plainS (runOps Try.prog E b q27_17 (ops [true, true, true, false, true, false, false] Try.f27) st) := GE.region_step (id := 5) (GE.reg_of (by kernel_rfl)) (by kernel_rfl)
theorem n27_20s : codeB Try.prog E ⟨f, 24, b, ro⟩ n27_20 st = plainS (runOps Try.prog E b q27_20 (ops [true, true, true, false, true, false, true, false, false] Try.f27) st) := GE.region_step (id := 6) (GE.reg_of (by kernel_rfl)) (by kernel_rfl)
theorem n27_22s : codeB Try.prog E ⟨f, 24, b, ro⟩ n27_22 st = plainS (runOps Try.prog E b q27_22 (ops [true, true, true, false, true, false, true, false, true, false] Try.f27) st) := GE.region_step (id := 7) (GE.reg_of (by kernel_rfl)) (by kernel_rfl)
theorem n27_23s : codeB Try.prog E cx n27_23 st = some (.normal, st) := GE.skip_step (by kernel_rfl)
theorem n27_21s : codeB Try.prog E cx n27_21 st = condS (codeB Try.prog E cx n27_22) (codeB Try.prog E cx n27_23) (lk st.σ 18) st := GE.cond_step (c := .tmp 18) (by kernel_rfl)
theorem n27_19s : codeB Try.prog E cx n27_19 st = thenS (codeB Try.prog E cx n27_20 st) (codeB Try.prog E cx n27_21) := GE.seq_step (by kernel_rfl)
theorem n27_18s : codeB Try.prog E cx n27_18 st = blockS 1 (codeB Try.prog E cx n27_19 st) st := GE.block_step (by kernel_rfl)
theorem n27_16e : n27_16 = .rangeFunc (.tmp 13) #[14] n27_17 n27_18 := by kernel_rfl
theorem n27_16k : (ue n27_17).1 ++ (ue n27_18).1 = [14, 5, 1, 4] := by kernel_rfl
theorem n27_15s : codeB Try.prog E cx n27_15 st = blockS 0 (codeB Try.prog E cx n27_16 st) st := GE.block_step (by kernel_rfl)
theorem n27_13s : codeB Try.prog E cx n27_13 st = thenS (codeB Try.prog E cx n27_14 st) (codeB Try.prog E cx n27_15) := GE.seq_step (by kernel_rfl)
theorem n27_25s : codeB Try.prog E ⟨f, 24, b, ro⟩ n27_25 st = plainS (runOps Try.prog E b q27_25 (ops [true, true, true, true, false] Try.f27) st) := GE.region_step (id := 8) (GE.reg_of (by kernel_rfl)) (by kernel_rfl)
theorem n27_26s : codeB Try.prog LL ⟨27, 24, b, ro⟩ n27_26 st = normS b ⟨[2, 3], [⟨2, 0, 1, true⟩]⟩ .ret st := GE.ret_step (by kernel_rfl) (by kernel_rfl)
theorem n27_24s : codeB Try.prog E cx n27_24 st = thenS (codeB Try.prog E cx n27_25 st) (codeB Try.prog E cx n27_26) := GE.seq_step (by kernel_rfl)
theorem n27_12s : codeB Try.prog E cx n27_12 st = thenS (codeB Try.prog E cx n27_13 st) (codeB Try.prog E cx n27_24) := GE.seq_step (by kernel_rfl)
theorem n27_10s : codeB Try.prog E cx n27_10 st = thenS (codeB Try.prog E cx n27_11 st) (codeB Try.prog E cx n27_12) := GE.seq_step (by kernel_rfl)
theorem n27_2s : codeB Try.prog E cx n27_2 st = thenS (codeB Try.prog E cx n27_3 st) (codeB Try.prog E cx n27_10) := GE.seq_step (by kernel_rfl)
theorem n27_0s : codeB Try.prog E cx n27_0 st = thenS (codeB Try.prog E cx n27_1 st) (codeB Try.prog E cx n27_2) := GE.seq_step (by kernel_rfl)
noncomputable def n28_0 : Code := bodyOf Try.f28
noncomputable def n28_1 : Code := cl n28_0
noncomputable def q28_1 : List Oper := opsOf n28_1
noncomputable def n28_2 : Code := cr n28_0
noncomputable def n28_3 : Code := cl n28_2
noncomputable def n28_4 : Code := cl n28_3
noncomputable def q28_4 : List Oper := opsOf n28_4
noncomputable def n28_5 : Code := cr n28_3
noncomputable def n28_6 : Code := cl n28_5
noncomputable def n28_7 : Code := cl n28_6
noncomputable def q28_7 : List Oper := opsOf n28_7
noncomputable def n28_8 : Code := cr n28_6
noncomputable def n28_9 : Code := cr n28_5
noncomputable def n28_10 : Code := cr n28_2
noncomputable def n28_11 : Code := cl n28_10
noncomputable def q28_11 : List Oper := opsOf n28_11
noncomputable def n28_12 : Code := cr n28_10
theorem body28 : Try.f28.body = some n28_0 := by kernel_rfl
theorem run28 (E : Ev) (args : List Value) (h : List Blk) (hl : args.length ≤ 9) : runB Try.prog E 28 args h = endS Try.prog [.tmp 2, .tmp 3] h.length (codeB Try.prog E ⟨28, 9, h.length, none⟩ n28_0 ⟨enumT 0 args, h, []⟩) := GE.run_step Try.func28 body28 (by kernel_rfl) (by decide) (by kernel_rfl) hl
theorem n28_1s : codeB Try.prog E ⟨f, 9, b, ro⟩ n28_1 st = plainS (runOps Try.prog E b q28_1 (ops [false] Try.f28) st) := GE.region_step (id := 0) (GE.reg_of (by kernel_rfl)) (by kernel_rfl)
theorem n28_4s : codeB Try.prog E ⟨f, 9, b, ro⟩ n28_4 st = plainS (runOps Try.prog E b q28_4 (ops [true, false, false] Try.f28) st) := GE.region_step (id := 1) (GE.reg_of (by kernel_rfl)) (by kernel_rfl)
theorem n28_7s : codeB Try.prog E ⟨f, 9, b, ro⟩ n28_7 st = plainS (runOps Try.prog E b q28_7 (ops [true, false, true, false, false] Try.f28) st) := GE.region_step (id := 2) (GE.reg_of (by kernel_rfl)) (by kernel_rfl)
theorem n28_8s : codeB Try.prog LL ⟨28, 9, b, ro⟩ n28_8 st = normS b ⟨[2, 3], [⟨2, 0, 1, true⟩]⟩ .ret st := GE.ret_step (by kernel_rfl) (by kernel_rfl)
theorem n28_6s : codeB Try.prog E cx n28_6 st = thenS (codeB Try.prog E cx n28_7 st) (codeB Try.prog E cx n28_8) := GE.seq_step (by kernel_rfl)
theorem n28_9s : codeB Try.prog E cx n28_9 st = some (.normal, st) := GE.skip_step (by kernel_rfl)
theorem n28_5s : codeB Try.prog E cx n28_5 st = condS (codeB Try.prog E cx n28_6) (codeB Try.prog E cx n28_9) (lk st.σ 6) st := GE.cond_step (c := .tmp 6) (by kernel_rfl)
theorem n28_3s : codeB Try.prog E cx n28_3 st = thenS (codeB Try.prog E cx n28_4 st) (codeB Try.prog E cx n28_5) := GE.seq_step (by kernel_rfl)
theorem n28_11s : codeB Try.prog E ⟨f, 9, b, ro⟩ n28_11 st = plainS (runOps Try.prog E b q28_11 (ops [true, true, false] Try.f28) st) := GE.region_step (id := 3) (GE.reg_of (by kernel_rfl)) (by kernel_rfl)
theorem n28_12s : codeB Try.prog LL ⟨28, 9, b, ro⟩ n28_12 st = normS b ⟨[2, 3], [⟨2, 0, 1, true⟩]⟩ .ret st := GE.ret_step (by kernel_rfl) (by kernel_rfl)
theorem n28_10s : codeB Try.prog E cx n28_10 st = thenS (codeB Try.prog E cx n28_11 st) (codeB Try.prog E cx n28_12) := GE.seq_step (by kernel_rfl)
theorem n28_2s : codeB Try.prog E cx n28_2 st = thenS (codeB Try.prog E cx n28_3 st) (codeB Try.prog E cx n28_10) := GE.seq_step (by kernel_rfl)
theorem n28_0s : codeB Try.prog E cx n28_0 st = thenS (codeB Try.prog E cx n28_1 st) (codeB Try.prog E cx n28_2) := GE.seq_step (by kernel_rfl)
noncomputable def n29_0 : Code := bodyOf Try.f29
noncomputable def n29_1 : Code := cl n29_0
noncomputable def q29_1 : List Oper := opsOf n29_1
noncomputable def n29_2 : Code := cr n29_0
noncomputable def n29_3 : Code := cl n29_2
noncomputable def n29_4 : Code := cl n29_3
noncomputable def q29_4 : List Oper := opsOf n29_4
noncomputable def n29_5 : Code := cr n29_3
noncomputable def n29_6 : Code := cl n29_5
noncomputable def n29_7 : Code := cl n29_6
noncomputable def q29_7 : List Oper := opsOf n29_7
noncomputable def n29_8 : Code := cr n29_6
noncomputable def n29_9 : Code := cr n29_5
noncomputable def n29_10 : Code := cr n29_2
noncomputable def n29_11 : Code := cl n29_10
noncomputable def q29_11 : List Oper := opsOf n29_11
noncomputable def n29_12 : Code := cr n29_10
noncomputable def n29_13 : Code := cl n29_12
noncomputable def n29_14 : Code := cl n29_13
noncomputable def q29_14 : List Oper := opsOf n29_14
noncomputable def n29_15 : Code := cr n29_13
noncomputable def n29_16 : Code := cl n29_15
noncomputable def n29_17 : Code := cl n29_16
noncomputable def q29_17 : List Oper := opsOf n29_17
noncomputable def n29_18 : Code := cr n29_16
noncomputable def n29_19 : Code := cl n29_18
noncomputable def n29_20 : Code := cl n29_19
noncomputable def q29_20 : List Oper := opsOf n29_20
noncomputable def n29_21 : Code := cr n29_19
noncomputable def n29_22 : Code := cl n29_21
noncomputable def q29_22 : List Oper := opsOf n29_22
noncomputable def n29_23 : Code := cr n29_21
noncomputable def n29_24 : Code := cr n29_12
noncomputable def n29_25 : Code := cl n29_24
noncomputable def q29_25 : List Oper := opsOf n29_25
noncomputable def n29_26 : Code := cr n29_24
theorem body29 : Try.f29.body = some n29_0 := by kernel_rfl
theorem run29 (E : Ev) (args : List Value) (h : List Blk) (hl : args.length ≤ 23) : runB Try.prog E 29 args h = endS Try.prog [.tmp 2, .tmp 3] h.length (codeB Try.prog E ⟨29, 23, h.length, none⟩ n29_0 ⟨enumT 0 args, h, []⟩) := GE.run_step Try.func29 body29 (by kernel_rfl) (by decide) (by kernel_rfl) hl
theorem n29_1s : codeB Try.prog E ⟨f, 23, b, ro⟩ n29_1 st = plainS (runOps Try.prog E b q29_1 (ops [false] Try.f29) st) := GE.region_step (id := 0) (GE.reg_of (by kernel_rfl)) (by kernel_rfl)
theorem q29_4g2 : gd q29_4 2 = some 8 := by kernel_rfl
theorem n29_4s : codeB Try.prog E ⟨f, 23, b, ro⟩ n29_4 st = plainS (runOps Try.prog E b q29_4 (ops [true, false, false] Try.f29) st) := GE.region_step (id := 1) (GE.reg_of (by kernel_rfl)) (by kernel_rfl)
theorem n29_7s : codeB Try.prog E ⟨f, 23, b, ro⟩ n29_7 st = plainS (runOps Try.prog E b q29_7 (ops [true, false, true, false, false] Try.f29) st) := GE.region_step (id := 2) (GE.reg_of (by kernel_rfl)) (by kernel_rfl)
theorem n29_8s : codeB Try.prog LL ⟨29, 23, b, ro⟩ n29_8 st = normS b ⟨[2, 3], []⟩ .ret st := GE.ret_step (by kernel_rfl) (by kernel_rfl)
theorem n29_6s : codeB Try.prog E cx n29_6 st = thenS (codeB Try.prog E cx n29_7 st) (codeB Try.prog E cx n29_8) := GE.seq_step (by kernel_rfl)
theorem n29_9s : codeB Try.prog E cx n29_9 st = some (.normal, st) := GE.skip_step (by kernel_rfl)
theorem n29_5s : codeB Try.prog E cx n29_5 st = condS (codeB Try.prog E cx n29_6) (codeB Try.prog E cx n29_9) (lk st.σ 11) st := GE.cond_step (c := .tmp 11) (by kernel_rfl)
theorem n29_3s : codeB Try.prog E cx n29_3 st = thenS (codeB Try.prog E cx n29_4 st) (codeB Try.prog E cx n29_5) := GE.seq_step (by kernel_rfl)
theorem n29_11s : codeB Try.prog E ⟨f, 23, b, ro⟩ n29_11 st = plainS (runOps Try.prog E b q29_11 (ops [true, true, false] Try.f29) st) := GE.region_step (id := 3) (GE.reg_of (by kernel_rfl)) (by kernel_rfl)
theorem n29_14s : codeB Try.prog E ⟨f, 23, b, ro⟩ n29_14 st = plainS (runOps Try.prog E b q29_14 (ops [true, true, true, false, false] Try.f29) st) := GE.region_step (id := 4) (GE.reg_of (by kernel_rfl)) (by kernel_rfl)
theorem n29_17s : codeB Try.prog E ⟨f, 23, b, ro⟩ n29_17 st = plainS (runOps Try.prog E b q29_17 (ops [true, true, true, false, true, false, false] Try.f29) st) := GE.region_step (id := 5) (GE.reg_of (by kernel_rfl)) (by kernel_rfl)
theorem n29_20s : codeB Try.prog E ⟨f, 23, b, ro⟩ n29_20 st = plainS (runOps Try.prog E b q29_20 (ops [true, true, true, false, true, false, true, false, false] Try.f29) st) := GE.region_step (id := 6) (GE.reg_of (by kernel_rfl)) (by kernel_rfl)
theorem n29_22s : codeB Try.prog E ⟨f, 23, b, ro⟩ n29_22 st = plainS (runOps Try.prog E b q29_22 (ops [true, true, true, false, true, false, true, false, true, false] Try.f29) st) := GE.region_step (id := 7) (GE.reg_of (by kernel_rfl)) (by kernel_rfl)
theorem n29_23s : codeB Try.prog E cx n29_23 st = some (.normal, st) := GE.skip_step (by kernel_rfl)
theorem n29_21s : codeB Try.prog E cx n29_21 st = condS (codeB Try.prog E cx n29_22) (codeB Try.prog E cx n29_23) (lk st.σ 19) st := GE.cond_step (c := .tmp 19) (by kernel_rfl)
theorem n29_19s : codeB Try.prog E cx n29_19 st = thenS (codeB Try.prog E cx n29_20 st) (codeB Try.prog E cx n29_21) := GE.seq_step (by kernel_rfl)
theorem n29_18s : codeB Try.prog E cx n29_18 st = blockS 1 (codeB Try.prog E cx n29_19 st) st := GE.block_step (by kernel_rfl)
theorem n29_16e : n29_16 = .rangeFunc (.tmp 13) #[14] n29_17 n29_18 := by kernel_rfl
theorem n29_16k : (ue n29_17).1 ++ (ue n29_18).1 = [14, 1, 5, 4] := by kernel_rfl
theorem n29_15s : codeB Try.prog E cx n29_15 st = blockS 0 (codeB Try.prog E cx n29_16 st) st := GE.block_step (by kernel_rfl)
theorem n29_13s : codeB Try.prog E cx n29_13 st = thenS (codeB Try.prog E cx n29_14 st) (codeB Try.prog E cx n29_15) := GE.seq_step (by kernel_rfl)
theorem n29_25s : codeB Try.prog E ⟨f, 23, b, ro⟩ n29_25 st = plainS (runOps Try.prog E b q29_25 (ops [true, true, true, true, false] Try.f29) st) := GE.region_step (id := 8) (GE.reg_of (by kernel_rfl)) (by kernel_rfl)
theorem n29_26s : codeB Try.prog LL ⟨29, 23, b, ro⟩ n29_26 st = normS b ⟨[2, 3], []⟩ .ret st := GE.ret_step (by kernel_rfl) (by kernel_rfl)
theorem n29_24s : codeB Try.prog E cx n29_24 st = thenS (codeB Try.prog E cx n29_25 st) (codeB Try.prog E cx n29_26) := GE.seq_step (by kernel_rfl)
theorem n29_12s : codeB Try.prog E cx n29_12 st = thenS (codeB Try.prog E cx n29_13 st) (codeB Try.prog E cx n29_24) := GE.seq_step (by kernel_rfl)
theorem n29_10s : codeB Try.prog E cx n29_10 st = thenS (codeB Try.prog E cx n29_11 st) (codeB Try.prog E cx n29_12) := GE.seq_step (by kernel_rfl)
theorem n29_2s : codeB Try.prog E cx n29_2 st = thenS (codeB Try.prog E cx n29_3 st) (codeB Try.prog E cx n29_10) := GE.seq_step (by kernel_rfl)
theorem n29_0s : codeB Try.prog E cx n29_0 st = thenS (codeB Try.prog E cx n29_1 st) (codeB Try.prog E cx n29_2) := GE.seq_step (by kernel_rfl)
noncomputable def n30_0 : Code := bodyOf Try.f30
noncomputable def n30_1 : Code := cl n30_0
noncomputable def q30_1 : List Oper := opsOf n30_1
noncomputable def n30_2 : Code := cr n30_0
noncomputable def n30_3 : Code := cl n30_2
noncomputable def n30_4 : Code := cl n30_3
noncomputable def q30_4 : List Oper := opsOf n30_4
noncomputable def n30_5 : Code := cr n30_3
noncomputable def n30_6 : Code := cl n30_5
noncomputable def n30_7 : Code := cl n30_6
noncomputable def q30_7 : List Oper := opsOf n30_7
noncomputable def n30_8 : Code := cr n30_6
noncomputable def n30_9 : Code := cr n30_5
noncomputable def n30_10 : Code := cr n30_2
noncomputable def n30_11 : Code := cl n30_10
noncomputable def q30_11 : List Oper := opsOf n30_11
noncomputable def n30_12 : Code := cr n30_10
noncomputable def n30_13 : Code := cl n30_12
noncomputable def n30_14 : Code := cl n30_13
noncomputable def q30_14 : List Oper := opsOf n30_14
noncomputable def n30_15 : Code := cr n30_13
noncomputable def n30_16 : Code := cl n30_15
noncomputable def n30_17 : Code := cl n30_16
noncomputable def n30_18 : Code := cl n30_17
noncomputable def n30_19 : Code := cl n30_18
noncomputable def q30_19 : List Oper := opsOf n30_19
noncomputable def n30_20 : Code := cr n30_18
noncomputable def n30_21 : Code := cl n30_20
noncomputable def n30_22 : Code := cr n30_20
noncomputable def n30_23 : Code := cr n30_17
noncomputable def n30_24 : Code := cl n30_23
noncomputable def n30_25 : Code := cl n30_24
noncomputable def n30_26 : Code := cl n30_25
noncomputable def q30_26 : List Oper := opsOf n30_26
noncomputable def n30_27 : Code := cr n30_25
noncomputable def n30_28 : Code := cl n30_27
noncomputable def q30_28 : List Oper := opsOf n30_28
noncomputable def n30_29 : Code := cr n30_27
noncomputable def n30_30 : Code := cr n30_23
noncomputable def q30_30 : List Oper := opsOf n30_30
noncomputable def n30_31 : Code := cr n30_12
noncomputable def n30_32 : Code := cl n30_31
noncomputable def n30_33 : Code := cl n30_32
noncomputable def q30_33 : List Oper := opsOf n30_33
noncomputable def n30_34 : Code := cr n30_32
noncomputable def n30_35 : Code := cl n30_34
noncomputable def n30_36 : Code := cl n30_35
noncomputable def n30_37 : Code := cl n30_36
noncomputable def n30_38 : Code := cl n30_37
noncomputable def q30_38 : List Oper := opsOf n30_38
noncomputable def n30_39 : Code := cr n30_37
noncomputable def n30_40 : Code := cl n30_39
noncomputable def n30_41 : Code := cr n30_39
noncomputable def n30_42 : Code := cr n30_36
noncomputable def n30_43 : Code := cl n30_42
noncomputable def n30_44 : Code := cl n30_43
noncomputable def n30_45 : Code := cl n30_44
noncomputable def q30_45 : List Oper := opsOf n30_45
noncomputable def n30_46 : Code := cr n30_44
noncomputable def n30_47 : Code := cl n30_46
noncomputable def n30_48 : Code := cl n30_47
noncomputable def n30_49 : Code := cl n30_48
noncomputable def n30_50 : Code := cl n30_49
noncomputable def q30_50 : List Oper := opsOf n30_50
noncomputable def n30_51 : Code := cr n30_49
noncomputable def n30_52 : Code := cl n30_51
noncomputable def n30_53 : Code := cr n30_51
noncomputable def n30_54 : Code := cr n30_48
noncomputable def n30_55 : Code := cl n30_54
noncomputable def n30_56 : Code := cl n30_55
noncomputable def q30_56 : List Oper := opsOf n30_56
noncomputable def n30_57 : Code := cr n30_54
noncomputable def q30_57 : List Oper := opsOf n30_57
noncomputable def n30_58 : Code := cr n30_42
noncomputable def q30_58 : List Oper := opsOf n30_58
noncomputable def n30_59 : Code := cr n30_31
noncomputable def n30_60 : Code := cl n30_59
noncomputable def q30_60 : List Oper := opsOf n30_60
noncomputable def n30_61 : Code := cr n30_59
noncomputable def n30_62 : Code := cl n30_61
noncomputable def n30_63 : Code := cl n30_62
noncomputable def q30_63 : List Oper := opsOf n30_63
noncomputable def n30_64 : Code := cr n30_62
noncomputable def n30_65 : Code := cl n30_64
noncomputable def n30_66 : Code := cl n30_65
noncomputable def n30_67 : Code := cl n30_66
noncomputable def n30_68 : Code := cl n30_67
noncomputable def q30_68 : List Oper := opsOf n30_68
noncomputable def n30_69 : Code := cr n30_67
noncomputable def n30_70 : Code := cl n30_69
noncomputable def n30_71 : Code := cr n30_69
noncomputable def n30_72 : Code := cr n30_66
noncomputable def n30_73 : Code := cl n30_72
noncomputable def n30_74 : Code := cl n30_73
noncomputable def q30_74 : List Oper := opsOf n30_74
noncomputable def n30_75 : Code := cr n30_72
noncomputable def q30_75 : List Oper := opsOf n30_75
noncomputable def n30_76 : Code := cr n30_61
noncomputable def n30_77 : Code := cl n30_76
noncomputable def q30_77 : List Oper := opsOf n30_77
noncomputable def n30_78 : Code := cr n30_76
theorem body30 : Try.f30.body = some n30_0 := by kernel_rfl
theorem run30 (E : Ev) (args : List Value) (h : List Blk) (hl : args.length ≤ 78) : runB Try.prog E 30 args h = endS Try.prog [.tmp 2, .tmp 3] h.length (codeB Try.prog E ⟨30, 78, h.length, none⟩ n30_0 ⟨enumT 0 args, h, []⟩) := GE.run_step Try.func30 body30 (by kernel_rfl) (by decide) (by kernel_rfl) hl
theorem n30_1s : codeB Try.prog E ⟨f, 78, b, ro⟩ n30_1 st = plainS (runOps Try.prog E b q30_1 (ops [false] Try.f30) st) := GE.region_step (id := 0) (GE.reg_of (by kernel_rfl)) (by kernel_rfl)
theorem n30_4s : codeB Try.prog E ⟨f, 78, b, ro⟩ n30_4 st = plainS (runOps Try.prog E b q30_4 (ops [true, false, false] Try.f30) st) := GE.region_step (id := 1) (GE.reg_of (by kernel_rfl)) (by kernel_rfl)
theorem n30_7s : codeB Try.prog E ⟨f, 78, b, ro⟩ n30_7 st = plainS (runOps Try.prog E b q30_7 (ops [true, false, true, false, false] Try.f30) st) := GE.region_step (id := 2) (GE.reg_of (by kernel_rfl)) (by kernel_rfl)
theorem n30_8s : codeB Try.prog LL ⟨30, 78, b, ro⟩ n30_8 st = normS b ⟨[2, 3], []⟩ .ret st := GE.ret_step (by kernel_rfl) (by kernel_rfl)
theorem n30_6s : codeB Try.prog E cx n30_6 st = thenS (codeB Try.prog E cx n30_7 st) (codeB Try.prog E cx n30_8) := GE.seq_step (by kernel_rfl)
theorem n30_9s : codeB Try.prog E cx n30_9 st = some (.normal, st) := GE.skip_step (by kernel_rfl)
theorem n30_5s : codeB Try.prog E cx n30_5 st = condS (codeB Try.prog E cx n30_6) (codeB Try.prog E cx n30_9) (lk st.σ 12) st := GE.cond_step (c := .tmp 12) (by kernel_rfl)
theorem n30_3s : codeB Try.prog E cx n30_3 st = thenS (codeB Try.prog E cx n30_4 st) (codeB Try.prog E cx n30_5) := GE.seq_step (by kernel_rfl)
theorem n30_11s : codeB Try.prog E ⟨f, 78, b, ro⟩ n30_11 st = plainS (runOps Try.prog E b q30_11 (ops [true, true, false] Try.f30) st) := GE.region_step (id := 3) (GE.reg_of (by kernel_rfl)) (by kernel_rfl)
theorem n30_14s : codeB Try.prog E ⟨f, 78, b, ro⟩ n30_14 st = plainS (runOps Try.prog E b q30_14 (ops [true, true, true, false, false] Try.f30) st) := GE.region_step (id := 4) (GE.reg_of (by kernel_rfl)) (by kernel_rfl)
theorem n30_19s : codeB Try.prog E ⟨f, 78, b, ro⟩ n30_19 st = plainS (runOps Try.prog E b q30_19 (ops [true, true, true, false, true, false, false, false, false] Try.f30) st) := GE.region_step (id := 5) (GE.reg_of (by kernel_rfl)) (by kernel_rfl)
theorem n30_21s : codeB Try.prog E cx n30_21 st = some (.normal, st) := GE.skip_step (by kernel_rfl)
theorem n30_22s : codeB Try.prog LL ⟨30, 78, b, ro⟩ n30_22 st = normS b ⟨[4], [⟨4, 0, 1, true⟩]⟩ (.exit 0) st := GE.exit_step (by kernel_rfl) (by kernel_rfl)
theorem n30_20s : codeB Try.prog E cx n30_20 st = condS (codeB Try.prog E cx n30_21) (codeB Try.prog E cx n30_22) (lk st.σ 15) st := GE.cond_step (c := .tmp 15) (by kernel_rfl)
theorem n30_18s : codeB Try.prog E cx n30_18 st = thenS (codeB Try.prog E cx n30_19 st) (codeB Try.prog E cx n30_20) := GE.seq_step (by kernel_rfl)
theorem n30_26s : codeB Try.prog E ⟨f, 78, b, ro⟩ n30_26 st = plainS (runOps Try.prog E b q30_26 (ops [true, true, true, false, true, false, false, true, false, false, false] Try.f30) st) := GE.region_step (id := 7) (GE.reg_of (by kernel_rfl)) (by kernel_rfl)
theorem n30_28s : codeB Try.prog E ⟨f, 78, b, ro⟩ n30_28 st = plainS (runOps Try.prog E b q30_28 (ops [true, true, true, false, true, false, false, true, false, false, true, false] Try.f30) st) := GE.region_step (id := 8) (GE.reg_of (by kernel_rfl)) (by kernel_rfl)
theorem n30_29s : codeB Try.prog E cx n30_29 st = some (.normal, st) := GE.skip_step (by kernel_rfl)
theorem n30_27s : codeB Try.prog E cx n30_27 st = condS (codeB Try.prog E cx n30_28) (codeB Try.prog E cx n30_29) (lk st.σ 21) st := GE.cond_step (c := .tmp 21) (by kernel_rfl)
theorem n30_25s : codeB Try.prog E cx n30_25 st = thenS (codeB Try.prog E cx n30_26 st) (codeB Try.prog E cx n30_27) := GE.seq_step (by kernel_rfl)
theorem n30_24s : codeB Try.prog E cx n30_24 st = blockS 1 (codeB Try.prog E cx n30_25 st) st := GE.block_step (by kernel_rfl)
theorem n30_30s : codeB Try.prog E ⟨f, 78, b, ro⟩ n30_30 st = plainS (runOps Try.prog E b q30_30 (ops [true, true, true, false, true, false, false, true, true] Try.f30) st) := GE.region_step (id := 6) (GE.reg_of (by kernel_rfl)) (by kernel_rfl)
theorem n30_23s : codeB Try.prog E cx n30_23 st = thenS (codeB Try.prog E cx n30_24 st) (codeB Try.prog E cx n30_30) := GE.seq_step (by kernel_rfl)
theorem n30_17s : codeB Try.prog E cx n30_17 st = thenS (codeB Try.prog E cx n30_18 st) (codeB Try.prog E cx n30_23) := GE.seq_step (by kernel_rfl)
theorem n30_16k : LL.kp (⟨30, 78, b, ro⟩ : Cx).fn (4 * rid n30_17 + 3) = some ⟨[0, 4, 5], [⟨4, 0, 1, true⟩]⟩ := by kernel_rfl
theorem n30_16s : codeB Try.prog LL ⟨30, 78, b, ro⟩ n30_16 st = headS b ⟨[0, 4, 5], [⟨4, 0, 1, true⟩]⟩ st (lpB Try.prog LL ⟨30, 78, b, ro⟩ n30_16 n30_17) := GE.lpB_step (by kernel_rfl) (n30_16k b ro)
theorem n30_16g : LL.code ⟨30, 78, b, ro⟩ n30_16 st = headS b ⟨[0, 4, 5], [⟨4, 0, 1, true⟩]⟩ st (lpB Try.prog LL ⟨30, 78, b, ro⟩ n30_16 n30_17) := GE.lpB_again (by kernel_rfl) (n30_16k b ro)
theorem n30_15s : codeB Try.prog E cx n30_15 st = blockS 0 (codeB Try.prog E cx n30_16 st) st := GE.block_step (by kernel_rfl)
theorem n30_13s : codeB Try.prog E cx n30_13 st = thenS (codeB Try.prog E cx n30_14 st) (codeB Try.prog E cx n30_15) := GE.seq_step (by kernel_rfl)
theorem n30_33s : codeB Try.prog E ⟨f, 78, b, ro⟩ n30_33 st = plainS (runOps Try.prog E b q30_33 (ops [true, true, true, true, false, false] Try.f30) st) := GE.region_step (id := 9) (GE.reg_of (by kernel_rfl)) (by kernel_rfl)
theorem n30_38s : codeB Try.prog E ⟨f, 78, b, ro⟩ n30_38 st = plainS (runOps Try.prog E b q30_38 (ops [true, true, true, true, false, true, false, false, false, false] Try.f30) st) := GE.region_step (id := 10) (GE.reg_of (by kernel_rfl)) (by kernel_rfl)
theorem n30_40s : codeB Try.prog E cx n30_40 st = some (.normal, st) := GE.skip_step (by kernel_rfl)
theorem n30_41s : codeB Try.prog LL ⟨30, 78, b, ro⟩ n30_41 st = normS b ⟨[4], [⟨4, 0, 1, true⟩]⟩ (.exit 2) st := GE.exit_step (by kernel_rfl) (by kernel_rfl)
theorem n30_39s : codeB Try.prog E cx n30_39 st = condS (codeB Try.prog E cx n30_40) (codeB Try.prog E cx n30_41) (lk st.σ 29) st := GE.cond_step (c := .tmp 29) (by kernel_rfl)
theorem n30_37s : codeB Try.prog E cx n30_37 st = thenS (codeB Try.prog E cx n30_38 st) (codeB Try.prog E cx n30_39) := GE.seq_step (by kernel_rfl)
theorem n30_45s : codeB Try.prog E ⟨f, 78, b, ro⟩ n30_45 st = plainS (runOps Try.prog E b q30_45 (ops [true, true, true, true, false, true, false, false, true, false, false, false] Try.f30) st) := GE.region_step (id := 12) (GE.reg_of (by kernel_rfl)) (by kernel_rfl)
theorem q30_50g2 : gd q30_50 2 = some 35 := by kernel_rfl
theorem n30_50s : codeB Try.prog E ⟨f, 78, b, ro⟩ n30_50 st = drawS [0, 1, 3, 7, 7, 31, 63, 7, 7, 263, 903, 1927, 4095, 8191] (runOpsF Try.prog E b q30_50 (ops [true, true, true, true, false, true, false, false, true, false, false, true, false, false, false, false] Try.f30) st) := GE.draw_step (id := 13) (GE.reg_of (by kernel_rfl)) (by kernel_rfl) (by kernel_rfl) (by kernel_rfl)
theorem n30_52s : codeB Try.prog E cx n30_52 st = some (.normal, st) := GE.skip_step (by kernel_rfl)
theorem n30_53s : codeB Try.prog LL ⟨30, 78, b, ro⟩ n30_53 st = normS b ⟨[4, 6], [⟨4, 0, 1, true⟩]⟩ (.exit 4) st := GE.exit_step (by kernel_rfl) (by kernel_rfl)
theorem n30_51s : codeB Try.prog E cx n30_51 st = condS (codeB Try.prog E cx n30_52) (codeB Try.prog E cx n30_53) (lk st.σ 46) st := GE.cond_step (c := .tmp 46) (by kernel_rfl)
theorem n30_49s : codeB Try.prog E cx n30_49 st = thenS (codeB Try.prog E cx n30_50 st) (codeB Try.prog E cx n30_51) := GE.seq_step (by kernel_rfl)
theorem n30_56s : codeB Try.prog E ⟨f, 78, b, ro⟩ n30_56 st = drawS [0, 0, 0, 0, 8, 0, 0, 64, 224, 480, 0, 0, 3072, 7168, 16355, 32739, 65535, 131071] (runOpsF Try.prog E b q30_56 (ops [true, true, true, true, false, true, false, false, true, false, false, true, false, false, true, false, false] Try.f30) st) := GE.draw_step (id := 15) (GE.reg_of (by kernel_rfl)) (by kernel_rfl) (by kernel_rfl) (by kernel_rfl)
theorem n30_55s : codeB Try.prog E cx n30_55 st = blockS 5 (codeB Try.prog E cx n30_56 st) st := GE.block_step (by kernel_rfl)
theorem n30_57s : codeB Try.prog E ⟨f, 78, b, ro⟩ n30_57 st = plainS (runOps Try.prog E b q30_57 (ops [true, true, true, true, false, true, false, false, true, false, false, true, false, false, true, true] Try.f30) st) := GE.region_step (id := 14) (GE.reg_of (by kernel_rfl)) (by kernel_rfl)
theorem n30_54s : codeB Try.prog E cx n30_54 st = thenS (codeB Try.prog E cx n30_55 st) (codeB Try.prog E cx n30_57) := GE.seq_step (by kernel_rfl)
theorem n30_48s : codeB Try.prog E cx n30_48 st = thenS (codeB Try.prog E cx n30_49 st) (codeB Try.prog E cx n30_54) := GE.seq_step (by kernel_rfl)
theorem n30_47k : LL.kp (⟨30, 78, b, ro⟩ : Cx).fn (4 * rid n30_48 + 3) = some ⟨[7, 4, 6], [⟨4, 0, 1, true⟩]⟩ := by kernel_rfl
theorem n30_47s : codeB Try.prog LL ⟨30, 78, b, ro⟩ n30_47 st = headS b ⟨[7, 4, 6], [⟨4, 0, 1, true⟩]⟩ st (lpB Try.prog LL ⟨30, 78, b, ro⟩ n30_47 n30_48) := GE.lpB_step (by kernel_rfl) (n30_47k b ro)
theorem n30_47g : LL.code ⟨30, 78, b, ro⟩ n30_47 st = headS b ⟨[7, 4, 6], [⟨4, 0, 1, true⟩]⟩ st (lpB Try.prog LL ⟨30, 78, b, ro⟩ n30_47 n30_48) := GE.lpB_again (by kernel_rfl) (n30_47k b ro)
theorem n30_46s : codeB Try.prog E cx n30_46 st = blockS 4 (codeB Try.prog E cx n30_47 st) st := GE.block_step (by kernel_rfl)
theorem n30_44s : codeB Try.prog E cx n30_44 st = thenS (codeB Try.prog E cx n30_45 st) (codeB Try.prog E cx n30_46) := GE.seq_step (by kernel_rfl)
theorem n30_43s : codeB Try.prog E cx n30_43 st = blockS 3 (codeB Try.prog E cx n30_44 st) st := GE.block_step (by kernel_rfl)
theorem n30_58s : codeB Try.prog E ⟨f, 78, b, ro⟩ n30_58 st = plainS (runOps Try.prog E b q30_58 (ops [true, true, true, true, false, true, false, false, true, true] Try.f30) st) := GE.region_step (id := 11) (GE.reg_of (by kernel_rfl)) (by kernel_rfl)
theorem n30_42s : codeB Try.prog E cx n30_42 st = thenS (codeB Try.prog E cx n30_43 st) (codeB Try.prog E cx n30_58) := GE.seq_step (by kernel_rfl)
theorem n30_36s : codeB Try.prog E cx n30_36 st = thenS (codeB Try.prog E cx n30_37 st) (codeB Try.prog E cx n30_42) := GE.seq_step (by kernel_rfl)
theorem n30_35k : LL.kp (⟨30, 78, b, ro⟩ : Cx).fn (4 * rid n30_36 + 3) = some ⟨[4, 6], [⟨4, 0, 1, true⟩]⟩ := by kernel_rfl
theorem n30_35s : codeB Try.prog LL ⟨30, 78, b, ro⟩ n30_35 st = headS b ⟨[4, 6], [⟨4, 0, 1, true⟩]⟩ st (lpB Try.prog LL ⟨30, 78, b, ro⟩ n30_35 n30_36) := GE.lpB_step (by kernel_rfl) (n30_35k b ro)
theorem n30_35g : LL.code ⟨30, 78, b, ro⟩ n30_35 st = headS b ⟨[4, 6], [⟨4, 0, 1, true⟩]⟩ st (lpB Try.prog LL ⟨30, 78, b, ro⟩ n30_35 n30_36) := GE.lpB_again (by kernel_rfl) (n30_35k b ro)
theorem n30_34s : codeB Try.prog E cx n30_34 st = blockS 2 (codeB Try.prog E cx n30_35 st) st := GE.block_step (by kernel_rfl)
theorem n30_32s : codeB Try.prog E cx n30_32 st = thenS (codeB Try.prog E cx n30_33 st) (codeB Try.prog E cx n30_34) := GE.seq_step (by kernel_rfl)
theorem n30_60s : codeB Try.prog E ⟨f, 78, b, ro⟩ n30_60 st = plainS (runOps Try.prog E b q30_60 (ops [true, true, true, true, true, false] Try.f30) st) := GE.region_step (id := 16) (GE.reg_of (by kernel_rfl)) (by kernel_rfl)
theorem n30_63s : codeB Try.prog E ⟨f, 78, b, ro⟩ n30_63 st = plainS (runOps Try.prog E b q30_63 (ops [true, true, true, true, true, true, false, false] Try.f30) st) := GE.region_step (id := 17) (GE.reg_of (by kernel_rfl)) (by kernel_rfl)
theorem n30_68s : codeB Try.prog E ⟨f, 78, b, ro⟩ n30_68 st = plainS (runOps Try.prog E b q30_68 (ops [true, true, true, true, true, true, false, true, false, false, false, false] Try.f30) st) := GE.region_step (id := 18) (GE.reg_of (by kernel_rfl)) (by kernel_rfl)
theorem n30_70s : codeB Try.prog E cx n30_70 st = some (.normal, st) := GE.skip_step (by kernel_rfl)
theorem n30_71s : codeB Try.prog LL ⟨30, 78, b, ro⟩ n30_71 st = normS b ⟨[8], []⟩ (.exit 6) st := GE.exit_step (by kernel_rfl) (by kernel_rfl)
theorem n30_69s : codeB Try.prog E cx n30_69 st = condS (codeB Try.prog E cx n30_70) (codeB Try.prog E cx n30_71) (lk st.σ 68) st := GE.cond_step (c := .tmp 68) (by kernel_rfl)
theorem n30_67s : codeB Try.prog E cx n30_67 st = thenS (codeB Try.prog E cx n30_68 st) (codeB Try.prog E cx n30_69) := GE.seq_step (by kernel_rfl)
theorem n30_74s : codeB Try.prog E ⟨f, 78, b, ro⟩ n30_74 st = plainS (runOps Try.prog E b q30_74 (ops [true, true, true, true, true, true, false, true, false, false, true, false, false] Try.f30) st) := GE.region_step (id := 20) (GE.reg_of (by kernel_rfl)) (by kernel_rfl)
theorem n30_73s : codeB Try.prog E cx n30_73 st = blockS 7 (codeB Try.prog E cx n30_74 st) st := GE.block_step (by kernel_rfl)
theorem n30_75s : codeB Try.prog E ⟨f, 78, b, ro⟩ n30_75 st = plainS (runOps Try.prog E b q30_75 (ops [true, true, true, true, true, true, false, true, false, false, true, true] Try.f30) st) := GE.region_step (id := 19) (GE.reg_of (by kernel_rfl)) (by kernel_rfl)
theorem n30_72s : codeB Try.prog E cx n30_72 st = thenS (codeB Try.prog E cx n30_73 st) (codeB Try.prog E cx n30_75) := GE.seq_step (by kernel_rfl)
theorem n30_66s : codeB Try.prog E cx n30_66 st = thenS (codeB Try.prog E cx n30_67 st) (codeB Try.prog E cx n30_72) := GE.seq_step (by kernel_rfl)
theorem n30_65k : LL.kp (⟨30, 78, b, ro⟩ : Cx).fn (4 * rid n30_66 + 3) = some ⟨[4, 8, 9], [⟨4, 0, 1, true⟩]⟩ := by kernel_rfl
theorem n30_65s : codeB Try.prog LL ⟨30, 78, b, ro⟩ n30_65 st = headS b ⟨[4, 8, 9], [⟨4, 0, 1, true⟩]⟩ st (lpB Try.prog LL ⟨30, 78, b, ro⟩ n30_65 n30_66) := GE.lpB_step (by kernel_rfl) (n30_65k b ro)
theorem n30_65g : LL.code ⟨30, 78, b, ro⟩ n30_65 st = headS b ⟨[4, 8, 9], [⟨4, 0, 1, true⟩]⟩ st (lpB Try.prog LL ⟨30, 78, b, ro⟩ n30_65 n30_66) := GE.lpB_again (by kernel_rfl) (n30_65k b ro)
theorem n30_64s : codeB Try.prog E cx n30_64 st = blockS 6 (codeB Try.prog E cx n30_65 st) st := GE.block_step (by kernel_rfl)
theorem n30_62s : codeB Try.prog E cx n30_62 st = thenS (codeB Try.prog E cx n30_63 st) (codeB Try.prog E cx n30_64) := GE.seq_step (by kernel_rfl)
theorem n30_77s : codeB Try.prog E ⟨f, 78, b, ro⟩ n30_77 st = plainS (runOps Try.prog E b q30_77 (ops [true, true, true, true, true, true, true, false] Try.f30) st) := GE.region_step (id := 21) (GE.reg_of (by kernel_rfl)) (by kernel_rfl)
theorem n30_78s : codeB Try.prog LL ⟨30, 78, b, ro⟩ n30_78 st = normS b ⟨[2, 3], []⟩ .ret st := GE.ret_step (by kernel_rfl) (by kernel_rfl)
theorem n30_76s : codeB Try.prog E cx n30_76 st = thenS (codeB Try.prog E cx n30_77 st) (codeB Try.prog E cx n30_78) := GE.seq_step (by kernel_rfl)
theorem n30_61s : codeB Try.prog E cx n30_61 st = thenS (codeB Try.prog E cx n30_62 st) (codeB Try.prog E cx n30_76) := GE.seq_step (by kernel_rfl)
theorem n30_59s : codeB Try.prog E cx n30_59 st = thenS (codeB Try.prog E cx n30_60 st) (codeB Try.prog E cx n30_61) := GE.seq_step (by kernel_rfl)
theorem n30_31s : codeB Try.prog E cx n30_31 st = thenS (codeB Try.prog E cx n30_32 st) (codeB Try.prog E cx n30_59) := GE.seq_step (by kernel_rfl)
theorem n30_12s : codeB Try.prog E cx n30_12 st = thenS (codeB Try.prog E cx n30_13 st) (codeB Try.prog E cx n30_31) := GE.seq_step (by kernel_rfl)
theorem n30_10s : codeB Try.prog E cx n30_10 st = thenS (codeB Try.prog E cx n30_11 st) (codeB Try.prog E cx n30_12) := GE.seq_step (by kernel_rfl)
theorem n30_2s : codeB Try.prog E cx n30_2 st = thenS (codeB Try.prog E cx n30_3 st) (codeB Try.prog E cx n30_10) := GE.seq_step (by kernel_rfl)
theorem n30_0s : codeB Try.prog E cx n30_0 st = thenS (codeB Try.prog E cx n30_1 st) (codeB Try.prog E cx n30_2) := GE.seq_step (by kernel_rfl)
noncomputable def n31_0 : Code := bodyOf Try.f31
noncomputable def n31_1 : Code := cl n31_0
noncomputable def q31_1 : List Oper := opsOf n31_1
noncomputable def n31_2 : Code := cr n31_0
noncomputable def n31_3 : Code := cl n31_2
noncomputable def n31_4 : Code := cl n31_3
noncomputable def q31_4 : List Oper := opsOf n31_4
noncomputable def n31_5 : Code := cr n31_3
noncomputable def n31_6 : Code := cl n31_5
noncomputable def n31_7 : Code := cl n31_6
noncomputable def q31_7 : List Oper := opsOf n31_7
noncomputable def n31_8 : Code := cr n31_6
noncomputable def n31_9 : Code := cr n31_5
noncomputable def n31_10 : Code := cr n31_2
noncomputable def n31_11 : Code := cl n31_10
noncomputable def q31_11 : List Oper := opsOf n31_11
noncomputable def n31_12 : Code := cr n31_10
noncomputable def n31_13 : Code := cl n31_12
noncomputable def n31_14 : Code := cl n31_13
noncomputable def q31_14 : List Oper := opsOf n31_14
noncomputable def n31_15 : Code := cr n31_13
noncomputable def n31_16 : Code := cl n31_15
noncomputable def n31_17 : Code := cl n31_16
noncomputable def n31_18 : Code := cl n31_17
noncomputable def q31_18 : List Oper := opsOf n31_18
noncomputable def n31_19 : Code := cr n31_17
noncomputable def n31_20 : Code := cl n31_19
noncomputable def n31_21 : Code := cl n31_20
noncomputable def n31_22 : Code := cr n31_20
noncomputable def n31_23 : Code := cr n31_19
noncomputable def n31_24 : Code := cl n31_23
noncomputable def n31_25 : Code := cl n31_24
noncomputable def n31_26 : Code := cl n31_25
noncomputable def q31_26 : List Oper := opsOf n31_26
noncomputable def n31_27 : Code := cr n31_25
noncomputable def q31_27 : List Oper := opsOf n31_27
noncomputable def n31_28 : Code := cr n31_23
noncomputable def q31_28 : List Oper := opsOf n31_28
noncomputable def n31_29 : Code := cr n31_12
noncomputable def n31_30 : Code := cl n31_29
noncomputable def q31_30 : List Oper := opsOf n31_30
noncomputable def n31_31 : Code := cr n31_29
theorem body31 : Try.f31.body = some n31_0 := by kernel_rfl
theorem run31 (E : Ev) (args : List Value) (h : List Blk) (hl : args.length ≤ 26) : runB Try.prog E 31 args h = endS Try.prog [.tmp 2, .tmp 3] h.length (codeB Try.prog E ⟨31, 26, h.length, none⟩ n31_0 ⟨enumT 0 args, h, []⟩) := GE.run_step Try.func31 body31 (by kernel_rfl) (by decide) (by kernel_rfl) hl
theorem n31_1s : codeB Try.prog E ⟨f, 26, b, ro⟩ n31_1 st = plainS (runOps Try.prog E b q31_1 (ops [false] Try.f31) st) := GE.region_step (id := 0) (GE.reg_of (by kernel_rfl)) (by kernel_rfl)
theorem q31_4g2 : gd q31_4 2 = some 8 := by kernel_rfl
theorem n31_4s : codeB Try.prog E ⟨f, 26, b, ro⟩ n31_4 st = plainS (runOps Try.prog E b q31_4 (ops [true, false, false] Try.f31) st) := GE.region_step (id := 1) (GE.reg_of (by kernel_rfl)) (by kernel_rfl)
theorem n31_7s : codeB Try.prog E ⟨f, 26, b, ro⟩ n31_7 st = plainS (runOps Try.prog E b q31_7 (ops [true, false, true, false, false] Try.f31) st) := GE.region_step (id := 2) (GE.reg_of (by kernel_rfl)) (by kernel_rfl)
theorem n31_8s : codeB Try.prog LL ⟨31, 26, b, ro⟩ n31_8 st = normS b ⟨[2, 3], []⟩ .ret st := GE.ret_step (by kernel_rfl) (by kernel_rfl)
theorem n31_6s : codeB Try.prog E cx n31_6 st = thenS (codeB Try.prog E cx n31_7 st) (codeB Try.prog E cx n31_8) := GE.seq_step (by kernel_rfl)
theorem n31_9s : codeB Try.prog E cx n31_9 st = some (.normal, st) := GE.skip_step (by kernel_rfl)
theorem n31_5s : codeB Try.prog E cx n31_5 st = condS (codeB Try.prog E cx n31_6) (codeB Try.prog E cx n31_9) (lk st.σ 11) st := GE.cond_step (c := .tmp 11) (by kernel_rfl)
theorem n31_3s : codeB Try.prog E cx n31_3 st = thenS (codeB Try.prog E cx n31_4 st) (codeB Try.prog E cx n31_5) := GE.seq_step (by kernel_rfl)
theorem n31_11s : codeB Try.prog E ⟨f, 26, b, ro⟩ n31_11 st = plainS (runOps Try.prog E b q31_11 (ops [true, true, false] Try.f31) st) := GE.region_step (id := 3) (GE.reg_of (by kernel_rfl)) (by kernel_rfl)
theorem n31_14s : codeB Try.prog E ⟨f, 26, b, ro⟩ n31_14 st = plainS (runOps Try.prog E b q31_14 (ops [true, true, true, false, false] Try.f31) st) := GE.region_step (id := 4) (GE.reg_of (by kernel_rfl)) (by kernel_rfl)
theorem n31_18s : codeB Try.prog E ⟨f, 26, b, ro⟩ n31_18 st = plainS (runOps Try.prog E b q31_18 (ops [true, true, true, false, true, false, false, false] Try.f31) st) := GE.region_step (id := 5) (GE.reg_of (by kernel_rfl)) (by kernel_rfl)
theorem n31_21s : codeB Try.prog E cx n31_21 st = some (.normal, st) := GE.skip_step (by kernel_rfl)
theorem n31_22s : codeB Try.prog LL ⟨31, 26, b, ro⟩ n31_22 st = normS b ⟨[0, 4], []⟩ (.exit 0) st := GE.exit_step (by kernel_rfl) (by kernel_rfl)
theorem n31_20s : codeB Try.prog E cx n31_20 st = condS (codeB Try.prog E cx n31_21) (codeB Try.prog E cx n31_22) (lk st.σ 14) st := GE.cond_step (c := .tmp 14) (by kernel_rfl)
theorem n31_26s : codeB Try.prog E ⟨f, 26, b, ro⟩ n31_26 st = plainS (runOps Try.prog E b q31_26 (ops [true, true, true, false, true, false, false, true, true, false, false, false] Try.f31) st) := GE.region_step (id := 6) (GE.reg_of (by kernel_rfl)) (by kernel_rfl)
theorem n31_27s : codeB Try.prog E ⟨f, 26, b, ro⟩ n31_27 st = plainS (runOps Try.prog E b q31_27 (ops [true, true, true, false, true, false, false, true, true, false, false, true] Try.f31) st) := GE.region_step (id := 7) (GE.reg_of (by kernel_rfl)) (by kernel_rfl)
theorem n31_25s : codeB Try.prog E cx n31_25 st = thenS (codeB Try.prog E cx n31_26 st) (codeB Try.prog E cx n31_27) := GE.seq_step (by kernel_rfl)
theorem n31_24s : codeB Try.prog E cx n31_24 st = blockS 1 (codeB Try.prog E cx n31_25 st) st := GE.block_step (by kernel_rfl)
theorem n31_28s : codeB Try.prog E ⟨f, 26, b, ro⟩ n31_28 st = plainS (runOps Try.prog E b q31_28 (ops [true, true, true, false, true, false, false, true, true, true] Try.f31) st) := GE.region_step (id := 8) (GE.reg_of (by kernel_rfl)) (by kernel_rfl)
theorem n31_23s : codeB Try.prog E cx n31_23 st = thenS (codeB Try.prog E cx n31_24 st) (codeB Try.prog E cx n31_28) := GE.seq_step (by kernel_rfl)
theorem n31_19s : codeB Try.prog E cx n31_19 st = thenS (codeB Try.prog E cx n31_20 st) (codeB Try.prog E cx n31_23) := GE.seq_step (by kernel_rfl)
theorem n31_17s : codeB Try.prog E cx n31_17 st = thenS (codeB Try.prog E cx n31_18 st) (codeB Try.prog E cx n31_19) := GE.seq_step (by kernel_rfl)
theorem n31_16k : LL.kp (⟨31, 26, b, ro⟩ : Cx).fn (4 * rid n31_17 + 3) = some ⟨[0, 4, 12, 13], []⟩ := by kernel_rfl
theorem n31_16s : codeB Try.prog LL ⟨31, 26, b, ro⟩ n31_16 st = headS b ⟨[0, 4, 12, 13], []⟩ st (lpB Try.prog LL ⟨31, 26, b, ro⟩ n31_16 n31_17) := GE.lpB_step (by kernel_rfl) (n31_16k b ro)
theorem n31_16g : LL.code ⟨31, 26, b, ro⟩ n31_16 st = headS b ⟨[0, 4, 12, 13], []⟩ st (lpB Try.prog LL ⟨31, 26, b, ro⟩ n31_16 n31_17) := GE.lpB_again (by kernel_rfl) (n31_16k b ro)
theorem n31_15s : codeB Try.prog E cx n31_15 st = blockS 0 (codeB Try.prog E cx n31_16 st) st := GE.block_step (by kernel_rfl)
theorem n31_13s : codeB Try.prog E cx n31_13 st = thenS (codeB Try.prog E cx n31_14 st) (codeB Try.prog E cx n31_15) := GE.seq_step (by kernel_rfl)
theorem n31_30s : codeB Try.prog E ⟨f, 26, b, ro⟩ n31_30 st = plainS (runOps Try.prog E b q31_30 (ops [true, true, true, true, false] Try.f31) st) := GE.region_step (id := 9) (GE.reg_of (by kernel_rfl)) (by kernel_rfl)
theorem n31_31s : codeB Try.prog LL ⟨31, 26, b, ro⟩ n31_31 st = normS b ⟨[2, 3], []⟩ .ret st := GE.ret_step (by kernel_rfl) (by kernel_rfl)
theorem n31_29s : codeB Try.prog E cx n31_29 st = thenS (codeB Try.prog E cx n31_30 st) (codeB Try.prog E cx n31_31) := GE.seq_step (by kernel_rfl)
theorem n31_12s : codeB Try.prog E cx n31_12 st = thenS (codeB Try.prog E cx n31_13 st) (codeB Try.prog E cx n31_29) := GE.seq_step (by kernel_rfl)
theorem n31_10s : codeB Try.prog E cx n31_10 st = thenS (codeB Try.prog E cx n31_11 st) (codeB Try.prog E cx n31_12) := GE.seq_step (by kernel_rfl)
theorem n31_2s : codeB Try.prog E cx n31_2 st = thenS (codeB Try.prog E cx n31_3 st) (codeB Try.prog E cx n31_10) := GE.seq_step (by kernel_rfl)
theorem n31_0s : codeB Try.prog E cx n31_0 st = thenS (codeB Try.prog E cx n31_1 st) (codeB Try.prog E cx n31_2) := GE.seq_step (by kernel_rfl)
noncomputable def n32_0 : Code := bodyOf Try.f32
noncomputable def n32_1 : Code := cl n32_0
noncomputable def q32_1 : List Oper := opsOf n32_1
noncomputable def n32_2 : Code := cr n32_0
noncomputable def n32_3 : Code := cl n32_2
noncomputable def n32_4 : Code := cl n32_3
noncomputable def q32_4 : List Oper := opsOf n32_4
noncomputable def n32_5 : Code := cr n32_3
noncomputable def n32_6 : Code := cl n32_5
noncomputable def n32_7 : Code := cl n32_6
noncomputable def q32_7 : List Oper := opsOf n32_7
noncomputable def n32_8 : Code := cr n32_6
noncomputable def n32_9 : Code := cr n32_5
noncomputable def n32_10 : Code := cr n32_2
noncomputable def n32_11 : Code := cl n32_10
noncomputable def q32_11 : List Oper := opsOf n32_11
noncomputable def n32_12 : Code := cr n32_10
noncomputable def n32_13 : Code := cl n32_12
noncomputable def n32_14 : Code := cl n32_13
noncomputable def q32_14 : List Oper := opsOf n32_14
noncomputable def n32_15 : Code := cr n32_13
noncomputable def n32_16 : Code := cl n32_15
noncomputable def n32_17 : Code := cl n32_16
noncomputable def n32_18 : Code := cl n32_17
noncomputable def n32_19 : Code := cl n32_18
noncomputable def q32_19 : List Oper := opsOf n32_19
noncomputable def n32_20 : Code := cr n32_18
noncomputable def n32_21 : Code := cl n32_20
noncomputable def n32_22 : Code := cr n32_20
noncomputable def n32_23 : Code := cr n32_17
noncomputable def n32_24 : Code := cl n32_23
noncomputable def n32_25 : Code := cl n32_24
noncomputable def q32_25 : List Oper := opsOf n32_25
noncomputable def n32_26 : Code := cr n32_23
noncomputable def q32_26 : List Oper := opsOf n32_26
noncomputable def n32_27 : Code := cr n32_12
noncomputable def n32_28 : Code := cl n32_27
noncomputable def q32_28 : List Oper := opsOf n32_28
noncomputable def n32_29 : Code := cr n32_27
theorem body32 : Try.f32.body = some n32_0 := by kernel_rfl
theorem run32 (E : Ev) (args : List Value) (h : List Blk) (hl : args.length ≤ 23) : runB Try.prog E 32 args h = endS Try.prog [.tmp 2, .tmp 3] h.length (codeB Try.prog E ⟨32, 23, h.length, none⟩ n32_0 ⟨enumT 0 args, h, []⟩) := GE.run_step Try.func32 body32 (by kernel_rfl) (by decide) (by kernel_rfl) hl
theorem n32_1s : codeB Try.prog E ⟨f, 23, b, ro⟩ n32_1 st = plainS (runOps Try.prog E b q32_1 (ops [false] Try.f32) st) := GE.region_step (id := 0) (GE.reg_of (by kernel_rfl)) (by kernel_rfl)
theorem n32_4s : codeB Try.prog E ⟨f, 23, b, ro⟩ n32_4 st = plainS (runOps Try.prog E b q32_4 (ops [true, false, false] Try.f32) st) := GE.region_step (id := 1) (GE.reg_of (by kernel_rfl)) (by kernel_rfl)
theorem n32_7s : codeB Try.prog E ⟨f, 23, b, ro⟩ n32_7 st = plainS (runOps Try.prog E b q32_7 (ops [true, false, true, false, false] Try.f32) st) := GE.region_step (id := 2) (GE.reg_of (by kernel_rfl)) (by kernel_rfl)
theorem n32_8s : codeB Try.prog LL ⟨32, 23, b, ro⟩ n32_8 st = normS b ⟨[2, 3], []⟩ .ret st := GE.ret_step (by kernel_rfl) (by kernel_rfl)
theorem n32_6s : codeB Try.prog E cx n32_6 st = thenS (codeB Try.prog E cx n32_7 st) (codeB Try.prog E cx n32_8) := GE.seq_step (by kernel_rfl)
theorem n32_9s : codeB Try.prog E cx n32_9 st = some (.normal, st) := GE.skip_step (by kernel_rfl)
theorem n32_5s : codeB Try.prog E cx n32_5 st = condS (codeB Try.prog E cx n32_6) (codeB Try.prog E cx n32_9) (lk st.σ 8) st := GE.cond_step (c := .tmp 8) (by kernel_rfl)
theorem n32_3s : codeB Try.prog E cx n32_3 st = thenS (codeB Try.prog E cx n32_4 st) (codeB Try.prog E cx n32_5) := GE.seq_step (by kernel_rfl)
theorem n32_11s : codeB Try.prog E ⟨f, 23, b, ro⟩ n32_11 st = plainS (runOps Try.prog E b q32_11 (ops [true, true, false] Try.f32) st) := GE.region_step (id := 3) (GE.reg_of (by kernel_rfl)) (by kernel_rfl)
theorem n32_14s : codeB Try.prog E ⟨f, 23, b, ro⟩ n32_14 st = plainS (runOps Try.prog E b q32_14 (ops [true, true, true, false, false] Try.f32) st) := GE.region_step (id := 4) (GE.reg_of (by kernel_rfl)) (by kernel_rfl)
theorem n32_19s : codeB Try.prog E ⟨f, 23, b, ro⟩ n32_19 st = plainS (runOps Try.prog E b q32_19 (ops [true, true, true, false, true, false, false, false, false] Try.f32) st) := GE.region_step (id := 5) (GE.reg_of (by kernel_rfl)) (by kernel_rfl)
theorem n32_21s : codeB Try.prog E cx n32_21 st = some (.normal, st) := GE.skip_step (by kernel_rfl)
theorem n32_22s : codeB Try.prog LL ⟨32, 23, b, ro⟩ n32_22 st = normS b ⟨[0, 4], []⟩ (.exit 0) st := GE.exit_step (by kernel_rfl) (by kernel_rfl)
theorem n32_20s : codeB Try.prog E cx n32_20 st = condS (codeB Try.prog E cx n32_21) (codeB Try.prog E cx n32_22) (lk st.σ 11) st := GE.cond_step (c := .tmp 11) (by kernel_rfl)
theorem n32_18s : codeB Try.prog E cx n32_18 st = thenS (codeB Try.prog E cx n32_19 st) (codeB Try.prog E cx n32_20) := GE.seq_step (by kernel_rfl)
theorem n32_25s : codeB Try.prog E ⟨f, 23, b, ro⟩ n32_25 st = plainS (runOps Try.prog E b q32_25 (ops [true, true, true, false, true, false, false, true, false, false] Try.f32) st) := GE.region_step (id := 7) (GE.reg_of (by kernel_rfl)) (by kernel_rfl)
theorem n32_24s : codeB Try.prog E cx n32_24 st = blockS 1 (codeB Try.prog E cx n32_25 st) st := GE.block_step (by kernel_rfl)
theorem n32_26s : codeB Try.prog E ⟨f, 23, b, ro⟩ n32_26 st = plainS (runOps Try.prog E b q32_26 (ops [true, true, true, false, true, false, false, true, true] Try.f32) st) := GE.region_step (id := 6) (GE.reg_of (by kernel_rfl)) (by kernel_rfl)
theorem n32_23s : codeB Try.prog E cx n32_23 st = thenS (codeB Try.prog E cx n32_24 st) (codeB Try.prog E cx n32_26) := GE.seq_step (by kernel_rfl)
theorem n32_17s : codeB Try.prog E cx n32_17 st = thenS (codeB Try.prog E cx n32_18 st) (codeB Try.prog E cx n32_23) := GE.seq_step (by kernel_rfl)
theorem n32_16k : LL.kp (⟨32, 23, b, ro⟩ : Cx).fn (4 * rid n32_17 + 3) = some ⟨[0, 4, 5], []⟩ := by kernel_rfl
theorem n32_16s : codeB Try.prog LL ⟨32, 23, b, ro⟩ n32_16 st = headS b ⟨[0, 4, 5], []⟩ st (lpB Try.prog LL ⟨32, 23, b, ro⟩ n32_16 n32_17) := GE.lpB_step (by kernel_rfl) (n32_16k b ro)
theorem n32_16g : LL.code ⟨32, 23, b, ro⟩ n32_16 st = headS b ⟨[0, 4, 5], []⟩ st (lpB Try.prog LL ⟨32, 23, b, ro⟩ n32_16 n32_17) := GE.lpB_again (by kernel_rfl) (n32_16k b ro)
theorem n32_15s : codeB Try.prog E cx n32_15 st = blockS 0 (codeB Try.prog E cx n32_16 st) st := GE.block_step (by kernel_rfl)
theorem n32_13s : codeB Try.prog E cx n32_13 st = thenS (codeB Try.prog E cx n32_14 st) (codeB Try.prog E cx n32_15) := GE.seq_step (by kernel_rfl)
theorem n32_28s : codeB Try.prog E ⟨f, 23, b, ro⟩ n32_28 st = plainS (runOps Try.prog E b q32_28 (ops [true, true, true, true, false] Try.f32) st) := GE.region_step (id := 8) (GE.reg_of (by kernel_rfl)) (by kernel_rfl)
theorem n32_29s : codeB Try.prog LL ⟨32, 23, b, ro⟩ n32_29 st = normS b ⟨[2, 3], []⟩ .ret st := GE.ret_step (by kernel_rfl) (by kernel_rfl)
theorem n32_27s : codeB Try.prog E cx n32_27 st = thenS (codeB Try.prog E cx n32_28 st) (codeB Try.prog E cx n32_29) := GE.seq_step (by kernel_rfl)
theorem n32_12s : codeB Try.prog E cx n32_12 st = thenS (codeB Try.prog E cx n32_13 st) (codeB Try.prog E cx n32_27) := GE.seq_step (by kernel_rfl)
theorem n32_10s : codeB Try.prog E cx n32_10 st = thenS (codeB Try.prog E cx n32_11 st) (codeB Try.prog E cx n32_12) := GE.seq_step (by kernel_rfl)
theorem n32_2s : codeB Try.prog E cx n32_2 st = thenS (codeB Try.prog E cx n32_3 st) (codeB Try.prog E cx n32_10) := GE.seq_step (by kernel_rfl)
theorem n32_0s : codeB Try.prog E cx n32_0 st = thenS (codeB Try.prog E cx n32_1 st) (codeB Try.prog E cx n32_2) := GE.seq_step (by kernel_rfl)
noncomputable def n49_0 : Code := bodyOf Try.f49
noncomputable def n49_1 : Code := cl n49_0
noncomputable def q49_1 : List Oper := opsOf n49_1
noncomputable def n49_2 : Code := cr n49_0
noncomputable def n49_3 : Code := cl n49_2
noncomputable def q49_3 : List Oper := opsOf n49_3
noncomputable def n49_4 : Code := cr n49_2
theorem body49 : Try.f49.body = some n49_0 := by kernel_rfl
theorem run49 (E : Ev) (args : List Value) (h : List Blk) (hl : args.length ≤ 11) : runB Try.prog E 49 args h = endS Try.prog [.tmp 6] h.length (codeB Try.prog E ⟨49, 11, h.length, none⟩ n49_0 ⟨enumT 0 args, h, []⟩) := GE.run_step Try.func49 body49 (by kernel_rfl) (by decide) (by kernel_rfl) hl
theorem n49_1s : codeB Try.prog E ⟨f, 11, b, ro⟩ n49_1 st = plainS (runOps Try.prog E b q49_1 (ops [false] Try.f49) st) := GE.region_step (id := 0) (GE.reg_of (by kernel_rfl)) (by kernel_rfl)
theorem n49_3s : codeB Try.prog E ⟨f, 11, b, ro⟩ n49_3 st = plainS (runOps Try.prog E b q49_3 (ops [true, false] Try.f49) st) := GE.region_step (id := 1) (GE.reg_of (by kernel_rfl)) (by kernel_rfl)
theorem n49_4s : codeB Try.prog LL ⟨49, 11, b, ro⟩ n49_4 st = normS b ⟨[6], []⟩ .ret st := GE.ret_step (by kernel_rfl) (by kernel_rfl)
theorem n49_2s : codeB Try.prog E cx n49_2 st = thenS (codeB Try.prog E cx n49_3 st) (codeB Try.prog E cx n49_4) := GE.seq_step (by kernel_rfl)
theorem n49_0s : codeB Try.prog E cx n49_0 st = thenS (codeB Try.prog E cx n49_1 st) (codeB Try.prog E cx n49_2) := GE.seq_step (by kernel_rfl)
noncomputable def n60_0 : Code := bodyOf Try.f60
noncomputable def n60_1 : Code := cl n60_0
noncomputable def q60_1 : List Oper := opsOf n60_1
noncomputable def n60_2 : Code := cr n60_0
noncomputable def n60_3 : Code := cl n60_2
noncomputable def q60_3 : List Oper := opsOf n60_3
noncomputable def n60_4 : Code := cr n60_2
theorem body60 : Try.f60.body = some n60_0 := by kernel_rfl
theorem run60 (E : Ev) (args : List Value) (h : List Blk) (hl : args.length ≤ 15) : runB Try.prog E 60 args h = endS Try.prog [.tmp 6] h.length (codeB Try.prog E ⟨60, 15, h.length, none⟩ n60_0 ⟨enumT 0 args, h, []⟩) := GE.run_step Try.func60 body60 (by kernel_rfl) (by decide) (by kernel_rfl) hl
theorem n60_1s : codeB Try.prog E ⟨f, 15, b, ro⟩ n60_1 st = plainS (runOps Try.prog E b q60_1 (ops [false] Try.f60) st) := GE.region_step (id := 0) (GE.reg_of (by kernel_rfl)) (by kernel_rfl)
theorem q60_3g3 : gd q60_3 3 = some 10 := by kernel_rfl
theorem n60_3s : codeB Try.prog E ⟨f, 15, b, ro⟩ n60_3 st = plainS (runOps Try.prog E b q60_3 (ops [true, false] Try.f60) st) := GE.region_step (id := 1) (GE.reg_of (by kernel_rfl)) (by kernel_rfl)
theorem n60_4s : codeB Try.prog LL ⟨60, 15, b, ro⟩ n60_4 st = normS b ⟨[6], []⟩ .ret st := GE.ret_step (by kernel_rfl) (by kernel_rfl)
theorem n60_2s : codeB Try.prog E cx n60_2 st = thenS (codeB Try.prog E cx n60_3 st) (codeB Try.prog E cx n60_4) := GE.seq_step (by kernel_rfl)
theorem n60_0s : codeB Try.prog E cx n60_0 st = thenS (codeB Try.prog E cx n60_1 st) (codeB Try.prog E cx n60_2) := GE.seq_step (by kernel_rfl)
theorem lk_26 : lenK Try.prog 26 = some .sl := by kernel_rfl
theorem es_26 : elemK Try.prog 26 = some (none, 1) := by kernel_rfl
theorem ia_9 : aggK Try.prog 9 = some (false, 1) := by kernel_rfl
theorem ia_3 : aggK Try.prog 3 = some (false, 1) := by kernel_rfl
theorem za_26 : zeroA Try.prog 26 = some (.slice none 0 0) := by kernel_rfl
theorem ia_26 : aggK Try.prog 26 = some (false, 1) := by kernel_rfl
theorem ze_26 : zeroE Try.prog 26 = some (.string .empty) := by kernel_rfl
theorem ba_26_1 : baseArr (Value.cells (.string .empty)) (1 * 1) = #[(.string .empty)] := by kernel_rfl
theorem ap_26 : apK Try.prog 26 = some (1, 16) := by kernel_rfl
theorem ni_26 : notInt Try.prog 26 = true := by kernel_rfl
theorem sz_26 : aggSize Try.prog 26 = some 1 := by kernel_rfl
theorem za_73 : zeroA Try.prog 73 = some (.agg #[(.pointer none), (.slice none 0 0)]) := by kernel_rfl
theorem sz_9 : aggSize Try.prog 9 = some 1 := by kernel_rfl

end Go.Proofs.Ytjimphlkhjmaiaa.sw
