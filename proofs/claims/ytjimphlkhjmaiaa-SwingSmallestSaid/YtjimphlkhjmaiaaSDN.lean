/-
  Names for the nodes of the code of some functions (projections of their bodies), the step of each node, and the facts of types that they use.
-/
import Derived.Test.YtjimphlkhjmaiaaKp
namespace Go.Proofs.Ytjimphlkhjmaiaa.sw
open Go.GE
set_option maxRecDepth 100000
variable (E : Ev) (cx : Cx) (st : St) (f nt b : Nat) (ro : Option Nat)
noncomputable def n7_0 : Code := bodyOf Try.f7
noncomputable def n7_1 : Code := cl n7_0
noncomputable def q7_1 : List Oper := opsOf n7_1
noncomputable def n7_2 : Code := cr n7_0
noncomputable def n7_3 : Code := cl n7_2
noncomputable def q7_3 : List Oper := opsOf n7_3
noncomputable def n7_4 : Code := cr n7_2
noncomputable def n7_5 : Code := cl n7_4
noncomputable def q7_5 : List Oper := opsOf n7_5
noncomputable def n7_6 : Code := cr n7_4
noncomputable def n7_7 : Code := cl n7_6
noncomputable def n7_8 : Code := cl n7_7
noncomputable def q7_8 : List Oper := opsOf n7_8
noncomputable def n7_9 : Code := cr n7_7
noncomputable def n7_10 : Code := cl n7_9
noncomputable def n7_11 : Code := cl n7_10
noncomputable def q7_11 : List Oper := opsOf n7_11
noncomputable def n7_12 : Code := cr n7_10
noncomputable def n7_13 : Code := cr n7_9
noncomputable def n7_14 : Code := cr n7_6
noncomputable def n7_15 : Code := cl n7_14
noncomputable def q7_15 : List Oper := opsOf n7_15
noncomputable def n7_16 : Code := cr n7_14
noncomputable def n7_17 : Code := cl n7_16
noncomputable def n7_18 : Code := cl n7_17
noncomputable def q7_18 : List Oper := opsOf n7_18
noncomputable def n7_19 : Code := cr n7_17
noncomputable def n7_20 : Code := cl n7_19
noncomputable def n7_21 : Code := cl n7_20
noncomputable def n7_22 : Code := cl n7_21
noncomputable def q7_22 : List Oper := opsOf n7_22
noncomputable def n7_23 : Code := cr n7_21
noncomputable def n7_24 : Code := cl n7_23
noncomputable def n7_25 : Code := cl n7_24
noncomputable def n7_26 : Code := cr n7_24
noncomputable def n7_27 : Code := cr n7_23
noncomputable def n7_28 : Code := cl n7_27
noncomputable def n7_29 : Code := cl n7_28
noncomputable def q7_29 : List Oper := opsOf n7_29
noncomputable def n7_30 : Code := cr n7_28
noncomputable def n7_31 : Code := cl n7_30
noncomputable def q7_31 : List Oper := opsOf n7_31
noncomputable def n7_32 : Code := cr n7_30
noncomputable def n7_33 : Code := cl n7_32
noncomputable def n7_34 : Code := cl n7_33
noncomputable def q7_34 : List Oper := opsOf n7_34
noncomputable def n7_35 : Code := cr n7_33
noncomputable def n7_36 : Code := cl n7_35
noncomputable def n7_37 : Code := cl n7_36
noncomputable def q7_37 : List Oper := opsOf n7_37
noncomputable def n7_38 : Code := cr n7_36
noncomputable def n7_39 : Code := cr n7_35
noncomputable def n7_40 : Code := cr n7_32
noncomputable def q7_40 : List Oper := opsOf n7_40
noncomputable def n7_41 : Code := cr n7_16
noncomputable def n7_42 : Code := cl n7_41
noncomputable def q7_42 : List Oper := opsOf n7_42
noncomputable def n7_43 : Code := cr n7_41
noncomputable def n7_44 : Code := cl n7_43
noncomputable def q7_44 : List Oper := opsOf n7_44
noncomputable def n7_45 : Code := cr n7_43
theorem body7 : Try.f7.body = some n7_0 := by kernel_rfl
theorem run7 (E : Ev) (args : List Value) (h : List Blk) (hl : args.length ≤ 101) : runB Try.prog E 7 args h = endS Try.prog [.tmp 4] h.length (codeB Try.prog E ⟨7, 101, h.length, none⟩ n7_0 ⟨enumT 0 args, h, []⟩) := GE.run_step Try.func7 body7 (by kernel_rfl) (by decide) (by kernel_rfl) hl
theorem n7_1s : codeB Try.prog E ⟨f, 101, b, ro⟩ n7_1 st = plainS (runOps Try.prog E b q7_1 (ops [false] Try.f7) st) := GE.region_step (id := 0) (GE.reg_of (by kernel_rfl)) (by kernel_rfl)
theorem n7_3s : codeB Try.prog E ⟨f, 101, b, ro⟩ n7_3 st = plainS (runOps Try.prog E b q7_3 (ops [true, false] Try.f7) st) := GE.region_step (id := 1) (GE.reg_of (by kernel_rfl)) (by kernel_rfl)
theorem n7_5s : codeB Try.prog E ⟨f, 101, b, ro⟩ n7_5 st = plainS (runOps Try.prog E b q7_5 (ops [true, true, false] Try.f7) st) := GE.region_step (id := 2) (GE.reg_of (by kernel_rfl)) (by kernel_rfl)
theorem q7_8g2 : gd q7_8 2 = some 25 := by kernel_rfl
theorem q7_8g6 : gd q7_8 6 = some 29 := by kernel_rfl
theorem q7_8g12 : gd q7_8 12 = some 35 := by kernel_rfl
theorem n7_8s : codeB Try.prog E ⟨f, 101, b, ro⟩ n7_8 st = plainS (runOps Try.prog E b q7_8 (ops [true, true, true, false, false] Try.f7) st) := GE.region_step (id := 3) (GE.reg_of (by kernel_rfl)) (by kernel_rfl)
theorem n7_11s : codeB Try.prog E ⟨f, 101, b, ro⟩ n7_11 st = plainS (runOps Try.prog E b q7_11 (ops [true, true, true, false, true, false, false] Try.f7) st) := GE.region_step (id := 4) (GE.reg_of (by kernel_rfl)) (by kernel_rfl)
theorem n7_12s : codeB Try.prog LL ⟨7, 101, b, ro⟩ n7_12 st = normS b ⟨[4], []⟩ .ret st := GE.ret_step (by kernel_rfl) (by kernel_rfl)
theorem n7_10s : codeB Try.prog E cx n7_10 st = thenS (codeB Try.prog E cx n7_11 st) (codeB Try.prog E cx n7_12) := GE.seq_step (by kernel_rfl)
theorem n7_13s : codeB Try.prog E cx n7_13 st = some (.normal, st) := GE.skip_step (by kernel_rfl)
theorem n7_9s : codeB Try.prog E cx n7_9 st = condS (codeB Try.prog E cx n7_10) (codeB Try.prog E cx n7_13) (lk st.σ 41) st := GE.cond_step (c := .tmp 41) (by kernel_rfl)
theorem n7_7s : codeB Try.prog E cx n7_7 st = thenS (codeB Try.prog E cx n7_8 st) (codeB Try.prog E cx n7_9) := GE.seq_step (by kernel_rfl)
theorem n7_15s : codeB Try.prog E ⟨f, 101, b, ro⟩ n7_15 st = plainS (runOps Try.prog E b q7_15 (ops [true, true, true, true, false] Try.f7) st) := GE.region_step (id := 5) (GE.reg_of (by kernel_rfl)) (by kernel_rfl)
theorem n7_18s : codeB Try.prog E ⟨f, 101, b, ro⟩ n7_18 st = plainS (runOps Try.prog E b q7_18 (ops [true, true, true, true, true, false, false] Try.f7) st) := GE.region_step (id := 6) (GE.reg_of (by kernel_rfl)) (by kernel_rfl)
theorem n7_22s : codeB Try.prog E ⟨f, 101, b, ro⟩ n7_22 st = plainS (runOps Try.prog E b q7_22 (ops [true, true, true, true, true, false, true, false, false, false] Try.f7) st) := GE.region_step (id := 7) (GE.reg_of (by kernel_rfl)) (by kernel_rfl)
theorem n7_25s : codeB Try.prog E cx n7_25 st = some (.normal, st) := GE.skip_step (by kernel_rfl)
theorem n7_26s : codeB Try.prog LL ⟨7, 101, b, ro⟩ n7_26 st = normS b ⟨[1, 5, 6, 9], []⟩ (.exit 0) st := GE.exit_step (by kernel_rfl) (by kernel_rfl)
theorem n7_24s : codeB Try.prog E cx n7_24 st = condS (codeB Try.prog E cx n7_25) (codeB Try.prog E cx n7_26) (lk st.σ 45) st := GE.cond_step (c := .tmp 45) (by kernel_rfl)
theorem n7_29s : codeB Try.prog E ⟨f, 101, b, ro⟩ n7_29 st = plainS (runOps Try.prog E b q7_29 (ops [true, true, true, true, true, false, true, false, false, true, true, false, false] Try.f7) st) := GE.region_step (id := 8) (GE.reg_of (by kernel_rfl)) (by kernel_rfl)
theorem n7_31s : codeB Try.prog E ⟨f, 101, b, ro⟩ n7_31 st = plainS (runOps Try.prog E b q7_31 (ops [true, true, true, true, true, false, true, false, false, true, true, false, true, false] Try.f7) st) := GE.region_step (id := 9) (GE.reg_of (by kernel_rfl)) (by kernel_rfl)
theorem q7_34g3 : gd q7_34 3 = some 53 := by kernel_rfl
theorem q7_34g7 : gd q7_34 7 = some 57 := by kernel_rfl
theorem n7_34s : codeB Try.prog E ⟨f, 101, b, ro⟩ n7_34 st = plainS (runOps Try.prog E b q7_34 (ops [true, true, true, true, true, false, true, false, false, true, true, false, true, true, false, false] Try.f7) st) := GE.region_step (id := 10) (GE.reg_of (by kernel_rfl)) (by kernel_rfl)
theorem n7_37s : codeB Try.prog E ⟨f, 101, b, ro⟩ n7_37 st = plainS (runOps Try.prog E b q7_37 (ops [true, true, true, true, true, false, true, false, false, true, true, false, true, true, false, true, false, false] Try.f7) st) := GE.region_step (id := 11) (GE.reg_of (by kernel_rfl)) (by kernel_rfl)
theorem n7_38s : codeB Try.prog LL ⟨7, 101, b, ro⟩ n7_38 st = normS b ⟨[4], []⟩ .ret st := GE.ret_step (by kernel_rfl) (by kernel_rfl)
theorem n7_36s : codeB Try.prog E cx n7_36 st = thenS (codeB Try.prog E cx n7_37 st) (codeB Try.prog E cx n7_38) := GE.seq_step (by kernel_rfl)
theorem n7_39s : codeB Try.prog E cx n7_39 st = some (.normal, st) := GE.skip_step (by kernel_rfl)
theorem n7_35s : codeB Try.prog E cx n7_35 st = condS (codeB Try.prog E cx n7_36) (codeB Try.prog E cx n7_39) (lk st.σ 62) st := GE.cond_step (c := .tmp 62) (by kernel_rfl)
theorem n7_33s : codeB Try.prog E cx n7_33 st = thenS (codeB Try.prog E cx n7_34 st) (codeB Try.prog E cx n7_35) := GE.seq_step (by kernel_rfl)
theorem q7_40g1 : gd q7_40 1 = some 64 := by kernel_rfl
theorem q7_40g4 : gd q7_40 4 = some 67 := by kernel_rfl
theorem n7_40s : codeB Try.prog E ⟨f, 101, b, ro⟩ n7_40 st = plainS (runOps Try.prog E b q7_40 (ops [true, true, true, true, true, false, true, false, false, true, true, false, true, true, true] Try.f7) st) := GE.region_step (id := 12) (GE.reg_of (by kernel_rfl)) (by kernel_rfl)
theorem n7_32s : codeB Try.prog E cx n7_32 st = thenS (codeB Try.prog E cx n7_33 st) (codeB Try.prog E cx n7_40) := GE.seq_step (by kernel_rfl)
theorem n7_30s : codeB Try.prog E cx n7_30 st = thenS (codeB Try.prog E cx n7_31 st) (codeB Try.prog E cx n7_32) := GE.seq_step (by kernel_rfl)
theorem n7_28s : codeB Try.prog E cx n7_28 st = thenS (codeB Try.prog E cx n7_29 st) (codeB Try.prog E cx n7_30) := GE.seq_step (by kernel_rfl)
theorem n7_27s : codeB Try.prog E cx n7_27 st = blockS 1 (codeB Try.prog E cx n7_28 st) st := GE.block_step (by kernel_rfl)
theorem n7_23s : codeB Try.prog E cx n7_23 st = thenS (codeB Try.prog E cx n7_24 st) (codeB Try.prog E cx n7_27) := GE.seq_step (by kernel_rfl)
theorem n7_21s : codeB Try.prog E cx n7_21 st = thenS (codeB Try.prog E cx n7_22 st) (codeB Try.prog E cx n7_23) := GE.seq_step (by kernel_rfl)
theorem n7_20k : LL.kp (⟨7, 101, b, ro⟩ : Cx).fn (4 * rid n7_21 + 3) = some ⟨[1, 5, 6, 7, 9, 43], []⟩ := by kernel_rfl
theorem n7_20s : codeB Try.prog LL ⟨7, 101, b, ro⟩ n7_20 st = headS b ⟨[1, 5, 6, 7, 9, 43], []⟩ st (lpB Try.prog LL ⟨7, 101, b, ro⟩ n7_20 n7_21) := GE.lpB_step (by kernel_rfl) (n7_20k b ro)
theorem n7_20g : LL.code ⟨7, 101, b, ro⟩ n7_20 st = headS b ⟨[1, 5, 6, 7, 9, 43], []⟩ st (lpB Try.prog LL ⟨7, 101, b, ro⟩ n7_20 n7_21) := GE.lpB_again (by kernel_rfl) (n7_20k b ro)
theorem n7_19s : codeB Try.prog E cx n7_19 st = blockS 0 (codeB Try.prog E cx n7_20 st) st := GE.block_step (by kernel_rfl)
theorem n7_17s : codeB Try.prog E cx n7_17 st = thenS (codeB Try.prog E cx n7_18 st) (codeB Try.prog E cx n7_19) := GE.seq_step (by kernel_rfl)
theorem n7_42s : codeB Try.prog E ⟨f, 101, b, ro⟩ n7_42 st = plainS (runOps Try.prog E b q7_42 (ops [true, true, true, true, true, true, false] Try.f7) st) := GE.region_step (id := 13) (GE.reg_of (by kernel_rfl)) (by kernel_rfl)
theorem q7_44g2 : gd q7_44 2 = some 87 := by kernel_rfl
theorem q7_44g7 : gd q7_44 7 = some 92 := by kernel_rfl
theorem q7_44g13 : gd q7_44 13 = some 98 := by kernel_rfl
theorem n7_44s : codeB Try.prog E ⟨f, 101, b, ro⟩ n7_44 st = plainS (runOps Try.prog E b q7_44 (ops [true, true, true, true, true, true, true, false] Try.f7) st) := GE.region_step (id := 14) (GE.reg_of (by kernel_rfl)) (by kernel_rfl)
theorem n7_45s : codeB Try.prog LL ⟨7, 101, b, ro⟩ n7_45 st = normS b ⟨[4], []⟩ .ret st := GE.ret_step (by kernel_rfl) (by kernel_rfl)
theorem n7_43s : codeB Try.prog E cx n7_43 st = thenS (codeB Try.prog E cx n7_44 st) (codeB Try.prog E cx n7_45) := GE.seq_step (by kernel_rfl)
theorem n7_41s : codeB Try.prog E cx n7_41 st = thenS (codeB Try.prog E cx n7_42 st) (codeB Try.prog E cx n7_43) := GE.seq_step (by kernel_rfl)
theorem n7_16s : codeB Try.prog E cx n7_16 st = thenS (codeB Try.prog E cx n7_17 st) (codeB Try.prog E cx n7_41) := GE.seq_step (by kernel_rfl)
theorem n7_14s : codeB Try.prog E cx n7_14 st = thenS (codeB Try.prog E cx n7_15 st) (codeB Try.prog E cx n7_16) := GE.seq_step (by kernel_rfl)
theorem n7_6s : codeB Try.prog E cx n7_6 st = thenS (codeB Try.prog E cx n7_7 st) (codeB Try.prog E cx n7_14) := GE.seq_step (by kernel_rfl)
theorem n7_4s : codeB Try.prog E cx n7_4 st = thenS (codeB Try.prog E cx n7_5 st) (codeB Try.prog E cx n7_6) := GE.seq_step (by kernel_rfl)
theorem n7_2s : codeB Try.prog E cx n7_2 st = thenS (codeB Try.prog E cx n7_3 st) (codeB Try.prog E cx n7_4) := GE.seq_step (by kernel_rfl)
theorem n7_0s : codeB Try.prog E cx n7_0 st = thenS (codeB Try.prog E cx n7_1 st) (codeB Try.prog E cx n7_2) := GE.seq_step (by kernel_rfl)
noncomputable def n15_0 : Code := bodyOf Try.f15
noncomputable def n15_1 : Code := cl n15_0
noncomputable def q15_1 : List Oper := opsOf n15_1
noncomputable def n15_2 : Code := cr n15_0
noncomputable def n15_3 : Code := cl n15_2
noncomputable def n15_4 : Code := cl n15_3
noncomputable def q15_4 : List Oper := opsOf n15_4
noncomputable def n15_5 : Code := cr n15_3
noncomputable def n15_6 : Code := cl n15_5
noncomputable def q15_6 : List Oper := opsOf n15_6
noncomputable def n15_7 : Code := cr n15_5
noncomputable def n15_8 : Code := cl n15_7
noncomputable def n15_9 : Code := cl n15_8
noncomputable def q15_9 : List Oper := opsOf n15_9
noncomputable def n15_10 : Code := cr n15_8
noncomputable def n15_11 : Code := cr n15_7
noncomputable def n15_12 : Code := cr n15_2
noncomputable def n15_13 : Code := cl n15_12
noncomputable def q15_13 : List Oper := opsOf n15_13
noncomputable def n15_14 : Code := cr n15_12
noncomputable def n15_15 : Code := cl n15_14
noncomputable def n15_16 : Code := cl n15_15
noncomputable def q15_16 : List Oper := opsOf n15_16
noncomputable def n15_17 : Code := cr n15_15
noncomputable def n15_18 : Code := cl n15_17
noncomputable def n15_19 : Code := cl n15_18
noncomputable def n15_20 : Code := cl n15_19
noncomputable def q15_20 : List Oper := opsOf n15_20
noncomputable def n15_21 : Code := cr n15_19
noncomputable def q15_21 : List Oper := opsOf n15_21
noncomputable def n15_22 : Code := cr n15_18
noncomputable def n15_23 : Code := cl n15_22
noncomputable def n15_24 : Code := cl n15_23
noncomputable def q15_24 : List Oper := opsOf n15_24
noncomputable def n15_25 : Code := cr n15_23
noncomputable def n15_26 : Code := cl n15_25
noncomputable def q15_26 : List Oper := opsOf n15_26
noncomputable def n15_27 : Code := cr n15_25
noncomputable def n15_28 : Code := cr n15_14
noncomputable def n15_29 : Code := cl n15_28
noncomputable def q15_29 : List Oper := opsOf n15_29
noncomputable def n15_30 : Code := cr n15_28
theorem body15 : Try.f15.body = some n15_0 := by kernel_rfl
theorem run15 (E : Ev) (args : List Value) (h : List Blk) (hl : args.length ≤ 27) : runB Try.prog E 15 args h = endS Try.prog [.cell 2 9, .cell 3 3, .tmp 4] h.length (codeB Try.prog E ⟨15, 27, h.length, none⟩ n15_0 ⟨enumT 0 args, h, []⟩) := GE.run_step Try.func15 body15 (by kernel_rfl) (by decide) (by kernel_rfl) hl
theorem n15_1s : codeB Try.prog E ⟨f, 27, b, ro⟩ n15_1 st = plainS (runOps Try.prog E b q15_1 (ops [false] Try.f15) st) := GE.region_step (id := 0) (GE.reg_of (by kernel_rfl)) (by kernel_rfl)
theorem n15_4s : codeB Try.prog E ⟨f, 27, b, ro⟩ n15_4 st = plainS (runOps Try.prog E b q15_4 (ops [true, false, false] Try.f15) st) := GE.region_step (id := 1) (GE.reg_of (by kernel_rfl)) (by kernel_rfl)
theorem n15_6s : codeB Try.prog E ⟨f, 27, b, ro⟩ n15_6 st = plainS (runOps Try.prog E b q15_6 (ops [true, false, true, false] Try.f15) st) := GE.region_step (id := 2) (GE.reg_of (by kernel_rfl)) (by kernel_rfl)
theorem n15_9s : codeB Try.prog E ⟨f, 27, b, ro⟩ n15_9 st = plainS (runOps Try.prog E b q15_9 (ops [true, false, true, true, false, false] Try.f15) st) := GE.region_step (id := 3) (GE.reg_of (by kernel_rfl)) (by kernel_rfl)
theorem n15_10s : codeB Try.prog LL ⟨15, 27, b, ro⟩ n15_10 st = normS b ⟨[2, 3, 4], []⟩ .ret st := GE.ret_step (by kernel_rfl) (by kernel_rfl)
theorem n15_8s : codeB Try.prog E cx n15_8 st = thenS (codeB Try.prog E cx n15_9 st) (codeB Try.prog E cx n15_10) := GE.seq_step (by kernel_rfl)
theorem n15_11s : codeB Try.prog E cx n15_11 st = some (.normal, st) := GE.skip_step (by kernel_rfl)
theorem n15_7s : codeB Try.prog E cx n15_7 st = condS (codeB Try.prog E cx n15_8) (codeB Try.prog E cx n15_11) (lk st.σ 11) st := GE.cond_step (c := .tmp 11) (by kernel_rfl)
theorem n15_5s : codeB Try.prog E cx n15_5 st = thenS (codeB Try.prog E cx n15_6 st) (codeB Try.prog E cx n15_7) := GE.seq_step (by kernel_rfl)
theorem n15_3s : codeB Try.prog E cx n15_3 st = thenS (codeB Try.prog E cx n15_4 st) (codeB Try.prog E cx n15_5) := GE.seq_step (by kernel_rfl)
theorem n15_13s : codeB Try.prog E ⟨f, 27, b, ro⟩ n15_13 st = plainS (runOps Try.prog E b q15_13 (ops [true, true, false] Try.f15) st) := GE.region_step (id := 4) (GE.reg_of (by kernel_rfl)) (by kernel_rfl)
theorem n15_16s : codeB Try.prog E ⟨f, 27, b, ro⟩ n15_16 st = plainS (runOps Try.prog E b q15_16 (ops [true, true, true, false, false] Try.f15) st) := GE.region_step (id := 5) (GE.reg_of (by kernel_rfl)) (by kernel_rfl)
theorem n15_20s : codeB Try.prog E ⟨f, 27, b, ro⟩ n15_20 st = plainS (runOps Try.prog E b q15_20 (ops [true, true, true, false, true, false, false, false] Try.f15) st) := GE.region_step (id := 6) (GE.reg_of (by kernel_rfl)) (by kernel_rfl)
theorem n15_21s : codeB Try.prog E ⟨f, 27, b, ro⟩ n15_21 st = plainS (runOps Try.prog E b q15_21 (ops [true, true, true, false, true, false, false, true] Try.f15) st) := GE.region_step (id := 7) (GE.reg_of (by kernel_rfl)) (by kernel_rfl)
theorem n15_19s : codeB Try.prog E cx n15_19 st = thenS (codeB Try.prog E cx n15_20 st) (codeB Try.prog E cx n15_21) := GE.seq_step (by kernel_rfl)
theorem n15_24s : codeB Try.prog E ⟨f, 27, b, ro⟩ n15_24 st = plainS (runOps Try.prog E b q15_24 (ops [true, true, true, false, true, false, true, false, false] Try.f15) st) := GE.region_step (id := 8) (GE.reg_of (by kernel_rfl)) (by kernel_rfl)
theorem n15_26s : codeB Try.prog E ⟨f, 27, b, ro⟩ n15_26 st = plainS (runOps Try.prog E b q15_26 (ops [true, true, true, false, true, false, true, false, true, false] Try.f15) st) := GE.region_step (id := 9) (GE.reg_of (by kernel_rfl)) (by kernel_rfl)
theorem n15_27s : codeB Try.prog E cx n15_27 st = some (.normal, st) := GE.skip_step (by kernel_rfl)
theorem n15_25s : codeB Try.prog E cx n15_25 st = condS (codeB Try.prog E cx n15_26) (codeB Try.prog E cx n15_27) (lk st.σ 22) st := GE.cond_step (c := .tmp 22) (by kernel_rfl)
theorem n15_23s : codeB Try.prog E cx n15_23 st = thenS (codeB Try.prog E cx n15_24 st) (codeB Try.prog E cx n15_25) := GE.seq_step (by kernel_rfl)
theorem n15_22s : codeB Try.prog E cx n15_22 st = blockS 1 (codeB Try.prog E cx n15_23 st) st := GE.block_step (by kernel_rfl)
theorem n15_18e : n15_18 = .rangeFunc (.tmp 17) #[18, 19] n15_19 n15_22 := by kernel_rfl
theorem n15_18k : (ue n15_19).1 ++ (ue n15_22).1 = [18, 19, 7, 2, 6, 3] := by kernel_rfl
theorem n15_17s : codeB Try.prog E cx n15_17 st = blockS 0 (codeB Try.prog E cx n15_18 st) st := GE.block_step (by kernel_rfl)
theorem n15_15s : codeB Try.prog E cx n15_15 st = thenS (codeB Try.prog E cx n15_16 st) (codeB Try.prog E cx n15_17) := GE.seq_step (by kernel_rfl)
theorem n15_29s : codeB Try.prog E ⟨f, 27, b, ro⟩ n15_29 st = drawS [0, 0, 1, 7, 15] (runOpsF Try.prog E b q15_29 (ops [true, true, true, true, false] Try.f15) st) := GE.draw_step (id := 10) (GE.reg_of (by kernel_rfl)) (by kernel_rfl) (by kernel_rfl) (by kernel_rfl)
theorem n15_30s : codeB Try.prog LL ⟨15, 27, b, ro⟩ n15_30 st = normS b ⟨[2, 3, 4], []⟩ .ret st := GE.ret_step (by kernel_rfl) (by kernel_rfl)
theorem n15_28s : codeB Try.prog E cx n15_28 st = thenS (codeB Try.prog E cx n15_29 st) (codeB Try.prog E cx n15_30) := GE.seq_step (by kernel_rfl)
theorem n15_14s : codeB Try.prog E cx n15_14 st = thenS (codeB Try.prog E cx n15_15 st) (codeB Try.prog E cx n15_28) := GE.seq_step (by kernel_rfl)
theorem n15_12s : codeB Try.prog E cx n15_12 st = thenS (codeB Try.prog E cx n15_13 st) (codeB Try.prog E cx n15_14) := GE.seq_step (by kernel_rfl)
theorem n15_2s : codeB Try.prog E cx n15_2 st = thenS (codeB Try.prog E cx n15_3 st) (codeB Try.prog E cx n15_12) := GE.seq_step (by kernel_rfl)
theorem n15_0s : codeB Try.prog E cx n15_0 st = thenS (codeB Try.prog E cx n15_1 st) (codeB Try.prog E cx n15_2) := GE.seq_step (by kernel_rfl)
noncomputable def n22_0 : Code := bodyOf Try.f22
noncomputable def n22_1 : Code := cl n22_0
noncomputable def q22_1 : List Oper := opsOf n22_1
noncomputable def n22_2 : Code := cr n22_0
noncomputable def n22_3 : Code := cl n22_2
noncomputable def n22_4 : Code := cl n22_3
noncomputable def n22_5 : Code := cl n22_4
noncomputable def q22_5 : List Oper := opsOf n22_5
noncomputable def n22_6 : Code := cr n22_4
noncomputable def n22_7 : Code := cl n22_6
noncomputable def n22_8 : Code := cl n22_7
noncomputable def q22_8 : List Oper := opsOf n22_8
noncomputable def n22_9 : Code := cr n22_7
noncomputable def n22_10 : Code := cr n22_6
noncomputable def n22_11 : Code := cl n22_10
noncomputable def q22_11 : List Oper := opsOf n22_11
noncomputable def n22_12 : Code := cr n22_10
noncomputable def n22_13 : Code := cl n22_12
noncomputable def n22_14 : Code := cl n22_13
noncomputable def q22_14 : List Oper := opsOf n22_14
noncomputable def n22_15 : Code := cr n22_13
noncomputable def n22_16 : Code := cr n22_12
noncomputable def n22_17 : Code := cl n22_16
noncomputable def q22_17 : List Oper := opsOf n22_17
noncomputable def n22_18 : Code := cr n22_16
noncomputable def n22_19 : Code := cl n22_18
noncomputable def n22_20 : Code := cl n22_19
noncomputable def q22_20 : List Oper := opsOf n22_20
noncomputable def n22_21 : Code := cr n22_19
noncomputable def n22_22 : Code := cr n22_18
noncomputable def n22_23 : Code := cr n22_2
noncomputable def n22_24 : Code := cl n22_23
noncomputable def q22_24 : List Oper := opsOf n22_24
noncomputable def n22_25 : Code := cr n22_23
theorem body22 : Try.f22.body = some n22_0 := by kernel_rfl
theorem run22 (E : Ev) (args : List Value) (h : List Blk) (hl : args.length ≤ 14) : runB Try.prog E 22 args h = endS Try.prog [.tmp 2] h.length (codeB Try.prog E ⟨22, 14, h.length, none⟩ n22_0 ⟨enumT 0 args, h, []⟩) := GE.run_step Try.func22 body22 (by kernel_rfl) (by decide) (by kernel_rfl) hl
theorem n22_1s : codeB Try.prog E ⟨f, 14, b, ro⟩ n22_1 st = plainS (runOps Try.prog E b q22_1 (ops [false] Try.f22) st) := GE.region_step (id := 0) (GE.reg_of (by kernel_rfl)) (by kernel_rfl)
theorem n22_5s : codeB Try.prog E ⟨f, 14, b, ro⟩ n22_5 st = plainS (runOps Try.prog E b q22_5 (ops [true, false, false, false] Try.f22) st) := GE.region_step (id := 1) (GE.reg_of (by kernel_rfl)) (by kernel_rfl)
theorem n22_8s : codeB Try.prog E ⟨f, 14, b, ro⟩ n22_8 st = plainS (runOps Try.prog E b q22_8 (ops [true, false, false, true, false, false] Try.f22) st) := GE.region_step (id := 2) (GE.reg_of (by kernel_rfl)) (by kernel_rfl)
theorem n22_9s : codeB Try.prog LL ⟨22, 14, b, ro⟩ n22_9 st = normS b ⟨[2], []⟩ .ret st := GE.ret_step (by kernel_rfl) (by kernel_rfl)
theorem n22_7s : codeB Try.prog E cx n22_7 st = thenS (codeB Try.prog E cx n22_8 st) (codeB Try.prog E cx n22_9) := GE.seq_step (by kernel_rfl)
theorem n22_11s : codeB Try.prog E ⟨f, 14, b, ro⟩ n22_11 st = plainS (runOps Try.prog E b q22_11 (ops [true, false, false, true, true, false] Try.f22) st) := GE.region_step (id := 3) (GE.reg_of (by kernel_rfl)) (by kernel_rfl)
theorem n22_14s : codeB Try.prog E ⟨f, 14, b, ro⟩ n22_14 st = plainS (runOps Try.prog E b q22_14 (ops [true, false, false, true, true, true, false, false] Try.f22) st) := GE.region_step (id := 4) (GE.reg_of (by kernel_rfl)) (by kernel_rfl)
theorem n22_15s : codeB Try.prog LL ⟨22, 14, b, ro⟩ n22_15 st = normS b ⟨[2], []⟩ .ret st := GE.ret_step (by kernel_rfl) (by kernel_rfl)
theorem n22_13s : codeB Try.prog E cx n22_13 st = thenS (codeB Try.prog E cx n22_14 st) (codeB Try.prog E cx n22_15) := GE.seq_step (by kernel_rfl)
theorem n22_17s : codeB Try.prog E ⟨f, 14, b, ro⟩ n22_17 st = plainS (runOps Try.prog E b q22_17 (ops [true, false, false, true, true, true, true, false] Try.f22) st) := GE.region_step (id := 5) (GE.reg_of (by kernel_rfl)) (by kernel_rfl)
theorem n22_20s : codeB Try.prog E ⟨f, 14, b, ro⟩ n22_20 st = plainS (runOps Try.prog E b q22_20 (ops [true, false, false, true, true, true, true, true, false, false] Try.f22) st) := GE.region_step (id := 6) (GE.reg_of (by kernel_rfl)) (by kernel_rfl)
theorem n22_21s : codeB Try.prog LL ⟨22, 14, b, ro⟩ n22_21 st = normS b ⟨[2], []⟩ .ret st := GE.ret_step (by kernel_rfl) (by kernel_rfl)
theorem n22_19s : codeB Try.prog E cx n22_19 st = thenS (codeB Try.prog E cx n22_20 st) (codeB Try.prog E cx n22_21) := GE.seq_step (by kernel_rfl)
theorem n22_22s : codeB Try.prog E cx n22_22 st = some (.normal, st) := GE.skip_step (by kernel_rfl)
theorem n22_18s : codeB Try.prog E cx n22_18 st = condS (codeB Try.prog E cx n22_19) (codeB Try.prog E cx n22_22) (lk st.σ 10) st := GE.cond_step (c := .tmp 10) (by kernel_rfl)
theorem n22_16s : codeB Try.prog E cx n22_16 st = thenS (codeB Try.prog E cx n22_17 st) (codeB Try.prog E cx n22_18) := GE.seq_step (by kernel_rfl)
theorem n22_12s : codeB Try.prog E cx n22_12 st = condS (codeB Try.prog E cx n22_13) (codeB Try.prog E cx n22_16) (lk st.σ 6) st := GE.cond_step (c := .tmp 6) (by kernel_rfl)
theorem n22_10s : codeB Try.prog E cx n22_10 st = thenS (codeB Try.prog E cx n22_11 st) (codeB Try.prog E cx n22_12) := GE.seq_step (by kernel_rfl)
theorem n22_6s : codeB Try.prog E cx n22_6 st = condS (codeB Try.prog E cx n22_7) (codeB Try.prog E cx n22_10) (lk st.σ 3) st := GE.cond_step (c := .tmp 3) (by kernel_rfl)
theorem n22_4s : codeB Try.prog E cx n22_4 st = thenS (codeB Try.prog E cx n22_5 st) (codeB Try.prog E cx n22_6) := GE.seq_step (by kernel_rfl)
theorem n22_3s : codeB Try.prog E cx n22_3 st = blockS 0 (codeB Try.prog E cx n22_4 st) st := GE.block_step (by kernel_rfl)
theorem n22_24s : codeB Try.prog E ⟨f, 14, b, ro⟩ n22_24 st = plainS (runOps Try.prog E b q22_24 (ops [true, true, false] Try.f22) st) := GE.region_step (id := 7) (GE.reg_of (by kernel_rfl)) (by kernel_rfl)
theorem n22_25s : codeB Try.prog LL ⟨22, 14, b, ro⟩ n22_25 st = normS b ⟨[2], []⟩ .ret st := GE.ret_step (by kernel_rfl) (by kernel_rfl)
theorem n22_23s : codeB Try.prog E cx n22_23 st = thenS (codeB Try.prog E cx n22_24 st) (codeB Try.prog E cx n22_25) := GE.seq_step (by kernel_rfl)
theorem n22_2s : codeB Try.prog E cx n22_2 st = thenS (codeB Try.prog E cx n22_3 st) (codeB Try.prog E cx n22_23) := GE.seq_step (by kernel_rfl)
theorem n22_0s : codeB Try.prog E cx n22_0 st = thenS (codeB Try.prog E cx n22_1 st) (codeB Try.prog E cx n22_2) := GE.seq_step (by kernel_rfl)
noncomputable def n33_0 : Code := bodyOf Try.f33
noncomputable def n33_1 : Code := cl n33_0
noncomputable def q33_1 : List Oper := opsOf n33_1
noncomputable def n33_2 : Code := cr n33_0
noncomputable def n33_3 : Code := cl n33_2
noncomputable def q33_3 : List Oper := opsOf n33_3
noncomputable def n33_4 : Code := cr n33_2
noncomputable def n33_5 : Code := cl n33_4
noncomputable def q33_5 : List Oper := opsOf n33_5
noncomputable def n33_6 : Code := cr n33_4
noncomputable def n33_7 : Code := cl n33_6
noncomputable def n33_8 : Code := cl n33_7
noncomputable def q33_8 : List Oper := opsOf n33_8
noncomputable def n33_9 : Code := cr n33_7
noncomputable def n33_10 : Code := cl n33_9
noncomputable def n33_11 : Code := cl n33_10
noncomputable def n33_12 : Code := cl n33_11
noncomputable def q33_12 : List Oper := opsOf n33_12
noncomputable def n33_13 : Code := cr n33_11
noncomputable def n33_14 : Code := cl n33_13
noncomputable def n33_15 : Code := cl n33_14
noncomputable def n33_16 : Code := cr n33_14
noncomputable def n33_17 : Code := cr n33_13
noncomputable def n33_18 : Code := cl n33_17
noncomputable def n33_19 : Code := cl n33_18
noncomputable def n33_20 : Code := cl n33_19
noncomputable def q33_20 : List Oper := opsOf n33_20
noncomputable def n33_21 : Code := cr n33_19
noncomputable def q33_21 : List Oper := opsOf n33_21
noncomputable def n33_22 : Code := cr n33_17
noncomputable def q33_22 : List Oper := opsOf n33_22
noncomputable def n33_23 : Code := cr n33_6
noncomputable def n33_24 : Code := cl n33_23
noncomputable def q33_24 : List Oper := opsOf n33_24
noncomputable def n33_25 : Code := cr n33_23
theorem body33 : Try.f33.body = some n33_0 := by kernel_rfl
theorem run33 (E : Ev) (args : List Value) (h : List Blk) (hl : args.length ≤ 41) : runB Try.prog E 33 args h = endS Try.prog [.tmp 6] h.length (codeB Try.prog E ⟨33, 41, h.length, none⟩ n33_0 ⟨enumT 0 args, h, []⟩) := GE.run_step Try.func33 body33 (by kernel_rfl) (by decide) (by kernel_rfl) hl
theorem n33_1s : codeB Try.prog E ⟨f, 41, b, ro⟩ n33_1 st = plainS (runOps Try.prog E b q33_1 (ops [false] Try.f33) st) := GE.region_step (id := 0) (GE.reg_of (by kernel_rfl)) (by kernel_rfl)
theorem n33_3s : codeB Try.prog E ⟨f, 41, b, ro⟩ n33_3 st = plainS (runOps Try.prog E b q33_3 (ops [true, false] Try.f33) st) := GE.region_step (id := 1) (GE.reg_of (by kernel_rfl)) (by kernel_rfl)
theorem n33_5s : codeB Try.prog E ⟨f, 41, b, ro⟩ n33_5 st = plainS (runOps Try.prog E b q33_5 (ops [true, true, false] Try.f33) st) := GE.region_step (id := 2) (GE.reg_of (by kernel_rfl)) (by kernel_rfl)
theorem n33_8s : codeB Try.prog E ⟨f, 41, b, ro⟩ n33_8 st = plainS (runOps Try.prog E b q33_8 (ops [true, true, true, false, false] Try.f33) st) := GE.region_step (id := 3) (GE.reg_of (by kernel_rfl)) (by kernel_rfl)
theorem n33_12s : codeB Try.prog E ⟨f, 41, b, ro⟩ n33_12 st = plainS (runOps Try.prog E b q33_12 (ops [true, true, true, false, true, false, false, false] Try.f33) st) := GE.region_step (id := 4) (GE.reg_of (by kernel_rfl)) (by kernel_rfl)
theorem n33_15s : codeB Try.prog E cx n33_15 st = some (.normal, st) := GE.skip_step (by kernel_rfl)
theorem n33_16s : codeB Try.prog LL ⟨33, 41, b, ro⟩ n33_16 st = normS b ⟨[8], [⟨8, 0, 1, true⟩]⟩ (.exit 0) st := GE.exit_step (by kernel_rfl) (by kernel_rfl)
theorem n33_14s : codeB Try.prog E cx n33_14 st = condS (codeB Try.prog E cx n33_15) (codeB Try.prog E cx n33_16) (lk st.σ 25) st := GE.cond_step (c := .tmp 25) (by kernel_rfl)
theorem n33_20s : codeB Try.prog E ⟨f, 41, b, ro⟩ n33_20 st = plainS (runOps Try.prog E b q33_20 (ops [true, true, true, false, true, false, false, true, true, false, false, false] Try.f33) st) := GE.region_step (id := 5) (GE.reg_of (by kernel_rfl)) (by kernel_rfl)
theorem n33_21s : codeB Try.prog E ⟨f, 41, b, ro⟩ n33_21 st = plainS (runOps Try.prog E b q33_21 (ops [true, true, true, false, true, false, false, true, true, false, false, true] Try.f33) st) := GE.region_step (id := 6) (GE.reg_of (by kernel_rfl)) (by kernel_rfl)
theorem n33_19s : codeB Try.prog E cx n33_19 st = thenS (codeB Try.prog E cx n33_20 st) (codeB Try.prog E cx n33_21) := GE.seq_step (by kernel_rfl)
theorem n33_18s : codeB Try.prog E cx n33_18 st = blockS 1 (codeB Try.prog E cx n33_19 st) st := GE.block_step (by kernel_rfl)
theorem n33_22s : codeB Try.prog E ⟨f, 41, b, ro⟩ n33_22 st = plainS (runOps Try.prog E b q33_22 (ops [true, true, true, false, true, false, false, true, true, true] Try.f33) st) := GE.region_step (id := 7) (GE.reg_of (by kernel_rfl)) (by kernel_rfl)
theorem n33_17s : codeB Try.prog E cx n33_17 st = thenS (codeB Try.prog E cx n33_18 st) (codeB Try.prog E cx n33_22) := GE.seq_step (by kernel_rfl)
theorem n33_13s : codeB Try.prog E cx n33_13 st = thenS (codeB Try.prog E cx n33_14 st) (codeB Try.prog E cx n33_17) := GE.seq_step (by kernel_rfl)
theorem n33_11s : codeB Try.prog E cx n33_11 st = thenS (codeB Try.prog E cx n33_12 st) (codeB Try.prog E cx n33_13) := GE.seq_step (by kernel_rfl)
theorem n33_10k : LL.kp (⟨33, 41, b, ro⟩ : Cx).fn (4 * rid n33_11 + 3) = some ⟨[3, 8, 23, 24], [⟨8, 0, 1, true⟩]⟩ := by kernel_rfl
theorem n33_10s : codeB Try.prog LL ⟨33, 41, b, ro⟩ n33_10 st = headS b ⟨[3, 8, 23, 24], [⟨8, 0, 1, true⟩]⟩ st (lpB Try.prog LL ⟨33, 41, b, ro⟩ n33_10 n33_11) := GE.lpB_step (by kernel_rfl) (n33_10k b ro)
theorem n33_10g : LL.code ⟨33, 41, b, ro⟩ n33_10 st = headS b ⟨[3, 8, 23, 24], [⟨8, 0, 1, true⟩]⟩ st (lpB Try.prog LL ⟨33, 41, b, ro⟩ n33_10 n33_11) := GE.lpB_again (by kernel_rfl) (n33_10k b ro)
theorem n33_9s : codeB Try.prog E cx n33_9 st = blockS 0 (codeB Try.prog E cx n33_10 st) st := GE.block_step (by kernel_rfl)
theorem n33_7s : codeB Try.prog E cx n33_7 st = thenS (codeB Try.prog E cx n33_8 st) (codeB Try.prog E cx n33_9) := GE.seq_step (by kernel_rfl)
theorem n33_24s : codeB Try.prog E ⟨f, 41, b, ro⟩ n33_24 st = plainS (runOps Try.prog E b q33_24 (ops [true, true, true, true, false] Try.f33) st) := GE.region_step (id := 8) (GE.reg_of (by kernel_rfl)) (by kernel_rfl)
theorem n33_25s : codeB Try.prog LL ⟨33, 41, b, ro⟩ n33_25 st = normS b ⟨[6], []⟩ .ret st := GE.ret_step (by kernel_rfl) (by kernel_rfl)
theorem n33_23s : codeB Try.prog E cx n33_23 st = thenS (codeB Try.prog E cx n33_24 st) (codeB Try.prog E cx n33_25) := GE.seq_step (by kernel_rfl)
theorem n33_6s : codeB Try.prog E cx n33_6 st = thenS (codeB Try.prog E cx n33_7 st) (codeB Try.prog E cx n33_23) := GE.seq_step (by kernel_rfl)
theorem n33_4s : codeB Try.prog E cx n33_4 st = thenS (codeB Try.prog E cx n33_5 st) (codeB Try.prog E cx n33_6) := GE.seq_step (by kernel_rfl)
theorem n33_2s : codeB Try.prog E cx n33_2 st = thenS (codeB Try.prog E cx n33_3 st) (codeB Try.prog E cx n33_4) := GE.seq_step (by kernel_rfl)
theorem n33_0s : codeB Try.prog E cx n33_0 st = thenS (codeB Try.prog E cx n33_1 st) (codeB Try.prog E cx n33_2) := GE.seq_step (by kernel_rfl)
noncomputable def n34_0 : Code := bodyOf Try.f34
noncomputable def n34_1 : Code := cl n34_0
noncomputable def q34_1 : List Oper := opsOf n34_1
noncomputable def n34_2 : Code := cr n34_0
noncomputable def n34_3 : Code := cl n34_2
noncomputable def n34_4 : Code := cl n34_3
noncomputable def q34_4 : List Oper := opsOf n34_4
noncomputable def n34_5 : Code := cr n34_3
noncomputable def n34_6 : Code := cl n34_5
noncomputable def n34_7 : Code := cl n34_6
noncomputable def n34_8 : Code := cl n34_7
noncomputable def n34_9 : Code := cl n34_8
noncomputable def q34_9 : List Oper := opsOf n34_9
noncomputable def n34_10 : Code := cr n34_8
noncomputable def n34_11 : Code := cl n34_10
noncomputable def n34_12 : Code := cr n34_10
noncomputable def n34_13 : Code := cr n34_7
noncomputable def n34_14 : Code := cl n34_13
noncomputable def n34_15 : Code := cl n34_14
noncomputable def n34_16 : Code := cl n34_15
noncomputable def q34_16 : List Oper := opsOf n34_16
noncomputable def n34_17 : Code := cr n34_15
noncomputable def n34_18 : Code := cl n34_17
noncomputable def n34_19 : Code := cl n34_18
noncomputable def q34_19 : List Oper := opsOf n34_19
noncomputable def n34_20 : Code := cr n34_18
noncomputable def n34_21 : Code := cr n34_17
noncomputable def n34_22 : Code := cr n34_13
noncomputable def q34_22 : List Oper := opsOf n34_22
noncomputable def n34_23 : Code := cr n34_2
noncomputable def n34_24 : Code := cl n34_23
noncomputable def q34_24 : List Oper := opsOf n34_24
noncomputable def n34_25 : Code := cr n34_23
theorem body34 : Try.f34.body = some n34_0 := by kernel_rfl
theorem run34 (E : Ev) (args : List Value) (h : List Blk) (hl : args.length ≤ 18) : runB Try.prog E 34 args h = endS Try.prog [.tmp 2] h.length (codeB Try.prog E ⟨34, 18, h.length, none⟩ n34_0 ⟨enumT 0 args, h, []⟩) := GE.run_step Try.func34 body34 (by kernel_rfl) (by decide) (by kernel_rfl) hl
theorem n34_1s : codeB Try.prog E ⟨f, 18, b, ro⟩ n34_1 st = plainS (runOps Try.prog E b q34_1 (ops [false] Try.f34) st) := GE.region_step (id := 0) (GE.reg_of (by kernel_rfl)) (by kernel_rfl)
theorem n34_4s : codeB Try.prog E ⟨f, 18, b, ro⟩ n34_4 st = plainS (runOps Try.prog E b q34_4 (ops [true, false, false] Try.f34) st) := GE.region_step (id := 1) (GE.reg_of (by kernel_rfl)) (by kernel_rfl)
theorem n34_9s : codeB Try.prog E ⟨f, 18, b, ro⟩ n34_9 st = plainS (runOps Try.prog E b q34_9 (ops [true, false, true, false, false, false, false] Try.f34) st) := GE.region_step (id := 2) (GE.reg_of (by kernel_rfl)) (by kernel_rfl)
theorem n34_11s : codeB Try.prog E cx n34_11 st = some (.normal, st) := GE.skip_step (by kernel_rfl)
theorem n34_12s : codeB Try.prog LL ⟨34, 18, b, ro⟩ n34_12 st = normS b ⟨[0], []⟩ (.exit 0) st := GE.exit_step (by kernel_rfl) (by kernel_rfl)
theorem n34_10s : codeB Try.prog E cx n34_10 st = condS (codeB Try.prog E cx n34_11) (codeB Try.prog E cx n34_12) (lk st.σ 7) st := GE.cond_step (c := .tmp 7) (by kernel_rfl)
theorem n34_8s : codeB Try.prog E cx n34_8 st = thenS (codeB Try.prog E cx n34_9 st) (codeB Try.prog E cx n34_10) := GE.seq_step (by kernel_rfl)
theorem n34_16s : codeB Try.prog E ⟨f, 18, b, ro⟩ n34_16 st = plainS (runOps Try.prog E b q34_16 (ops [true, false, true, false, false, true, false, false, false] Try.f34) st) := GE.region_step (id := 4) (GE.reg_of (by kernel_rfl)) (by kernel_rfl)
theorem n34_19s : codeB Try.prog E ⟨f, 18, b, ro⟩ n34_19 st = plainS (runOps Try.prog E b q34_19 (ops [true, false, true, false, false, true, false, false, true, false, false] Try.f34) st) := GE.region_step (id := 5) (GE.reg_of (by kernel_rfl)) (by kernel_rfl)
theorem n34_20s : codeB Try.prog LL ⟨34, 18, b, ro⟩ n34_20 st = normS b ⟨[2], []⟩ .ret st := GE.ret_step (by kernel_rfl) (by kernel_rfl)
theorem n34_18s : codeB Try.prog E cx n34_18 st = thenS (codeB Try.prog E cx n34_19 st) (codeB Try.prog E cx n34_20) := GE.seq_step (by kernel_rfl)
theorem n34_21s : codeB Try.prog E cx n34_21 st = some (.normal, st) := GE.skip_step (by kernel_rfl)
theorem n34_17s : codeB Try.prog E cx n34_17 st = condS (codeB Try.prog E cx n34_18) (codeB Try.prog E cx n34_21) (lk st.σ 14) st := GE.cond_step (c := .tmp 14) (by kernel_rfl)
theorem n34_15s : codeB Try.prog E cx n34_15 st = thenS (codeB Try.prog E cx n34_16 st) (codeB Try.prog E cx n34_17) := GE.seq_step (by kernel_rfl)
theorem n34_14s : codeB Try.prog E cx n34_14 st = blockS 1 (codeB Try.prog E cx n34_15 st) st := GE.block_step (by kernel_rfl)
theorem n34_22s : codeB Try.prog E ⟨f, 18, b, ro⟩ n34_22 st = plainS (runOps Try.prog E b q34_22 (ops [true, false, true, false, false, true, true] Try.f34) st) := GE.region_step (id := 3) (GE.reg_of (by kernel_rfl)) (by kernel_rfl)
theorem n34_13s : codeB Try.prog E cx n34_13 st = thenS (codeB Try.prog E cx n34_14 st) (codeB Try.prog E cx n34_22) := GE.seq_step (by kernel_rfl)
theorem n34_7s : codeB Try.prog E cx n34_7 st = thenS (codeB Try.prog E cx n34_8 st) (codeB Try.prog E cx n34_13) := GE.seq_step (by kernel_rfl)
theorem n34_6k : LL.kp (⟨34, 18, b, ro⟩ : Cx).fn (4 * rid n34_7 + 3) = some ⟨[0, 3], []⟩ := by kernel_rfl
theorem n34_6s : codeB Try.prog LL ⟨34, 18, b, ro⟩ n34_6 st = headS b ⟨[0, 3], []⟩ st (lpB Try.prog LL ⟨34, 18, b, ro⟩ n34_6 n34_7) := GE.lpB_step (by kernel_rfl) (n34_6k b ro)
theorem n34_6g : LL.code ⟨34, 18, b, ro⟩ n34_6 st = headS b ⟨[0, 3], []⟩ st (lpB Try.prog LL ⟨34, 18, b, ro⟩ n34_6 n34_7) := GE.lpB_again (by kernel_rfl) (n34_6k b ro)
theorem n34_5s : codeB Try.prog E cx n34_5 st = blockS 0 (codeB Try.prog E cx n34_6 st) st := GE.block_step (by kernel_rfl)
theorem n34_3s : codeB Try.prog E cx n34_3 st = thenS (codeB Try.prog E cx n34_4 st) (codeB Try.prog E cx n34_5) := GE.seq_step (by kernel_rfl)
theorem n34_24s : codeB Try.prog E ⟨f, 18, b, ro⟩ n34_24 st = plainS (runOps Try.prog E b q34_24 (ops [true, true, false] Try.f34) st) := GE.region_step (id := 6) (GE.reg_of (by kernel_rfl)) (by kernel_rfl)
theorem n34_25s : codeB Try.prog LL ⟨34, 18, b, ro⟩ n34_25 st = normS b ⟨[2], []⟩ .ret st := GE.ret_step (by kernel_rfl) (by kernel_rfl)
theorem n34_23s : codeB Try.prog E cx n34_23 st = thenS (codeB Try.prog E cx n34_24 st) (codeB Try.prog E cx n34_25) := GE.seq_step (by kernel_rfl)
theorem n34_2s : codeB Try.prog E cx n34_2 st = thenS (codeB Try.prog E cx n34_3 st) (codeB Try.prog E cx n34_23) := GE.seq_step (by kernel_rfl)
theorem n34_0s : codeB Try.prog E cx n34_0 st = thenS (codeB Try.prog E cx n34_1 st) (codeB Try.prog E cx n34_2) := GE.seq_step (by kernel_rfl)
noncomputable def n35_0 : Code := bodyOf Try.f35
noncomputable def n35_1 : Code := cl n35_0
noncomputable def q35_1 : List Oper := opsOf n35_1
noncomputable def n35_2 : Code := cr n35_0
noncomputable def n35_3 : Code := cl n35_2
noncomputable def q35_3 : List Oper := opsOf n35_3
noncomputable def n35_4 : Code := cr n35_2
theorem body35 : Try.f35.body = some n35_0 := by kernel_rfl
theorem run35 (E : Ev) (args : List Value) (h : List Blk) (hl : args.length ≤ 12) : runB Try.prog E 35 args h = endS Try.prog [.tmp 4] h.length (codeB Try.prog E ⟨35, 12, h.length, none⟩ n35_0 ⟨enumT 0 args, h, []⟩) := GE.run_step Try.func35 body35 (by kernel_rfl) (by decide) (by kernel_rfl) hl
theorem n35_1s : codeB Try.prog E ⟨f, 12, b, ro⟩ n35_1 st = plainS (runOps Try.prog E b q35_1 (ops [false] Try.f35) st) := GE.region_step (id := 0) (GE.reg_of (by kernel_rfl)) (by kernel_rfl)
theorem n35_3s : codeB Try.prog E ⟨f, 12, b, ro⟩ n35_3 st = drawS [0, 0, 3, 0, 0, 24, 63, 127] (runOpsF Try.prog E b q35_3 (ops [true, false] Try.f35) st) := GE.draw_step (id := 1) (GE.reg_of (by kernel_rfl)) (by kernel_rfl) (by kernel_rfl) (by kernel_rfl)
theorem n35_4s : codeB Try.prog LL ⟨35, 12, b, ro⟩ n35_4 st = normS b ⟨[4], []⟩ .ret st := GE.ret_step (by kernel_rfl) (by kernel_rfl)
theorem n35_2s : codeB Try.prog E cx n35_2 st = thenS (codeB Try.prog E cx n35_3 st) (codeB Try.prog E cx n35_4) := GE.seq_step (by kernel_rfl)
theorem n35_0s : codeB Try.prog E cx n35_0 st = thenS (codeB Try.prog E cx n35_1 st) (codeB Try.prog E cx n35_2) := GE.seq_step (by kernel_rfl)
noncomputable def n40_0 : Code := bodyOf Try.f40
noncomputable def n40_1 : Code := cl n40_0
noncomputable def q40_1 : List Oper := opsOf n40_1
noncomputable def n40_2 : Code := cr n40_0
noncomputable def n40_3 : Code := cl n40_2
noncomputable def q40_3 : List Oper := opsOf n40_3
noncomputable def n40_4 : Code := cr n40_2
theorem body40 : Try.f40.body = some n40_0 := by kernel_rfl
theorem run40 (E : Ev) (args : List Value) (h : List Blk) (hl : args.length ≤ 6) : runB Try.prog E 40 args h = endS Try.prog [.tmp 4] h.length (codeB Try.prog E ⟨40, 6, h.length, none⟩ n40_0 ⟨enumT 0 args, h, []⟩) := GE.run_step Try.func40 body40 (by kernel_rfl) (by decide) (by kernel_rfl) hl
theorem n40_1s : codeB Try.prog E ⟨f, 6, b, ro⟩ n40_1 st = plainS (runOps Try.prog E b q40_1 (ops [false] Try.f40) st) := GE.region_step (id := 0) (GE.reg_of (by kernel_rfl)) (by kernel_rfl)
theorem n40_3s : codeB Try.prog E ⟨f, 6, b, ro⟩ n40_3 st = plainS (runOps Try.prog E b q40_3 (ops [true, false] Try.f40) st) := GE.region_step (id := 1) (GE.reg_of (by kernel_rfl)) (by kernel_rfl)
theorem n40_4s : codeB Try.prog LL ⟨40, 6, b, ro⟩ n40_4 st = normS b ⟨[4], []⟩ .ret st := GE.ret_step (by kernel_rfl) (by kernel_rfl)
theorem n40_2s : codeB Try.prog E cx n40_2 st = thenS (codeB Try.prog E cx n40_3 st) (codeB Try.prog E cx n40_4) := GE.seq_step (by kernel_rfl)
theorem n40_0s : codeB Try.prog E cx n40_0 st = thenS (codeB Try.prog E cx n40_1 st) (codeB Try.prog E cx n40_2) := GE.seq_step (by kernel_rfl)
noncomputable def n42_0 : Code := bodyOf Try.f42
noncomputable def n42_1 : Code := cl n42_0
noncomputable def q42_1 : List Oper := opsOf n42_1
noncomputable def n42_2 : Code := cr n42_0
noncomputable def n42_3 : Code := cl n42_2
noncomputable def n42_4 : Code := cl n42_3
noncomputable def q42_4 : List Oper := opsOf n42_4
noncomputable def n42_5 : Code := cr n42_3
noncomputable def n42_6 : Code := cl n42_5
noncomputable def n42_7 : Code := cl n42_6
noncomputable def n42_8 : Code := cl n42_7
noncomputable def q42_8 : List Oper := opsOf n42_8
noncomputable def n42_9 : Code := cr n42_7
noncomputable def n42_10 : Code := cl n42_9
noncomputable def n42_11 : Code := cl n42_10
noncomputable def n42_12 : Code := cr n42_10
noncomputable def n42_13 : Code := cr n42_9
noncomputable def n42_14 : Code := cl n42_13
noncomputable def n42_15 : Code := cl n42_14
noncomputable def q42_15 : List Oper := opsOf n42_15
noncomputable def n42_16 : Code := cr n42_14
noncomputable def n42_17 : Code := cl n42_16
noncomputable def q42_17 : List Oper := opsOf n42_17
noncomputable def n42_18 : Code := cr n42_16
noncomputable def n42_19 : Code := cl n42_18
noncomputable def n42_20 : Code := cl n42_19
noncomputable def q42_20 : List Oper := opsOf n42_20
noncomputable def n42_21 : Code := cr n42_19
noncomputable def n42_22 : Code := cr n42_18
noncomputable def n42_23 : Code := cr n42_2
noncomputable def n42_24 : Code := cl n42_23
noncomputable def q42_24 : List Oper := opsOf n42_24
noncomputable def n42_25 : Code := cr n42_23
theorem body42 : Try.f42.body = some n42_0 := by kernel_rfl
theorem run42 (E : Ev) (args : List Value) (h : List Blk) (hl : args.length ≤ 16) : runB Try.prog E 42 args h = endS Try.prog [.tmp 4] h.length (codeB Try.prog E ⟨42, 16, h.length, none⟩ n42_0 ⟨enumT 0 args, h, []⟩) := GE.run_step Try.func42 body42 (by kernel_rfl) (by decide) (by kernel_rfl) hl
theorem n42_1s : codeB Try.prog E ⟨f, 16, b, ro⟩ n42_1 st = plainS (runOps Try.prog E b q42_1 (ops [false] Try.f42) st) := GE.region_step (id := 0) (GE.reg_of (by kernel_rfl)) (by kernel_rfl)
theorem n42_4s : codeB Try.prog E ⟨f, 16, b, ro⟩ n42_4 st = plainS (runOps Try.prog E b q42_4 (ops [true, false, false] Try.f42) st) := GE.region_step (id := 1) (GE.reg_of (by kernel_rfl)) (by kernel_rfl)
theorem n42_8s : codeB Try.prog E ⟨f, 16, b, ro⟩ n42_8 st = plainS (runOps Try.prog E b q42_8 (ops [true, false, true, false, false, false] Try.f42) st) := GE.region_step (id := 2) (GE.reg_of (by kernel_rfl)) (by kernel_rfl)
theorem n42_11s : codeB Try.prog E cx n42_11 st = some (.normal, st) := GE.skip_step (by kernel_rfl)
theorem n42_12s : codeB Try.prog LL ⟨42, 16, b, ro⟩ n42_12 st = normS b ⟨[], []⟩ (.exit 0) st := GE.exit_step (by kernel_rfl) (by kernel_rfl)
theorem n42_10s : codeB Try.prog E cx n42_10 st = condS (codeB Try.prog E cx n42_11) (codeB Try.prog E cx n42_12) (lk st.σ 10) st := GE.cond_step (c := .tmp 10) (by kernel_rfl)
theorem n42_15s : codeB Try.prog E ⟨f, 16, b, ro⟩ n42_15 st = plainS (runOps Try.prog E b q42_15 (ops [true, false, true, false, false, true, true, false, false] Try.f42) st) := GE.region_step (id := 3) (GE.reg_of (by kernel_rfl)) (by kernel_rfl)
theorem n42_17s : codeB Try.prog E ⟨f, 16, b, ro⟩ n42_17 st = plainS (runOps Try.prog E b q42_17 (ops [true, false, true, false, false, true, true, false, true, false] Try.f42) st) := GE.region_step (id := 4) (GE.reg_of (by kernel_rfl)) (by kernel_rfl)
theorem n42_20s : codeB Try.prog E ⟨f, 16, b, ro⟩ n42_20 st = plainS (runOps Try.prog E b q42_20 (ops [true, false, true, false, false, true, true, false, true, true, false, false] Try.f42) st) := GE.region_step (id := 5) (GE.reg_of (by kernel_rfl)) (by kernel_rfl)
theorem n42_21s : codeB Try.prog LL ⟨42, 16, b, ro⟩ n42_21 st = normS b ⟨[4], []⟩ .ret st := GE.ret_step (by kernel_rfl) (by kernel_rfl)
theorem n42_19s : codeB Try.prog E cx n42_19 st = thenS (codeB Try.prog E cx n42_20 st) (codeB Try.prog E cx n42_21) := GE.seq_step (by kernel_rfl)
theorem n42_22s : codeB Try.prog E cx n42_22 st = some (.normal, st) := GE.skip_step (by kernel_rfl)
theorem n42_18s : codeB Try.prog E cx n42_18 st = condS (codeB Try.prog E cx n42_19) (codeB Try.prog E cx n42_22) (lk st.σ 15) st := GE.cond_step (c := .tmp 15) (by kernel_rfl)
theorem n42_16s : codeB Try.prog E cx n42_16 st = thenS (codeB Try.prog E cx n42_17 st) (codeB Try.prog E cx n42_18) := GE.seq_step (by kernel_rfl)
theorem n42_14s : codeB Try.prog E cx n42_14 st = thenS (codeB Try.prog E cx n42_15 st) (codeB Try.prog E cx n42_16) := GE.seq_step (by kernel_rfl)
theorem n42_13s : codeB Try.prog E cx n42_13 st = blockS 1 (codeB Try.prog E cx n42_14 st) st := GE.block_step (by kernel_rfl)
theorem n42_9s : codeB Try.prog E cx n42_9 st = thenS (codeB Try.prog E cx n42_10 st) (codeB Try.prog E cx n42_13) := GE.seq_step (by kernel_rfl)
theorem n42_7s : codeB Try.prog E cx n42_7 st = thenS (codeB Try.prog E cx n42_8 st) (codeB Try.prog E cx n42_9) := GE.seq_step (by kernel_rfl)
theorem n42_6k : LL.kp (⟨42, 16, b, ro⟩ : Cx).fn (4 * rid n42_7 + 3) = some ⟨[1, 8], []⟩ := by kernel_rfl
theorem n42_6s : codeB Try.prog LL ⟨42, 16, b, ro⟩ n42_6 st = headS b ⟨[1, 8], []⟩ st (lpB Try.prog LL ⟨42, 16, b, ro⟩ n42_6 n42_7) := GE.lpB_step (by kernel_rfl) (n42_6k b ro)
theorem n42_6g : LL.code ⟨42, 16, b, ro⟩ n42_6 st = headS b ⟨[1, 8], []⟩ st (lpB Try.prog LL ⟨42, 16, b, ro⟩ n42_6 n42_7) := GE.lpB_again (by kernel_rfl) (n42_6k b ro)
theorem n42_5s : codeB Try.prog E cx n42_5 st = blockS 0 (codeB Try.prog E cx n42_6 st) st := GE.block_step (by kernel_rfl)
theorem n42_3s : codeB Try.prog E cx n42_3 st = thenS (codeB Try.prog E cx n42_4 st) (codeB Try.prog E cx n42_5) := GE.seq_step (by kernel_rfl)
theorem n42_24s : codeB Try.prog E ⟨f, 16, b, ro⟩ n42_24 st = plainS (runOps Try.prog E b q42_24 (ops [true, true, false] Try.f42) st) := GE.region_step (id := 6) (GE.reg_of (by kernel_rfl)) (by kernel_rfl)
theorem n42_25s : codeB Try.prog LL ⟨42, 16, b, ro⟩ n42_25 st = normS b ⟨[4], []⟩ .ret st := GE.ret_step (by kernel_rfl) (by kernel_rfl)
theorem n42_23s : codeB Try.prog E cx n42_23 st = thenS (codeB Try.prog E cx n42_24 st) (codeB Try.prog E cx n42_25) := GE.seq_step (by kernel_rfl)
theorem n42_2s : codeB Try.prog E cx n42_2 st = thenS (codeB Try.prog E cx n42_3 st) (codeB Try.prog E cx n42_23) := GE.seq_step (by kernel_rfl)
theorem n42_0s : codeB Try.prog E cx n42_0 st = thenS (codeB Try.prog E cx n42_1 st) (codeB Try.prog E cx n42_2) := GE.seq_step (by kernel_rfl)
noncomputable def n55_0 : Code := bodyOf Try.f55
noncomputable def n55_1 : Code := cl n55_0
noncomputable def q55_1 : List Oper := opsOf n55_1
noncomputable def n55_2 : Code := cr n55_0
noncomputable def n55_3 : Code := cl n55_2
noncomputable def q55_3 : List Oper := opsOf n55_3
noncomputable def n55_4 : Code := cr n55_2
noncomputable def n55_5 : Code := cl n55_4
noncomputable def n55_6 : Code := cl n55_5
noncomputable def n55_7 : Code := cl n55_6
noncomputable def q55_7 : List Oper := opsOf n55_7
noncomputable def n55_8 : Code := cr n55_6
noncomputable def n55_9 : Code := cl n55_8
noncomputable def n55_10 : Code := cl n55_9
noncomputable def n55_11 : Code := cr n55_9
noncomputable def n55_12 : Code := cr n55_8
noncomputable def n55_13 : Code := cl n55_12
noncomputable def n55_14 : Code := cl n55_13
noncomputable def q55_14 : List Oper := opsOf n55_14
noncomputable def n55_15 : Code := cr n55_13
noncomputable def n55_16 : Code := cl n55_15
noncomputable def q55_16 : List Oper := opsOf n55_16
noncomputable def n55_17 : Code := cr n55_15
noncomputable def n55_18 : Code := cl n55_17
noncomputable def n55_19 : Code := cr n55_17
theorem body55 : Try.f55.body = some n55_0 := by kernel_rfl
theorem run55 (E : Ev) (args : List Value) (h : List Blk) (hl : args.length ≤ 28) : runB Try.prog E 55 args h = endS Try.prog [] h.length (codeB Try.prog E ⟨55, 28, h.length, none⟩ n55_0 ⟨enumT 0 args, h, []⟩) := GE.run_step Try.func55 body55 (by kernel_rfl) (by decide) (by kernel_rfl) hl
theorem n55_1s : codeB Try.prog E ⟨f, 28, b, ro⟩ n55_1 st = drawS [0, 0, 0, 4, 14, 30, 63, 127] (runOpsF Try.prog E b q55_1 (ops [false] Try.f55) st) := GE.draw_step (id := 0) (GE.reg_of (by kernel_rfl)) (by kernel_rfl) (by kernel_rfl) (by kernel_rfl)
theorem n55_3s : codeB Try.prog E ⟨f, 28, b, ro⟩ n55_3 st = plainS (runOps Try.prog E b q55_3 (ops [true, false] Try.f55) st) := GE.region_step (id := 1) (GE.reg_of (by kernel_rfl)) (by kernel_rfl)
theorem n55_7s : codeB Try.prog E ⟨f, 28, b, ro⟩ n55_7 st = plainS (runOps Try.prog E b q55_7 (ops [true, true, false, false, false] Try.f55) st) := GE.region_step (id := 2) (GE.reg_of (by kernel_rfl)) (by kernel_rfl)
theorem n55_10s : codeB Try.prog E cx n55_10 st = some (.normal, st) := GE.skip_step (by kernel_rfl)
theorem n55_11s : codeB Try.prog LL ⟨55, 28, b, ro⟩ n55_11 st = normS b ⟨[], []⟩ (.exit 0) st := GE.exit_step (by kernel_rfl) (by kernel_rfl)
theorem n55_9s : codeB Try.prog E cx n55_9 st = condS (codeB Try.prog E cx n55_10) (codeB Try.prog E cx n55_11) (lk st.σ 16) st := GE.cond_step (c := .tmp 16) (by kernel_rfl)
theorem n55_14s : codeB Try.prog E ⟨f, 28, b, ro⟩ n55_14 st = plainS (runOps Try.prog E b q55_14 (ops [true, true, false, false, true, true, false, false] Try.f55) st) := GE.region_step (id := 3) (GE.reg_of (by kernel_rfl)) (by kernel_rfl)
theorem n55_16s : codeB Try.prog E ⟨f, 28, b, ro⟩ n55_16 st = plainS (runOps Try.prog E b q55_16 (ops [true, true, false, false, true, true, false, true, false] Try.f55) st) := GE.region_step (id := 4) (GE.reg_of (by kernel_rfl)) (by kernel_rfl)
theorem n55_18s : codeB Try.prog LL ⟨55, 28, b, ro⟩ n55_18 st = normS b ⟨[], []⟩ .ret st := GE.ret_step (by kernel_rfl) (by kernel_rfl)
theorem n55_19s : codeB Try.prog E cx n55_19 st = some (.normal, st) := GE.skip_step (by kernel_rfl)
theorem n55_17s : codeB Try.prog E cx n55_17 st = condS (codeB Try.prog E cx n55_18) (codeB Try.prog E cx n55_19) (lk st.σ 27) st := GE.cond_step (c := .tmp 27) (by kernel_rfl)
theorem n55_15s : codeB Try.prog E cx n55_15 st = thenS (codeB Try.prog E cx n55_16 st) (codeB Try.prog E cx n55_17) := GE.seq_step (by kernel_rfl)
theorem n55_13s : codeB Try.prog E cx n55_13 st = thenS (codeB Try.prog E cx n55_14 st) (codeB Try.prog E cx n55_15) := GE.seq_step (by kernel_rfl)
theorem n55_12s : codeB Try.prog E cx n55_12 st = blockS 1 (codeB Try.prog E cx n55_13 st) st := GE.block_step (by kernel_rfl)
theorem n55_8s : codeB Try.prog E cx n55_8 st = thenS (codeB Try.prog E cx n55_9 st) (codeB Try.prog E cx n55_12) := GE.seq_step (by kernel_rfl)
theorem n55_6s : codeB Try.prog E cx n55_6 st = thenS (codeB Try.prog E cx n55_7 st) (codeB Try.prog E cx n55_8) := GE.seq_step (by kernel_rfl)
theorem n55_5k : LL.kp (⟨55, 28, b, ro⟩ : Cx).fn (4 * rid n55_6 + 3) = some ⟨[0, 2, 4, 14], []⟩ := by kernel_rfl
theorem n55_5s : codeB Try.prog LL ⟨55, 28, b, ro⟩ n55_5 st = headS b ⟨[0, 2, 4, 14], []⟩ st (lpB Try.prog LL ⟨55, 28, b, ro⟩ n55_5 n55_6) := GE.lpB_step (by kernel_rfl) (n55_5k b ro)
theorem n55_5g : LL.code ⟨55, 28, b, ro⟩ n55_5 st = headS b ⟨[0, 2, 4, 14], []⟩ st (lpB Try.prog LL ⟨55, 28, b, ro⟩ n55_5 n55_6) := GE.lpB_again (by kernel_rfl) (n55_5k b ro)
theorem n55_4s : codeB Try.prog E cx n55_4 st = blockS 0 (codeB Try.prog E cx n55_5 st) st := GE.block_step (by kernel_rfl)
theorem n55_2s : codeB Try.prog E cx n55_2 st = thenS (codeB Try.prog E cx n55_3 st) (codeB Try.prog E cx n55_4) := GE.seq_step (by kernel_rfl)
theorem n55_0s : codeB Try.prog E cx n55_0 st = thenS (codeB Try.prog E cx n55_1 st) (codeB Try.prog E cx n55_2) := GE.seq_step (by kernel_rfl)
theorem ia_46 : aggK Try.prog 46 = some (true, 2) := by kernel_rfl
theorem cv_5_3 : convK Try.prog 5 3 = some .i64 := by kernel_rfl
theorem za_9 : zeroA Try.prog 9 = some (.string .empty) := by kernel_rfl
theorem za_3 : zeroA Try.prog 3 = some (.int .i64 (0)) := by kernel_rfl
theorem sz_9 : aggSize Try.prog 9 = some 1 := by kernel_rfl
theorem sz_3 : aggSize Try.prog 3 = some 1 := by kernel_rfl
theorem ia_9 : aggK Try.prog 9 = some (false, 1) := by kernel_rfl
theorem ia_3 : aggK Try.prog 3 = some (false, 1) := by kernel_rfl
theorem fa_46_1 : fieldAt Try.prog 46 1 = some (1, 1) := by kernel_rfl
theorem ia_5 : aggK Try.prog 5 = some (false, 1) := by kernel_rfl
theorem lk_51 : lenK Try.prog 51 = some .sl := by kernel_rfl
theorem fa_46_0 : fieldAt Try.prog 46 0 = some (0, 1) := by kernel_rfl
theorem ia_44 : aggK Try.prog 44 = some (false, 1) := by kernel_rfl
theorem cv_44_5 : convK Try.prog 44 5 = some .u8 := by kernel_rfl
theorem es_51 : elemK Try.prog 51 = some (none, 1) := by kernel_rfl
theorem sz_5 : aggSize Try.prog 5 = some 1 := by kernel_rfl

end Go.Proofs.Ytjimphlkhjmaiaa.sw
