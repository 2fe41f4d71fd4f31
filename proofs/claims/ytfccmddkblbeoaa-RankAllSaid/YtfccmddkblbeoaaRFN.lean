/-
  Names for the nodes of the code of some functions (projections of their bodies), the step of each node, and the facts of types that they use.
-/
import Derived.Test.YtfccmddkblbeoaaKp
namespace Go.Proofs.Ytfccmddkblbeoaa.rk
open Go.GE
set_option maxRecDepth 100000
variable (E : Ev) (cx : Cx) (st : St) (f nt b : Nat) (ro : Option Nat)
noncomputable def n6_0 : Code := bodyOf Try.f6
noncomputable def n6_1 : Code := cl n6_0
noncomputable def q6_1 : List Oper := opsOf n6_1
noncomputable def n6_2 : Code := cr n6_0
noncomputable def n6_3 : Code := cl n6_2
noncomputable def q6_3 : List Oper := opsOf n6_3
noncomputable def n6_4 : Code := cr n6_2
noncomputable def n6_5 : Code := cl n6_4
noncomputable def q6_5 : List Oper := opsOf n6_5
noncomputable def n6_6 : Code := cr n6_4
noncomputable def n6_7 : Code := cl n6_6
noncomputable def q6_7 : List Oper := opsOf n6_7
noncomputable def n6_8 : Code := cr n6_6
noncomputable def n6_9 : Code := cl n6_8
noncomputable def q6_9 : List Oper := opsOf n6_9
noncomputable def n6_10 : Code := cr n6_8
noncomputable def n6_11 : Code := cl n6_10
noncomputable def n6_12 : Code := cl n6_11
noncomputable def q6_12 : List Oper := opsOf n6_12
noncomputable def n6_13 : Code := cr n6_11
noncomputable def n6_14 : Code := cl n6_13
noncomputable def n6_15 : Code := cl n6_14
noncomputable def q6_15 : List Oper := opsOf n6_15
noncomputable def n6_16 : Code := cr n6_14
noncomputable def n6_17 : Code := cr n6_13
noncomputable def n6_18 : Code := cr n6_10
noncomputable def n6_19 : Code := cl n6_18
noncomputable def n6_20 : Code := cl n6_19
noncomputable def q6_20 : List Oper := opsOf n6_20
noncomputable def n6_21 : Code := cr n6_19
noncomputable def n6_22 : Code := cl n6_21
noncomputable def n6_23 : Code := cl n6_22
noncomputable def n6_24 : Code := cl n6_23
noncomputable def q6_24 : List Oper := opsOf n6_24
noncomputable def n6_25 : Code := cr n6_23
noncomputable def n6_26 : Code := cl n6_25
noncomputable def n6_27 : Code := cl n6_26
noncomputable def n6_28 : Code := cr n6_26
noncomputable def n6_29 : Code := cr n6_25
noncomputable def n6_30 : Code := cl n6_29
noncomputable def n6_31 : Code := cl n6_30
noncomputable def n6_32 : Code := cl n6_31
noncomputable def q6_32 : List Oper := opsOf n6_32
noncomputable def n6_33 : Code := cr n6_31
noncomputable def n6_34 : Code := cl n6_33
noncomputable def q6_34 : List Oper := opsOf n6_34
noncomputable def n6_35 : Code := cr n6_33
noncomputable def n6_36 : Code := cl n6_35
noncomputable def q6_36 : List Oper := opsOf n6_36
noncomputable def n6_37 : Code := cr n6_35
noncomputable def n6_38 : Code := cl n6_37
noncomputable def q6_38 : List Oper := opsOf n6_38
noncomputable def n6_39 : Code := cr n6_37
noncomputable def n6_40 : Code := cl n6_39
noncomputable def n6_41 : Code := cl n6_40
noncomputable def q6_41 : List Oper := opsOf n6_41
noncomputable def n6_42 : Code := cr n6_40
noncomputable def n6_43 : Code := cr n6_39
noncomputable def n6_44 : Code := cr n6_29
noncomputable def q6_44 : List Oper := opsOf n6_44
noncomputable def n6_45 : Code := cr n6_18
noncomputable def n6_46 : Code := cl n6_45
noncomputable def q6_46 : List Oper := opsOf n6_46
noncomputable def n6_47 : Code := cr n6_45
noncomputable def n6_48 : Code := cl n6_47
noncomputable def q6_48 : List Oper := opsOf n6_48
noncomputable def n6_49 : Code := cr n6_47
noncomputable def n6_50 : Code := cl n6_49
noncomputable def q6_50 : List Oper := opsOf n6_50
noncomputable def n6_51 : Code := cr n6_49
theorem body6 : Try.f6.body = some n6_0 := by kernel_rfl
theorem run6 (E : Ev) (args : List Value) (h : List Blk) (hl : args.length ≤ 116) : runB Try.prog E 6 args h = endS Try.prog [.tmp 2] h.length (codeB Try.prog E ⟨6, 116, h.length, none⟩ n6_0 ⟨enumT 0 args, h, []⟩) := GE.run_step Try.func6 body6 (by kernel_rfl) (by decide) (by kernel_rfl) hl
theorem n6_1s : codeB Try.prog E ⟨f, 116, b, ro⟩ n6_1 st = plainS (runOps Try.prog E b q6_1 (ops [false] Try.f6) st) := GE.region_step (id := 0) (GE.reg_of (by kernel_rfl)) (by kernel_rfl)
theorem n6_3s : codeB Try.prog E ⟨f, 116, b, ro⟩ n6_3 st = plainS (runOps Try.prog E b q6_3 (ops [true, false] Try.f6) st) := GE.region_step (id := 1) (GE.reg_of (by kernel_rfl)) (by kernel_rfl)
theorem n6_5s : codeB Try.prog E ⟨f, 116, b, ro⟩ n6_5 st = plainS (runOps Try.prog E b q6_5 (ops [true, true, false] Try.f6) st) := GE.region_step (id := 2) (GE.reg_of (by kernel_rfl)) (by kernel_rfl)
theorem n6_7s : codeB Try.prog E ⟨f, 116, b, ro⟩ n6_7 st = plainS (runOps Try.prog E b q6_7 (ops [true, true, true, false] Try.f6) st) := GE.region_step (id := 3) (GE.reg_of (by kernel_rfl)) (by kernel_rfl)
theorem n6_9s : codeB Try.prog E ⟨f, 116, b, ro⟩ n6_9 st = plainS (runOps Try.prog E b q6_9 (ops [true, true, true, true, false] Try.f6) st) := GE.region_step (id := 4) (GE.reg_of (by kernel_rfl)) (by kernel_rfl)
theorem q6_12g2 : gd q6_12 2 = some 31 := by kernel_rfl
theorem q6_12g6 : gd q6_12 6 = some 35 := by kernel_rfl
theorem q6_12g12 : gd q6_12 12 = some 41 := by kernel_rfl
theorem q6_12g16 : gd q6_12 16 = some 45 := by kernel_rfl
theorem n6_12s : codeB Try.prog E ⟨f, 116, b, ro⟩ n6_12 st = plainS (runOps Try.prog E b q6_12 (ops [true, true, true, true, true, false, false] Try.f6) st) := GE.region_step (id := 5) (GE.reg_of (by kernel_rfl)) (by kernel_rfl)
theorem n6_15s : codeB Try.prog E ⟨f, 116, b, ro⟩ n6_15 st = plainS (runOps Try.prog E b q6_15 (ops [true, true, true, true, true, false, true, false, false] Try.f6) st) := GE.region_step (id := 6) (GE.reg_of (by kernel_rfl)) (by kernel_rfl)
theorem n6_16s : codeB Try.prog LL ⟨6, 116, b, ro⟩ n6_16 st = normS b ⟨[2], []⟩ .ret st := GE.ret_step (by kernel_rfl) (by kernel_rfl)
theorem n6_14s : codeB Try.prog E cx n6_14 st = thenS (codeB Try.prog E cx n6_15 st) (codeB Try.prog E cx n6_16) := GE.seq_step (by kernel_rfl)
theorem n6_17s : codeB Try.prog E cx n6_17 st = some (.normal, st) := GE.skip_step (by kernel_rfl)
theorem n6_13s : codeB Try.prog E cx n6_13 st = condS (codeB Try.prog E cx n6_14) (codeB Try.prog E cx n6_17) (lk st.σ 52) st := GE.cond_step (c := .tmp 52) (by kernel_rfl)
theorem n6_11s : codeB Try.prog E cx n6_11 st = thenS (codeB Try.prog E cx n6_12 st) (codeB Try.prog E cx n6_13) := GE.seq_step (by kernel_rfl)
theorem n6_20s : codeB Try.prog E ⟨f, 116, b, ro⟩ n6_20 st = plainS (runOps Try.prog E b q6_20 (ops [true, true, true, true, true, true, false, false] Try.f6) st) := GE.region_step (id := 7) (GE.reg_of (by kernel_rfl)) (by kernel_rfl)
theorem n6_24s : codeB Try.prog E ⟨f, 116, b, ro⟩ n6_24 st = plainS (runOps Try.prog E b q6_24 (ops [true, true, true, true, true, true, false, true, false, false, false] Try.f6) st) := GE.region_step (id := 8) (GE.reg_of (by kernel_rfl)) (by kernel_rfl)
theorem n6_27s : codeB Try.prog E cx n6_27 st = some (.normal, st) := GE.skip_step (by kernel_rfl)
theorem n6_28s : codeB Try.prog LL ⟨6, 116, b, ro⟩ n6_28 st = normS b ⟨[3, 5], [⟨3, 0, 2, true⟩]⟩ (.exit 0) st := GE.exit_step (by kernel_rfl) (by kernel_rfl)
theorem n6_26s : codeB Try.prog E cx n6_26 st = condS (codeB Try.prog E cx n6_27) (codeB Try.prog E cx n6_28) (lk st.σ 56) st := GE.cond_step (c := .tmp 56) (by kernel_rfl)
theorem n6_32s : codeB Try.prog E ⟨f, 116, b, ro⟩ n6_32 st = plainS (runOps Try.prog E b q6_32 (ops [true, true, true, true, true, true, false, true, false, false, true, true, false, false, false] Try.f6) st) := GE.region_step (id := 9) (GE.reg_of (by kernel_rfl)) (by kernel_rfl)
theorem n6_34s : codeB Try.prog E ⟨f, 116, b, ro⟩ n6_34 st = plainS (runOps Try.prog E b q6_34 (ops [true, true, true, true, true, true, false, true, false, false, true, true, false, false, true, false] Try.f6) st) := GE.region_step (id := 10) (GE.reg_of (by kernel_rfl)) (by kernel_rfl)
theorem n6_36s : codeB Try.prog E ⟨f, 116, b, ro⟩ n6_36 st = plainS (runOps Try.prog E b q6_36 (ops [true, true, true, true, true, true, false, true, false, false, true, true, false, false, true, true, false] Try.f6) st) := GE.region_step (id := 11) (GE.reg_of (by kernel_rfl)) (by kernel_rfl)
theorem q6_38g2 : gd q6_38 2 = some 74 := by kernel_rfl
theorem q6_38g6 : gd q6_38 6 = some 78 := by kernel_rfl
theorem q6_38g11 : gd q6_38 11 = some 83 := by kernel_rfl
theorem q6_38g17 : gd q6_38 17 = some 89 := by kernel_rfl
theorem n6_38s : codeB Try.prog E ⟨f, 116, b, ro⟩ n6_38 st = plainS (runOps Try.prog E b q6_38 (ops [true, true, true, true, true, true, false, true, false, false, true, true, false, false, true, true, true, false] Try.f6) st) := GE.region_step (id := 12) (GE.reg_of (by kernel_rfl)) (by kernel_rfl)
theorem n6_41s : codeB Try.prog E ⟨f, 116, b, ro⟩ n6_41 st = plainS (runOps Try.prog E b q6_41 (ops [true, true, true, true, true, true, false, true, false, false, true, true, false, false, true, true, true, true, false, false] Try.f6) st) := GE.region_step (id := 13) (GE.reg_of (by kernel_rfl)) (by kernel_rfl)
theorem n6_42s : codeB Try.prog LL ⟨6, 116, b, ro⟩ n6_42 st = normS b ⟨[2], []⟩ .ret st := GE.ret_step (by kernel_rfl) (by kernel_rfl)
theorem n6_40s : codeB Try.prog E cx n6_40 st = thenS (codeB Try.prog E cx n6_41 st) (codeB Try.prog E cx n6_42) := GE.seq_step (by kernel_rfl)
theorem n6_43s : codeB Try.prog E cx n6_43 st = some (.normal, st) := GE.skip_step (by kernel_rfl)
theorem n6_39s : codeB Try.prog E cx n6_39 st = condS (codeB Try.prog E cx n6_40) (codeB Try.prog E cx n6_43) (lk st.σ 94) st := GE.cond_step (c := .tmp 94) (by kernel_rfl)
theorem n6_37s : codeB Try.prog E cx n6_37 st = thenS (codeB Try.prog E cx n6_38 st) (codeB Try.prog E cx n6_39) := GE.seq_step (by kernel_rfl)
theorem n6_35s : codeB Try.prog E cx n6_35 st = thenS (codeB Try.prog E cx n6_36 st) (codeB Try.prog E cx n6_37) := GE.seq_step (by kernel_rfl)
theorem n6_33s : codeB Try.prog E cx n6_33 st = thenS (codeB Try.prog E cx n6_34 st) (codeB Try.prog E cx n6_35) := GE.seq_step (by kernel_rfl)
theorem n6_31s : codeB Try.prog E cx n6_31 st = thenS (codeB Try.prog E cx n6_32 st) (codeB Try.prog E cx n6_33) := GE.seq_step (by kernel_rfl)
theorem n6_30s : codeB Try.prog E cx n6_30 st = blockS 1 (codeB Try.prog E cx n6_31 st) st := GE.block_step (by kernel_rfl)
theorem n6_44s : codeB Try.prog E ⟨f, 116, b, ro⟩ n6_44 st = plainS (runOps Try.prog E b q6_44 (ops [true, true, true, true, true, true, false, true, false, false, true, true, true] Try.f6) st) := GE.region_step (id := 14) (GE.reg_of (by kernel_rfl)) (by kernel_rfl)
theorem n6_29s : codeB Try.prog E cx n6_29 st = thenS (codeB Try.prog E cx n6_30 st) (codeB Try.prog E cx n6_44) := GE.seq_step (by kernel_rfl)
theorem n6_25s : codeB Try.prog E cx n6_25 st = thenS (codeB Try.prog E cx n6_26 st) (codeB Try.prog E cx n6_29) := GE.seq_step (by kernel_rfl)
theorem n6_23s : codeB Try.prog E cx n6_23 st = thenS (codeB Try.prog E cx n6_24 st) (codeB Try.prog E cx n6_25) := GE.seq_step (by kernel_rfl)
theorem n6_22k : LL.kp (⟨6, 116, b, ro⟩ : Cx).fn (4 * rid n6_23 + 3) = some ⟨[3, 5, 53, 54, 55], [⟨3, 0, 2, true⟩, ⟨53, 0, 1, false⟩]⟩ := by kernel_rfl
theorem n6_22s : codeB Try.prog LL ⟨6, 116, b, ro⟩ n6_22 st = headS b ⟨[3, 5, 53, 54, 55], [⟨3, 0, 2, true⟩, ⟨53, 0, 1, false⟩]⟩ st (lpB Try.prog LL ⟨6, 116, b, ro⟩ n6_22 n6_23) := GE.lpB_step (by kernel_rfl) (n6_22k b ro)
theorem n6_22g : LL.code ⟨6, 116, b, ro⟩ n6_22 st = headS b ⟨[3, 5, 53, 54, 55], [⟨3, 0, 2, true⟩, ⟨53, 0, 1, false⟩]⟩ st (lpB Try.prog LL ⟨6, 116, b, ro⟩ n6_22 n6_23) := GE.lpB_again (by kernel_rfl) (n6_22k b ro)
theorem n6_21s : codeB Try.prog E cx n6_21 st = blockS 0 (codeB Try.prog E cx n6_22 st) st := GE.block_step (by kernel_rfl)
theorem n6_19s : codeB Try.prog E cx n6_19 st = thenS (codeB Try.prog E cx n6_20 st) (codeB Try.prog E cx n6_21) := GE.seq_step (by kernel_rfl)
theorem n6_46s : codeB Try.prog E ⟨f, 116, b, ro⟩ n6_46 st = plainS (runOps Try.prog E b q6_46 (ops [true, true, true, true, true, true, true, false] Try.f6) st) := GE.region_step (id := 15) (GE.reg_of (by kernel_rfl)) (by kernel_rfl)
theorem n6_48s : codeB Try.prog E ⟨f, 116, b, ro⟩ n6_48 st = plainS (runOps Try.prog E b q6_48 (ops [true, true, true, true, true, true, true, true, false] Try.f6) st) := GE.region_step (id := 16) (GE.reg_of (by kernel_rfl)) (by kernel_rfl)
theorem q6_50g2 : gd q6_50 2 = some 109 := by kernel_rfl
theorem q6_50g6 : gd q6_50 6 = some 113 := by kernel_rfl
theorem n6_50s : codeB Try.prog E ⟨f, 116, b, ro⟩ n6_50 st = plainS (runOps Try.prog E b q6_50 (ops [true, true, true, true, true, true, true, true, true, false] Try.f6) st) := GE.region_step (id := 17) (GE.reg_of (by kernel_rfl)) (by kernel_rfl)
theorem n6_51s : codeB Try.prog LL ⟨6, 116, b, ro⟩ n6_51 st = normS b ⟨[2], []⟩ .ret st := GE.ret_step (by kernel_rfl) (by kernel_rfl)
theorem n6_49s : codeB Try.prog E cx n6_49 st = thenS (codeB Try.prog E cx n6_50 st) (codeB Try.prog E cx n6_51) := GE.seq_step (by kernel_rfl)
theorem n6_47s : codeB Try.prog E cx n6_47 st = thenS (codeB Try.prog E cx n6_48 st) (codeB Try.prog E cx n6_49) := GE.seq_step (by kernel_rfl)
theorem n6_45s : codeB Try.prog E cx n6_45 st = thenS (codeB Try.prog E cx n6_46 st) (codeB Try.prog E cx n6_47) := GE.seq_step (by kernel_rfl)
theorem n6_18s : codeB Try.prog E cx n6_18 st = thenS (codeB Try.prog E cx n6_19 st) (codeB Try.prog E cx n6_45) := GE.seq_step (by kernel_rfl)
theorem n6_10s : codeB Try.prog E cx n6_10 st = thenS (codeB Try.prog E cx n6_11 st) (codeB Try.prog E cx n6_18) := GE.seq_step (by kernel_rfl)
theorem n6_8s : codeB Try.prog E cx n6_8 st = thenS (codeB Try.prog E cx n6_9 st) (codeB Try.prog E cx n6_10) := GE.seq_step (by kernel_rfl)
theorem n6_6s : codeB Try.prog E cx n6_6 st = thenS (codeB Try.prog E cx n6_7 st) (codeB Try.prog E cx n6_8) := GE.seq_step (by kernel_rfl)
theorem n6_4s : codeB Try.prog E cx n6_4 st = thenS (codeB Try.prog E cx n6_5 st) (codeB Try.prog E cx n6_6) := GE.seq_step (by kernel_rfl)
theorem n6_2s : codeB Try.prog E cx n6_2 st = thenS (codeB Try.prog E cx n6_3 st) (codeB Try.prog E cx n6_4) := GE.seq_step (by kernel_rfl)
theorem n6_0s : codeB Try.prog E cx n6_0 st = thenS (codeB Try.prog E cx n6_1 st) (codeB Try.prog E cx n6_2) := GE.seq_step (by kernel_rfl)
noncomputable def n15_0 : Code := bodyOf Try.f15
noncomputable def n15_1 : Code := cl n15_0
noncomputable def q15_1 : List Oper := opsOf n15_1
noncomputable def n15_2 : Code := cr n15_0
noncomputable def n15_3 : Code := cl n15_2
noncomputable def n15_4 : Code := cl n15_3
noncomputable def q15_4 : List Oper := opsOf n15_4
noncomputable def n15_5 : Code := cr n15_3
noncomputable def n15_6 : Code := cl n15_5
noncomputable def q15_6 : List Oper := opsOf n15_6
noncomputable def n15_7 : Code := cr n15_5
noncomputable def n15_8 : Code := cl n15_7
noncomputable def n15_9 : Code := cl n15_8
noncomputable def q15_9 : List Oper := opsOf n15_9
noncomputable def n15_10 : Code := cr n15_8
noncomputable def n15_11 : Code := cr n15_7
noncomputable def n15_12 : Code := cr n15_2
noncomputable def n15_13 : Code := cl n15_12
noncomputable def q15_13 : List Oper := opsOf n15_13
noncomputable def n15_14 : Code := cr n15_12
noncomputable def n15_15 : Code := cl n15_14
noncomputable def q15_15 : List Oper := opsOf n15_15
noncomputable def n15_16 : Code := cr n15_14
noncomputable def n15_17 : Code := cl n15_16
noncomputable def q15_17 : List Oper := opsOf n15_17
noncomputable def n15_18 : Code := cr n15_16
theorem body15 : Try.f15.body = some n15_0 := by kernel_rfl
theorem run15 (E : Ev) (args : List Value) (h : List Blk) (hl : args.length ≤ 14) : runB Try.prog E 15 args h = endS Try.prog [.tmp 2, .tmp 3] h.length (codeB Try.prog E ⟨15, 14, h.length, none⟩ n15_0 ⟨enumT 0 args, h, []⟩) := GE.run_step Try.func15 body15 (by kernel_rfl) (by decide) (by kernel_rfl) hl
theorem n15_1s : codeB Try.prog E ⟨f, 14, b, ro⟩ n15_1 st = plainS (runOps Try.prog E b q15_1 (ops [false] Try.f15) st) := GE.region_step (id := 0) (GE.reg_of (by kernel_rfl)) (by kernel_rfl)
theorem n15_4s : codeB Try.prog E ⟨f, 14, b, ro⟩ n15_4 st = plainS (runOps Try.prog E b q15_4 (ops [true, false, false] Try.f15) st) := GE.region_step (id := 1) (GE.reg_of (by kernel_rfl)) (by kernel_rfl)
theorem n15_6s : codeB Try.prog E ⟨f, 14, b, ro⟩ n15_6 st = plainS (runOps Try.prog E b q15_6 (ops [true, false, true, false] Try.f15) st) := GE.region_step (id := 2) (GE.reg_of (by kernel_rfl)) (by kernel_rfl)
theorem n15_9s : codeB Try.prog E ⟨f, 14, b, ro⟩ n15_9 st = plainS (runOps Try.prog E b q15_9 (ops [true, false, true, true, false, false] Try.f15) st) := GE.region_step (id := 3) (GE.reg_of (by kernel_rfl)) (by kernel_rfl)
theorem n15_10s : codeB Try.prog LL ⟨15, 14, b, ro⟩ n15_10 st = normS b ⟨[2, 3], [⟨2, 0, 1, true⟩]⟩ .ret st := GE.ret_step (by kernel_rfl) (by kernel_rfl)
theorem n15_8s : codeB Try.prog E cx n15_8 st = thenS (codeB Try.prog E cx n15_9 st) (codeB Try.prog E cx n15_10) := GE.seq_step (by kernel_rfl)
theorem n15_11s : codeB Try.prog E cx n15_11 st = some (.normal, st) := GE.skip_step (by kernel_rfl)
theorem n15_7s : codeB Try.prog E cx n15_7 st = condS (codeB Try.prog E cx n15_8) (codeB Try.prog E cx n15_11) (lk st.σ 9) st := GE.cond_step (c := .tmp 9) (by kernel_rfl)
theorem n15_5s : codeB Try.prog E cx n15_5 st = thenS (codeB Try.prog E cx n15_6 st) (codeB Try.prog E cx n15_7) := GE.seq_step (by kernel_rfl)
theorem n15_3s : codeB Try.prog E cx n15_3 st = thenS (codeB Try.prog E cx n15_4 st) (codeB Try.prog E cx n15_5) := GE.seq_step (by kernel_rfl)
theorem n15_13s : codeB Try.prog E ⟨f, 14, b, ro⟩ n15_13 st = plainS (runOps Try.prog E b q15_13 (ops [true, true, false] Try.f15) st) := GE.region_step (id := 4) (GE.reg_of (by kernel_rfl)) (by kernel_rfl)
theorem n15_15s : codeB Try.prog E ⟨f, 14, b, ro⟩ n15_15 st = plainS (runOps Try.prog E b q15_15 (ops [true, true, true, false] Try.f15) st) := GE.region_step (id := 5) (GE.reg_of (by kernel_rfl)) (by kernel_rfl)
theorem n15_17s : codeB Try.prog E ⟨f, 14, b, ro⟩ n15_17 st = plainS (runOps Try.prog E b q15_17 (ops [true, true, true, true, false] Try.f15) st) := GE.region_step (id := 6) (GE.reg_of (by kernel_rfl)) (by kernel_rfl)
theorem n15_18s : codeB Try.prog LL ⟨15, 14, b, ro⟩ n15_18 st = normS b ⟨[2, 3], [⟨2, 0, 1, true⟩]⟩ .ret st := GE.ret_step (by kernel_rfl) (by kernel_rfl)
theorem n15_16s : codeB Try.prog E cx n15_16 st = thenS (codeB Try.prog E cx n15_17 st) (codeB Try.prog E cx n15_18) := GE.seq_step (by kernel_rfl)
theorem n15_14s : codeB Try.prog E cx n15_14 st = thenS (codeB Try.prog E cx n15_15 st) (codeB Try.prog E cx n15_16) := GE.seq_step (by kernel_rfl)
theorem n15_12s : codeB Try.prog E cx n15_12 st = thenS (codeB Try.prog E cx n15_13 st) (codeB Try.prog E cx n15_14) := GE.seq_step (by kernel_rfl)
theorem n15_2s : codeB Try.prog E cx n15_2 st = thenS (codeB Try.prog E cx n15_3 st) (codeB Try.prog E cx n15_12) := GE.seq_step (by kernel_rfl)
theorem n15_0s : codeB Try.prog E cx n15_0 st = thenS (codeB Try.prog E cx n15_1 st) (codeB Try.prog E cx n15_2) := GE.seq_step (by kernel_rfl)
noncomputable def n21_0 : Code := bodyOf Try.f21
noncomputable def n21_1 : Code := cl n21_0
noncomputable def q21_1 : List Oper := opsOf n21_1
noncomputable def n21_2 : Code := cr n21_0
noncomputable def n21_3 : Code := cl n21_2
noncomputable def n21_4 : Code := cl n21_3
noncomputable def q21_4 : List Oper := opsOf n21_4
noncomputable def n21_5 : Code := cr n21_3
noncomputable def n21_6 : Code := cl n21_5
noncomputable def n21_7 : Code := cl n21_6
noncomputable def q21_7 : List Oper := opsOf n21_7
noncomputable def n21_8 : Code := cr n21_6
noncomputable def n21_9 : Code := cr n21_5
noncomputable def n21_10 : Code := cr n21_2
noncomputable def n21_11 : Code := cl n21_10
noncomputable def n21_12 : Code := cl n21_11
noncomputable def q21_12 : List Oper := opsOf n21_12
noncomputable def n21_13 : Code := cr n21_11
noncomputable def n21_14 : Code := cl n21_13
noncomputable def n21_15 : Code := cl n21_14
noncomputable def n21_16 : Code := cl n21_15
noncomputable def n21_17 : Code := cl n21_16
noncomputable def q21_17 : List Oper := opsOf n21_17
noncomputable def n21_18 : Code := cr n21_16
noncomputable def n21_19 : Code := cl n21_18
noncomputable def n21_20 : Code := cr n21_18
noncomputable def n21_21 : Code := cr n21_15
noncomputable def n21_22 : Code := cl n21_21
noncomputable def n21_23 : Code := cl n21_22
noncomputable def n21_24 : Code := cl n21_23
noncomputable def q21_24 : List Oper := opsOf n21_24
noncomputable def n21_25 : Code := cr n21_23
noncomputable def n21_26 : Code := cl n21_25
noncomputable def n21_27 : Code := cl n21_26
noncomputable def q21_27 : List Oper := opsOf n21_27
noncomputable def n21_28 : Code := cr n21_26
noncomputable def n21_29 : Code := cr n21_25
noncomputable def n21_30 : Code := cr n21_21
noncomputable def q21_30 : List Oper := opsOf n21_30
noncomputable def n21_31 : Code := cr n21_10
noncomputable def n21_32 : Code := cl n21_31
noncomputable def q21_32 : List Oper := opsOf n21_32
noncomputable def n21_33 : Code := cr n21_31
theorem body21 : Try.f21.body = some n21_0 := by kernel_rfl
theorem run21 (E : Ev) (args : List Value) (h : List Blk) (hl : args.length ≤ 26) : runB Try.prog E 21 args h = endS Try.prog [.tmp 4] h.length (codeB Try.prog E ⟨21, 26, h.length, none⟩ n21_0 ⟨enumT 0 args, h, []⟩) := GE.run_step Try.func21 body21 (by kernel_rfl) (by decide) (by kernel_rfl) hl
theorem n21_1s : codeB Try.prog E ⟨f, 26, b, ro⟩ n21_1 st = plainS (runOps Try.prog E b q21_1 (ops [false] Try.f21) st) := GE.region_step (id := 0) (GE.reg_of (by kernel_rfl)) (by kernel_rfl)
theorem n21_4s : codeB Try.prog E ⟨f, 26, b, ro⟩ n21_4 st = plainS (runOps Try.prog E b q21_4 (ops [true, false, false] Try.f21) st) := GE.region_step (id := 1) (GE.reg_of (by kernel_rfl)) (by kernel_rfl)
theorem n21_7s : codeB Try.prog E ⟨f, 26, b, ro⟩ n21_7 st = plainS (runOps Try.prog E b q21_7 (ops [true, false, true, false, false] Try.f21) st) := GE.region_step (id := 2) (GE.reg_of (by kernel_rfl)) (by kernel_rfl)
theorem n21_8s : codeB Try.prog LL ⟨21, 26, b, ro⟩ n21_8 st = normS b ⟨[4], []⟩ .ret st := GE.ret_step (by kernel_rfl) (by kernel_rfl)
theorem n21_6s : codeB Try.prog E cx n21_6 st = thenS (codeB Try.prog E cx n21_7 st) (codeB Try.prog E cx n21_8) := GE.seq_step (by kernel_rfl)
theorem n21_9s : codeB Try.prog E cx n21_9 st = some (.normal, st) := GE.skip_step (by kernel_rfl)
theorem n21_5s : codeB Try.prog E cx n21_5 st = condS (codeB Try.prog E cx n21_6) (codeB Try.prog E cx n21_9) (lk st.σ 10) st := GE.cond_step (c := .tmp 10) (by kernel_rfl)
theorem n21_3s : codeB Try.prog E cx n21_3 st = thenS (codeB Try.prog E cx n21_4 st) (codeB Try.prog E cx n21_5) := GE.seq_step (by kernel_rfl)
theorem n21_12s : codeB Try.prog E ⟨f, 26, b, ro⟩ n21_12 st = plainS (runOps Try.prog E b q21_12 (ops [true, true, false, false] Try.f21) st) := GE.region_step (id := 3) (GE.reg_of (by kernel_rfl)) (by kernel_rfl)
theorem n21_17s : codeB Try.prog E ⟨f, 26, b, ro⟩ n21_17 st = plainS (runOps Try.prog E b q21_17 (ops [true, true, false, true, false, false, false, false] Try.f21) st) := GE.region_step (id := 4) (GE.reg_of (by kernel_rfl)) (by kernel_rfl)
theorem n21_19s : codeB Try.prog E cx n21_19 st = some (.normal, st) := GE.skip_step (by kernel_rfl)
theorem n21_20s : codeB Try.prog LL ⟨21, 26, b, ro⟩ n21_20 st = normS b ⟨[], []⟩ (.exit 0) st := GE.exit_step (by kernel_rfl) (by kernel_rfl)
theorem n21_18s : codeB Try.prog E cx n21_18 st = condS (codeB Try.prog E cx n21_19) (codeB Try.prog E cx n21_20) (lk st.σ 14) st := GE.cond_step (c := .tmp 14) (by kernel_rfl)
theorem n21_16s : codeB Try.prog E cx n21_16 st = thenS (codeB Try.prog E cx n21_17 st) (codeB Try.prog E cx n21_18) := GE.seq_step (by kernel_rfl)
theorem n21_24s : codeB Try.prog E ⟨f, 26, b, ro⟩ n21_24 st = drawS [0, 0, 3, 7, 0, 0, 48, 112, 255] (runOpsF Try.prog E b q21_24 (ops [true, true, false, true, false, false, true, false, false, false] Try.f21) st) := GE.draw_step (id := 6) (GE.reg_of (by kernel_rfl)) (by kernel_rfl) (by kernel_rfl) (by kernel_rfl)
theorem n21_27s : codeB Try.prog E ⟨f, 26, b, ro⟩ n21_27 st = plainS (runOps Try.prog E b q21_27 (ops [true, true, false, true, false, false, true, false, false, true, false, false] Try.f21) st) := GE.region_step (id := 7) (GE.reg_of (by kernel_rfl)) (by kernel_rfl)
theorem n21_28s : codeB Try.prog LL ⟨21, 26, b, ro⟩ n21_28 st = normS b ⟨[4], []⟩ .ret st := GE.ret_step (by kernel_rfl) (by kernel_rfl)
theorem n21_26s : codeB Try.prog E cx n21_26 st = thenS (codeB Try.prog E cx n21_27 st) (codeB Try.prog E cx n21_28) := GE.seq_step (by kernel_rfl)
theorem n21_29s : codeB Try.prog E cx n21_29 st = some (.normal, st) := GE.skip_step (by kernel_rfl)
theorem n21_25s : codeB Try.prog E cx n21_25 st = condS (codeB Try.prog E cx n21_26) (codeB Try.prog E cx n21_29) (lk st.σ 25) st := GE.cond_step (c := .tmp 25) (by kernel_rfl)
theorem n21_23s : codeB Try.prog E cx n21_23 st = thenS (codeB Try.prog E cx n21_24 st) (codeB Try.prog E cx n21_25) := GE.seq_step (by kernel_rfl)
theorem n21_22s : codeB Try.prog E cx n21_22 st = blockS 1 (codeB Try.prog E cx n21_23 st) st := GE.block_step (by kernel_rfl)
theorem n21_30s : codeB Try.prog E ⟨f, 26, b, ro⟩ n21_30 st = plainS (runOps Try.prog E b q21_30 (ops [true, true, false, true, false, false, true, true] Try.f21) st) := GE.region_step (id := 5) (GE.reg_of (by kernel_rfl)) (by kernel_rfl)
theorem n21_21s : codeB Try.prog E cx n21_21 st = thenS (codeB Try.prog E cx n21_22 st) (codeB Try.prog E cx n21_30) := GE.seq_step (by kernel_rfl)
theorem n21_15s : codeB Try.prog E cx n21_15 st = thenS (codeB Try.prog E cx n21_16 st) (codeB Try.prog E cx n21_21) := GE.seq_step (by kernel_rfl)
theorem n21_14k : LL.kp (⟨21, 26, b, ro⟩ : Cx).fn (4 * rid n21_15 + 3) = some ⟨[0, 1, 5], [⟨0, 0, 1, true⟩, ⟨1, 0, 1, true⟩]⟩ := by kernel_rfl
theorem n21_14s : codeB Try.prog LL ⟨21, 26, b, ro⟩ n21_14 st = headS b ⟨[0, 1, 5], [⟨0, 0, 1, true⟩, ⟨1, 0, 1, true⟩]⟩ st (lpB Try.prog LL ⟨21, 26, b, ro⟩ n21_14 n21_15) := GE.lpB_step (by kernel_rfl) (n21_14k b ro)
theorem n21_14g : LL.code ⟨21, 26, b, ro⟩ n21_14 st = headS b ⟨[0, 1, 5], [⟨0, 0, 1, true⟩, ⟨1, 0, 1, true⟩]⟩ st (lpB Try.prog LL ⟨21, 26, b, ro⟩ n21_14 n21_15) := GE.lpB_again (by kernel_rfl) (n21_14k b ro)
theorem n21_13s : codeB Try.prog E cx n21_13 st = blockS 0 (codeB Try.prog E cx n21_14 st) st := GE.block_step (by kernel_rfl)
theorem n21_11s : codeB Try.prog E cx n21_11 st = thenS (codeB Try.prog E cx n21_12 st) (codeB Try.prog E cx n21_13) := GE.seq_step (by kernel_rfl)
theorem n21_32s : codeB Try.prog E ⟨f, 26, b, ro⟩ n21_32 st = plainS (runOps Try.prog E b q21_32 (ops [true, true, true, false] Try.f21) st) := GE.region_step (id := 8) (GE.reg_of (by kernel_rfl)) (by kernel_rfl)
theorem n21_33s : codeB Try.prog LL ⟨21, 26, b, ro⟩ n21_33 st = normS b ⟨[4], []⟩ .ret st := GE.ret_step (by kernel_rfl) (by kernel_rfl)
theorem n21_31s : codeB Try.prog E cx n21_31 st = thenS (codeB Try.prog E cx n21_32 st) (codeB Try.prog E cx n21_33) := GE.seq_step (by kernel_rfl)
theorem n21_10s : codeB Try.prog E cx n21_10 st = thenS (codeB Try.prog E cx n21_11 st) (codeB Try.prog E cx n21_31) := GE.seq_step (by kernel_rfl)
theorem n21_2s : codeB Try.prog E cx n21_2 st = thenS (codeB Try.prog E cx n21_3 st) (codeB Try.prog E cx n21_10) := GE.seq_step (by kernel_rfl)
theorem n21_0s : codeB Try.prog E cx n21_0 st = thenS (codeB Try.prog E cx n21_1 st) (codeB Try.prog E cx n21_2) := GE.seq_step (by kernel_rfl)
noncomputable def n23_0 : Code := bodyOf Try.f23
noncomputable def n23_1 : Code := cl n23_0
noncomputable def q23_1 : List Oper := opsOf n23_1
noncomputable def n23_2 : Code := cr n23_0
noncomputable def n23_3 : Code := cl n23_2
noncomputable def q23_3 : List Oper := opsOf n23_3
noncomputable def n23_4 : Code := cr n23_2
noncomputable def n23_5 : Code := cl n23_4
noncomputable def n23_6 : Code := cl n23_5
noncomputable def q23_6 : List Oper := opsOf n23_6
noncomputable def n23_7 : Code := cr n23_5
noncomputable def n23_8 : Code := cl n23_7
noncomputable def n23_9 : Code := cl n23_8
noncomputable def q23_9 : List Oper := opsOf n23_9
noncomputable def n23_10 : Code := cr n23_8
noncomputable def n23_11 : Code := cr n23_7
noncomputable def n23_12 : Code := cr n23_4
noncomputable def n23_13 : Code := cl n23_12
noncomputable def q23_13 : List Oper := opsOf n23_13
noncomputable def n23_14 : Code := cr n23_12
theorem body23 : Try.f23.body = some n23_0 := by kernel_rfl
theorem run23 (E : Ev) (args : List Value) (h : List Blk) (hl : args.length ≤ 19) : runB Try.prog E 23 args h = endS Try.prog [.tmp 2, .tmp 3] h.length (codeB Try.prog E ⟨23, 19, h.length, none⟩ n23_0 ⟨enumT 0 args, h, []⟩) := GE.run_step Try.func23 body23 (by kernel_rfl) (by decide) (by kernel_rfl) hl
theorem n23_1s : codeB Try.prog E ⟨f, 19, b, ro⟩ n23_1 st = plainS (runOps Try.prog E b q23_1 (ops [false] Try.f23) st) := GE.region_step (id := 0) (GE.reg_of (by kernel_rfl)) (by kernel_rfl)
theorem n23_3s : codeB Try.prog E ⟨f, 19, b, ro⟩ n23_3 st = plainS (runOps Try.prog E b q23_3 (ops [true, false] Try.f23) st) := GE.region_step (id := 1) (GE.reg_of (by kernel_rfl)) (by kernel_rfl)
theorem n23_6s : codeB Try.prog E ⟨f, 19, b, ro⟩ n23_6 st = plainS (runOps Try.prog E b q23_6 (ops [true, true, false, false] Try.f23) st) := GE.region_step (id := 2) (GE.reg_of (by kernel_rfl)) (by kernel_rfl)
theorem n23_9s : codeB Try.prog E ⟨f, 19, b, ro⟩ n23_9 st = plainS (runOps Try.prog E b q23_9 (ops [true, true, false, true, false, false] Try.f23) st) := GE.region_step (id := 3) (GE.reg_of (by kernel_rfl)) (by kernel_rfl)
theorem n23_10s : codeB Try.prog LL ⟨23, 19, b, ro⟩ n23_10 st = normS b ⟨[2, 3], []⟩ .ret st := GE.ret_step (by kernel_rfl) (by kernel_rfl)
theorem n23_8s : codeB Try.prog E cx n23_8 st = thenS (codeB Try.prog E cx n23_9 st) (codeB Try.prog E cx n23_10) := GE.seq_step (by kernel_rfl)
theorem n23_11s : codeB Try.prog E cx n23_11 st = some (.normal, st) := GE.skip_step (by kernel_rfl)
theorem n23_7s : codeB Try.prog E cx n23_7 st = condS (codeB Try.prog E cx n23_8) (codeB Try.prog E cx n23_11) (lk st.σ 12) st := GE.cond_step (c := .tmp 12) (by kernel_rfl)
theorem n23_5s : codeB Try.prog E cx n23_5 st = thenS (codeB Try.prog E cx n23_6 st) (codeB Try.prog E cx n23_7) := GE.seq_step (by kernel_rfl)
theorem n23_13s : codeB Try.prog E ⟨f, 19, b, ro⟩ n23_13 st = plainS (runOps Try.prog E b q23_13 (ops [true, true, true, false] Try.f23) st) := GE.region_step (id := 4) (GE.reg_of (by kernel_rfl)) (by kernel_rfl)
theorem n23_14s : codeB Try.prog LL ⟨23, 19, b, ro⟩ n23_14 st = normS b ⟨[2, 3], []⟩ .ret st := GE.ret_step (by kernel_rfl) (by kernel_rfl)
theorem n23_12s : codeB Try.prog E cx n23_12 st = thenS (codeB Try.prog E cx n23_13 st) (codeB Try.prog E cx n23_14) := GE.seq_step (by kernel_rfl)
theorem n23_4s : codeB Try.prog E cx n23_4 st = thenS (codeB Try.prog E cx n23_5 st) (codeB Try.prog E cx n23_12) := GE.seq_step (by kernel_rfl)
theorem n23_2s : codeB Try.prog E cx n23_2 st = thenS (codeB Try.prog E cx n23_3 st) (codeB Try.prog E cx n23_4) := GE.seq_step (by kernel_rfl)
theorem n23_0s : codeB Try.prog E cx n23_0 st = thenS (codeB Try.prog E cx n23_1 st) (codeB Try.prog E cx n23_2) := GE.seq_step (by kernel_rfl)
noncomputable def n25_0 : Code := bodyOf Try.f25
noncomputable def n25_1 : Code := cl n25_0
noncomputable def q25_1 : List Oper := opsOf n25_1
noncomputable def n25_2 : Code := cr n25_0
noncomputable def n25_3 : Code := cl n25_2
noncomputable def q25_3 : List Oper := opsOf n25_3
noncomputable def n25_4 : Code := cr n25_2
noncomputable def n25_5 : Code := cl n25_4
noncomputable def n25_6 : Code := cl n25_5
noncomputable def q25_6 : List Oper := opsOf n25_6
noncomputable def n25_7 : Code := cr n25_5
noncomputable def n25_8 : Code := cl n25_7
noncomputable def q25_8 : List Oper := opsOf n25_8
noncomputable def n25_9 : Code := cr n25_7
noncomputable def n25_10 : Code := cr n25_4
noncomputable def n25_11 : Code := cl n25_10
noncomputable def n25_12 : Code := cl n25_11
noncomputable def q25_12 : List Oper := opsOf n25_12
noncomputable def n25_13 : Code := cr n25_11
noncomputable def n25_14 : Code := cl n25_13
noncomputable def n25_15 : Code := cl n25_14
noncomputable def q25_15 : List Oper := opsOf n25_15
noncomputable def n25_16 : Code := cr n25_14
noncomputable def n25_17 : Code := cr n25_13
noncomputable def n25_18 : Code := cr n25_10
noncomputable def n25_19 : Code := cl n25_18
noncomputable def q25_19 : List Oper := opsOf n25_19
noncomputable def n25_20 : Code := cr n25_18
noncomputable def n25_21 : Code := cl n25_20
noncomputable def n25_22 : Code := cl n25_21
noncomputable def q25_22 : List Oper := opsOf n25_22
noncomputable def n25_23 : Code := cr n25_21
noncomputable def n25_24 : Code := cl n25_23
noncomputable def n25_25 : Code := cl n25_24
noncomputable def n25_26 : Code := cl n25_25
noncomputable def q25_26 : List Oper := opsOf n25_26
noncomputable def n25_27 : Code := cr n25_25
noncomputable def n25_28 : Code := cl n25_27
noncomputable def n25_29 : Code := cl n25_28
noncomputable def n25_30 : Code := cr n25_28
noncomputable def n25_31 : Code := cr n25_27
noncomputable def n25_32 : Code := cl n25_31
noncomputable def n25_33 : Code := cl n25_32
noncomputable def n25_34 : Code := cl n25_33
noncomputable def q25_34 : List Oper := opsOf n25_34
noncomputable def n25_35 : Code := cr n25_33
noncomputable def n25_36 : Code := cl n25_35
noncomputable def n25_37 : Code := cl n25_36
noncomputable def q25_37 : List Oper := opsOf n25_37
noncomputable def n25_38 : Code := cr n25_36
noncomputable def n25_39 : Code := cl n25_38
noncomputable def n25_40 : Code := cl n25_39
noncomputable def n25_41 : Code := cl n25_40
noncomputable def q25_41 : List Oper := opsOf n25_41
noncomputable def n25_42 : Code := cr n25_40
noncomputable def n25_43 : Code := cl n25_42
noncomputable def n25_44 : Code := cl n25_43
noncomputable def n25_45 : Code := cr n25_43
noncomputable def n25_46 : Code := cr n25_42
noncomputable def n25_47 : Code := cl n25_46
noncomputable def n25_48 : Code := cl n25_47
noncomputable def n25_49 : Code := cl n25_48
noncomputable def q25_49 : List Oper := opsOf n25_49
noncomputable def n25_50 : Code := cr n25_48
noncomputable def n25_51 : Code := cl n25_50
noncomputable def q25_51 : List Oper := opsOf n25_51
noncomputable def n25_52 : Code := cr n25_50
noncomputable def n25_53 : Code := cl n25_52
noncomputable def q25_53 : List Oper := opsOf n25_53
noncomputable def n25_54 : Code := cr n25_52
noncomputable def n25_55 : Code := cr n25_46
noncomputable def q25_55 : List Oper := opsOf n25_55
noncomputable def n25_56 : Code := cr n25_35
noncomputable def q25_56 : List Oper := opsOf n25_56
noncomputable def n25_57 : Code := cr n25_31
noncomputable def q25_57 : List Oper := opsOf n25_57
noncomputable def n25_58 : Code := cr n25_20
noncomputable def n25_59 : Code := cl n25_58
noncomputable def q25_59 : List Oper := opsOf n25_59
noncomputable def n25_60 : Code := cr n25_58
theorem body25 : Try.f25.body = some n25_0 := by kernel_rfl
theorem run25 (E : Ev) (args : List Value) (h : List Blk) (hl : args.length ≤ 59) : runB Try.prog E 25 args h = endS Try.prog [.tmp 4, .tmp 5] h.length (codeB Try.prog E ⟨25, 59, h.length, none⟩ n25_0 ⟨enumT 0 args, h, []⟩) := GE.run_step Try.func25 body25 (by kernel_rfl) (by decide) (by kernel_rfl) hl
theorem n25_1s : codeB Try.prog E ⟨f, 59, b, ro⟩ n25_1 st = plainS (runOps Try.prog E b q25_1 (ops [false] Try.f25) st) := GE.region_step (id := 0) (GE.reg_of (by kernel_rfl)) (by kernel_rfl)
theorem n25_3s : codeB Try.prog E ⟨f, 59, b, ro⟩ n25_3 st = plainS (runOps Try.prog E b q25_3 (ops [true, false] Try.f25) st) := GE.region_step (id := 1) (GE.reg_of (by kernel_rfl)) (by kernel_rfl)
theorem n25_6s : codeB Try.prog E ⟨f, 59, b, ro⟩ n25_6 st = plainS (runOps Try.prog E b q25_6 (ops [true, true, false, false] Try.f25) st) := GE.region_step (id := 2) (GE.reg_of (by kernel_rfl)) (by kernel_rfl)
theorem n25_8s : codeB Try.prog E ⟨f, 59, b, ro⟩ n25_8 st = plainS (runOps Try.prog E b q25_8 (ops [true, true, false, true, false] Try.f25) st) := GE.region_step (id := 3) (GE.reg_of (by kernel_rfl)) (by kernel_rfl)
theorem n25_9s : codeB Try.prog E cx n25_9 st = some (.normal, st) := GE.skip_step (by kernel_rfl)
theorem n25_7s : codeB Try.prog E cx n25_7 st = condS (codeB Try.prog E cx n25_8) (codeB Try.prog E cx n25_9) (lk st.σ 19) st := GE.cond_step (c := .tmp 19) (by kernel_rfl)
theorem n25_5s : codeB Try.prog E cx n25_5 st = thenS (codeB Try.prog E cx n25_6 st) (codeB Try.prog E cx n25_7) := GE.seq_step (by kernel_rfl)
theorem n25_12s : codeB Try.prog E ⟨f, 59, b, ro⟩ n25_12 st = plainS (runOps Try.prog E b q25_12 (ops [true, true, true, false, false] Try.f25) st) := GE.region_step (id := 4) (GE.reg_of (by kernel_rfl)) (by kernel_rfl)
theorem n25_15s : codeB Try.prog E ⟨f, 59, b, ro⟩ n25_15 st = plainS (runOps Try.prog E b q25_15 (ops [true, true, true, false, true, false, false] Try.f25) st) := GE.region_step (id := 5) (GE.reg_of (by kernel_rfl)) (by kernel_rfl)
theorem n25_16s : codeB Try.prog LL ⟨25, 59, b, ro⟩ n25_16 st = normS b ⟨[4, 5], []⟩ .ret st := GE.ret_step (by kernel_rfl) (by kernel_rfl)
theorem n25_14s : codeB Try.prog E cx n25_14 st = thenS (codeB Try.prog E cx n25_15 st) (codeB Try.prog E cx n25_16) := GE.seq_step (by kernel_rfl)
theorem n25_17s : codeB Try.prog E cx n25_17 st = some (.normal, st) := GE.skip_step (by kernel_rfl)
theorem n25_13s : codeB Try.prog E cx n25_13 st = condS (codeB Try.prog E cx n25_14) (codeB Try.prog E cx n25_17) (lk st.σ 24) st := GE.cond_step (c := .tmp 24) (by kernel_rfl)
theorem n25_11s : codeB Try.prog E cx n25_11 st = thenS (codeB Try.prog E cx n25_12 st) (codeB Try.prog E cx n25_13) := GE.seq_step (by kernel_rfl)
theorem n25_19s : codeB Try.prog E ⟨f, 59, b, ro⟩ n25_19 st = plainS (runOps Try.prog E b q25_19 (ops [true, true, true, true, false] Try.f25) st) := GE.region_step (id := 6) (GE.reg_of (by kernel_rfl)) (by kernel_rfl)
theorem n25_22s : codeB Try.prog E ⟨f, 59, b, ro⟩ n25_22 st = plainS (runOps Try.prog E b q25_22 (ops [true, true, true, true, true, false, false] Try.f25) st) := GE.region_step (id := 7) (GE.reg_of (by kernel_rfl)) (by kernel_rfl)
theorem n25_26s : codeB Try.prog E ⟨f, 59, b, ro⟩ n25_26 st = plainS (runOps Try.prog E b q25_26 (ops [true, true, true, true, true, false, true, false, false, false] Try.f25) st) := GE.region_step (id := 8) (GE.reg_of (by kernel_rfl)) (by kernel_rfl)
theorem n25_29s : codeB Try.prog E cx n25_29 st = some (.normal, st) := GE.skip_step (by kernel_rfl)
theorem n25_30s : codeB Try.prog LL ⟨25, 59, b, ro⟩ n25_30 st = normS b ⟨[8], []⟩ (.exit 0) st := GE.exit_step (by kernel_rfl) (by kernel_rfl)
theorem n25_28s : codeB Try.prog E cx n25_28 st = condS (codeB Try.prog E cx n25_29) (codeB Try.prog E cx n25_30) (lk st.σ 29) st := GE.cond_step (c := .tmp 29) (by kernel_rfl)
theorem n25_34s : codeB Try.prog E ⟨f, 59, b, ro⟩ n25_34 st = plainS (runOps Try.prog E b q25_34 (ops [true, true, true, true, true, false, true, false, false, true, true, false, false, false] Try.f25) st) := GE.region_step (id := 9) (GE.reg_of (by kernel_rfl)) (by kernel_rfl)
theorem n25_37s : codeB Try.prog E ⟨f, 59, b, ro⟩ n25_37 st = plainS (runOps Try.prog E b q25_37 (ops [true, true, true, true, true, false, true, false, false, true, true, false, false, true, false, false] Try.f25) st) := GE.region_step (id := 10) (GE.reg_of (by kernel_rfl)) (by kernel_rfl)
theorem n25_41s : codeB Try.prog E ⟨f, 59, b, ro⟩ n25_41 st = plainS (runOps Try.prog E b q25_41 (ops [true, true, true, true, true, false, true, false, false, true, true, false, false, true, false, true, false, false, false] Try.f25) st) := GE.region_step (id := 11) (GE.reg_of (by kernel_rfl)) (by kernel_rfl)
theorem n25_44s : codeB Try.prog E cx n25_44 st = some (.normal, st) := GE.skip_step (by kernel_rfl)
theorem n25_45s : codeB Try.prog LL ⟨25, 59, b, ro⟩ n25_45 st = normS b ⟨[11, 6, 8, 9, 26, 27, 28], [⟨26, 0, 1, true⟩]⟩ (.exit 2) st := GE.exit_step (by kernel_rfl) (by kernel_rfl)
theorem n25_43s : codeB Try.prog E cx n25_43 st = condS (codeB Try.prog E cx n25_44) (codeB Try.prog E cx n25_45) (lk st.σ 34) st := GE.cond_step (c := .tmp 34) (by kernel_rfl)
theorem n25_49s : codeB Try.prog E ⟨f, 59, b, ro⟩ n25_49 st = plainS (runOps Try.prog E b q25_49 (ops [true, true, true, true, true, false, true, false, false, true, true, false, false, true, false, true, false, false, true, true, false, false, false] Try.f25) st) := GE.region_step (id := 12) (GE.reg_of (by kernel_rfl)) (by kernel_rfl)
theorem n25_51s : codeB Try.prog E ⟨f, 59, b, ro⟩ n25_51 st = plainS (runOps Try.prog E b q25_51 (ops [true, true, true, true, true, false, true, false, false, true, true, false, false, true, false, true, false, false, true, true, false, false, true, false] Try.f25) st) := GE.region_step (id := 13) (GE.reg_of (by kernel_rfl)) (by kernel_rfl)
theorem n25_53s : codeB Try.prog E ⟨f, 59, b, ro⟩ n25_53 st = drawS [0, 0, 2, 6, 14, 0, 0, 96, 254, 511, 1023] (runOpsF Try.prog E b q25_53 (ops [true, true, true, true, true, false, true, false, false, true, true, false, false, true, false, true, false, false, true, true, false, false, true, true, false] Try.f25) st) := GE.draw_step (id := 14) (GE.reg_of (by kernel_rfl)) (by kernel_rfl) (by kernel_rfl) (by kernel_rfl)
theorem n25_54s : codeB Try.prog E cx n25_54 st = some (.normal, st) := GE.skip_step (by kernel_rfl)
theorem n25_52s : codeB Try.prog E cx n25_52 st = condS (codeB Try.prog E cx n25_53) (codeB Try.prog E cx n25_54) (lk st.σ 42) st := GE.cond_step (c := .tmp 42) (by kernel_rfl)
theorem n25_50s : codeB Try.prog E cx n25_50 st = thenS (codeB Try.prog E cx n25_51 st) (codeB Try.prog E cx n25_52) := GE.seq_step (by kernel_rfl)
theorem n25_48s : codeB Try.prog E cx n25_48 st = thenS (codeB Try.prog E cx n25_49 st) (codeB Try.prog E cx n25_50) := GE.seq_step (by kernel_rfl)
theorem n25_47s : codeB Try.prog E cx n25_47 st = blockS 3 (codeB Try.prog E cx n25_48 st) st := GE.block_step (by kernel_rfl)
theorem n25_55s : codeB Try.prog E ⟨f, 59, b, ro⟩ n25_55 st = plainS (runOps Try.prog E b q25_55 (ops [true, true, true, true, true, false, true, false, false, true, true, false, false, true, false, true, false, false, true, true, true] Try.f25) st) := GE.region_step (id := 15) (GE.reg_of (by kernel_rfl)) (by kernel_rfl)
theorem n25_46s : codeB Try.prog E cx n25_46 st = thenS (codeB Try.prog E cx n25_47 st) (codeB Try.prog E cx n25_55) := GE.seq_step (by kernel_rfl)
theorem n25_42s : codeB Try.prog E cx n25_42 st = thenS (codeB Try.prog E cx n25_43 st) (codeB Try.prog E cx n25_46) := GE.seq_step (by kernel_rfl)
theorem n25_40s : codeB Try.prog E cx n25_40 st = thenS (codeB Try.prog E cx n25_41 st) (codeB Try.prog E cx n25_42) := GE.seq_step (by kernel_rfl)
theorem n25_39k : LL.kp (⟨25, 59, b, ro⟩ : Cx).fn (4 * rid n25_40 + 3) = some ⟨[11, 32, 33, 6, 8, 9, 26, 27, 28], [⟨26, 0, 1, true⟩]⟩ := by kernel_rfl
theorem n25_39s : codeB Try.prog LL ⟨25, 59, b, ro⟩ n25_39 st = headS b ⟨[11, 32, 33, 6, 8, 9, 26, 27, 28], [⟨26, 0, 1, true⟩]⟩ st (lpB Try.prog LL ⟨25, 59, b, ro⟩ n25_39 n25_40) := GE.lpB_step (by kernel_rfl) (n25_39k b ro)
theorem n25_39g : LL.code ⟨25, 59, b, ro⟩ n25_39 st = headS b ⟨[11, 32, 33, 6, 8, 9, 26, 27, 28], [⟨26, 0, 1, true⟩]⟩ st (lpB Try.prog LL ⟨25, 59, b, ro⟩ n25_39 n25_40) := GE.lpB_again (by kernel_rfl) (n25_39k b ro)
theorem n25_38s : codeB Try.prog E cx n25_38 st = blockS 2 (codeB Try.prog E cx n25_39 st) st := GE.block_step (by kernel_rfl)
theorem n25_36s : codeB Try.prog E cx n25_36 st = thenS (codeB Try.prog E cx n25_37 st) (codeB Try.prog E cx n25_38) := GE.seq_step (by kernel_rfl)
theorem n25_56s : codeB Try.prog E ⟨f, 59, b, ro⟩ n25_56 st = plainS (runOps Try.prog E b q25_56 (ops [true, true, true, true, true, false, true, false, false, true, true, false, false, true, true] Try.f25) st) := GE.region_step (id := 16) (GE.reg_of (by kernel_rfl)) (by kernel_rfl)
theorem n25_35s : codeB Try.prog E cx n25_35 st = thenS (codeB Try.prog E cx n25_36 st) (codeB Try.prog E cx n25_56) := GE.seq_step (by kernel_rfl)
theorem n25_33s : codeB Try.prog E cx n25_33 st = thenS (codeB Try.prog E cx n25_34 st) (codeB Try.prog E cx n25_35) := GE.seq_step (by kernel_rfl)
theorem n25_32s : codeB Try.prog E cx n25_32 st = blockS 1 (codeB Try.prog E cx n25_33 st) st := GE.block_step (by kernel_rfl)
theorem n25_57s : codeB Try.prog E ⟨f, 59, b, ro⟩ n25_57 st = plainS (runOps Try.prog E b q25_57 (ops [true, true, true, true, true, false, true, false, false, true, true, true] Try.f25) st) := GE.region_step (id := 17) (GE.reg_of (by kernel_rfl)) (by kernel_rfl)
theorem n25_31s : codeB Try.prog E cx n25_31 st = thenS (codeB Try.prog E cx n25_32 st) (codeB Try.prog E cx n25_57) := GE.seq_step (by kernel_rfl)
theorem n25_27s : codeB Try.prog E cx n25_27 st = thenS (codeB Try.prog E cx n25_28 st) (codeB Try.prog E cx n25_31) := GE.seq_step (by kernel_rfl)
theorem n25_25s : codeB Try.prog E cx n25_25 st = thenS (codeB Try.prog E cx n25_26 st) (codeB Try.prog E cx n25_27) := GE.seq_step (by kernel_rfl)
theorem n25_24k : LL.kp (⟨25, 59, b, ro⟩ : Cx).fn (4 * rid n25_25 + 3) = some ⟨[6, 8, 9, 26, 27, 28], [⟨26, 0, 1, true⟩]⟩ := by kernel_rfl
theorem n25_24s : codeB Try.prog LL ⟨25, 59, b, ro⟩ n25_24 st = headS b ⟨[6, 8, 9, 26, 27, 28], [⟨26, 0, 1, true⟩]⟩ st (lpB Try.prog LL ⟨25, 59, b, ro⟩ n25_24 n25_25) := GE.lpB_step (by kernel_rfl) (n25_24k b ro)
theorem n25_24g : LL.code ⟨25, 59, b, ro⟩ n25_24 st = headS b ⟨[6, 8, 9, 26, 27, 28], [⟨26, 0, 1, true⟩]⟩ st (lpB Try.prog LL ⟨25, 59, b, ro⟩ n25_24 n25_25) := GE.lpB_again (by kernel_rfl) (n25_24k b ro)
theorem n25_23s : codeB Try.prog E cx n25_23 st = blockS 0 (codeB Try.prog E cx n25_24 st) st := GE.block_step (by kernel_rfl)
theorem n25_21s : codeB Try.prog E cx n25_21 st = thenS (codeB Try.prog E cx n25_22 st) (codeB Try.prog E cx n25_23) := GE.seq_step (by kernel_rfl)
theorem n25_59s : codeB Try.prog E ⟨f, 59, b, ro⟩ n25_59 st = plainS (runOps Try.prog E b q25_59 (ops [true, true, true, true, true, true, false] Try.f25) st) := GE.region_step (id := 18) (GE.reg_of (by kernel_rfl)) (by kernel_rfl)
theorem n25_60s : codeB Try.prog LL ⟨25, 59, b, ro⟩ n25_60 st = normS b ⟨[4, 5], []⟩ .ret st := GE.ret_step (by kernel_rfl) (by kernel_rfl)
theorem n25_58s : codeB Try.prog E cx n25_58 st = thenS (codeB Try.prog E cx n25_59 st) (codeB Try.prog E cx n25_60) := GE.seq_step (by kernel_rfl)
theorem n25_20s : codeB Try.prog E cx n25_20 st = thenS (codeB Try.prog E cx n25_21 st) (codeB Try.prog E cx n25_58) := GE.seq_step (by kernel_rfl)
theorem n25_18s : codeB Try.prog E cx n25_18 st = thenS (codeB Try.prog E cx n25_19 st) (codeB Try.prog E cx n25_20) := GE.seq_step (by kernel_rfl)
theorem n25_10s : codeB Try.prog E cx n25_10 st = thenS (codeB Try.prog E cx n25_11 st) (codeB Try.prog E cx n25_18) := GE.seq_step (by kernel_rfl)
theorem n25_4s : codeB Try.prog E cx n25_4 st = thenS (codeB Try.prog E cx n25_5 st) (codeB Try.prog E cx n25_10) := GE.seq_step (by kernel_rfl)
theorem n25_2s : codeB Try.prog E cx n25_2 st = thenS (codeB Try.prog E cx n25_3 st) (codeB Try.prog E cx n25_4) := GE.seq_step (by kernel_rfl)
theorem n25_0s : codeB Try.prog E cx n25_0 st = thenS (codeB Try.prog E cx n25_1 st) (codeB Try.prog E cx n25_2) := GE.seq_step (by kernel_rfl)
noncomputable def n27_0 : Code := bodyOf Try.f27
noncomputable def n27_1 : Code := cl n27_0
noncomputable def q27_1 : List Oper := opsOf n27_1
noncomputable def n27_2 : Code := cr n27_0
noncomputable def n27_3 : Code := cl n27_2
noncomputable def q27_3 : List Oper := opsOf n27_3
noncomputable def n27_4 : Code := cr n27_2
noncomputable def n27_5 : Code := cl n27_4
noncomputable def n27_6 : Code := cl n27_5
noncomputable def n27_7 : Code := cl n27_6
noncomputable def q27_7 : List Oper := opsOf n27_7
noncomputable def n27_8 : Code := cr n27_6
noncomputable def n27_9 : Code := cl n27_8
noncomputable def n27_10 : Code := cl n27_9
noncomputable def q27_10 : List Oper := opsOf n27_10
noncomputable def n27_11 : Code := cr n27_9
noncomputable def n27_12 : Code := cr n27_8
noncomputable def n27_13 : Code := cl n27_12
noncomputable def q27_13 : List Oper := opsOf n27_13
noncomputable def n27_14 : Code := cr n27_12
noncomputable def n27_15 : Code := cl n27_14
noncomputable def n27_16 : Code := cl n27_15
noncomputable def q27_16 : List Oper := opsOf n27_16
noncomputable def n27_17 : Code := cr n27_15
noncomputable def n27_18 : Code := cr n27_14
noncomputable def n27_19 : Code := cr n27_4
noncomputable def n27_20 : Code := cl n27_19
noncomputable def q27_20 : List Oper := opsOf n27_20
noncomputable def n27_21 : Code := cr n27_19
noncomputable def n27_22 : Code := cl n27_21
noncomputable def q27_22 : List Oper := opsOf n27_22
noncomputable def n27_23 : Code := cr n27_21
noncomputable def n27_24 : Code := cl n27_23
noncomputable def n27_25 : Code := cl n27_24
noncomputable def q27_25 : List Oper := opsOf n27_25
noncomputable def n27_26 : Code := cr n27_24
noncomputable def n27_27 : Code := cl n27_26
noncomputable def n27_28 : Code := cl n27_27
noncomputable def n27_29 : Code := cl n27_28
noncomputable def n27_30 : Code := cl n27_29
noncomputable def q27_30 : List Oper := opsOf n27_30
noncomputable def n27_31 : Code := cr n27_29
noncomputable def n27_32 : Code := cl n27_31
noncomputable def n27_33 : Code := cr n27_31
noncomputable def n27_34 : Code := cr n27_28
noncomputable def n27_35 : Code := cl n27_34
noncomputable def n27_36 : Code := cl n27_35
noncomputable def n27_37 : Code := cl n27_36
noncomputable def n27_38 : Code := cl n27_37
noncomputable def q27_38 : List Oper := opsOf n27_38
noncomputable def n27_39 : Code := cr n27_37
noncomputable def n27_40 : Code := cl n27_39
noncomputable def n27_41 : Code := cr n27_39
noncomputable def n27_42 : Code := cr n27_36
noncomputable def n27_43 : Code := cl n27_42
noncomputable def n27_44 : Code := cl n27_43
noncomputable def q27_44 : List Oper := opsOf n27_44
noncomputable def n27_45 : Code := cr n27_43
noncomputable def n27_46 : Code := cl n27_45
noncomputable def q27_46 : List Oper := opsOf n27_46
noncomputable def n27_47 : Code := cr n27_45
noncomputable def n27_48 : Code := cl n27_47
noncomputable def n27_49 : Code := cl n27_48
noncomputable def q27_49 : List Oper := opsOf n27_49
noncomputable def n27_50 : Code := cr n27_48
noncomputable def n27_51 : Code := cr n27_47
noncomputable def n27_52 : Code := cr n27_42
noncomputable def n27_53 : Code := cl n27_52
noncomputable def q27_53 : List Oper := opsOf n27_53
noncomputable def n27_54 : Code := cr n27_52
noncomputable def q27_54 : List Oper := opsOf n27_54
noncomputable def n27_55 : Code := cr n27_34
noncomputable def q27_55 : List Oper := opsOf n27_55
noncomputable def n27_56 : Code := cr n27_23
noncomputable def n27_57 : Code := cl n27_56
noncomputable def q27_57 : List Oper := opsOf n27_57
noncomputable def n27_58 : Code := cr n27_56
theorem body27 : Try.f27.body = some n27_0 := by kernel_rfl
theorem run27 (E : Ev) (args : List Value) (h : List Blk) (hl : args.length ≤ 68) : runB Try.prog E 27 args h = endS Try.prog [.tmp 4, .tmp 5] h.length (codeB Try.prog E ⟨27, 68, h.length, none⟩ n27_0 ⟨enumT 0 args, h, []⟩) := GE.run_step Try.func27 body27 (by kernel_rfl) (by decide) (by kernel_rfl) hl
theorem n27_1s : codeB Try.prog E ⟨f, 68, b, ro⟩ n27_1 st = plainS (runOps Try.prog E b q27_1 (ops [false] Try.f27) st) := GE.region_step (id := 0) (GE.reg_of (by kernel_rfl)) (by kernel_rfl)
theorem n27_3s : codeB Try.prog E ⟨f, 68, b, ro⟩ n27_3 st = plainS (runOps Try.prog E b q27_3 (ops [true, false] Try.f27) st) := GE.region_step (id := 1) (GE.reg_of (by kernel_rfl)) (by kernel_rfl)
theorem n27_7s : codeB Try.prog E ⟨f, 68, b, ro⟩ n27_7 st = plainS (runOps Try.prog E b q27_7 (ops [true, true, false, false, false] Try.f27) st) := GE.region_step (id := 2) (GE.reg_of (by kernel_rfl)) (by kernel_rfl)
theorem n27_10s : codeB Try.prog E ⟨f, 68, b, ro⟩ n27_10 st = plainS (runOps Try.prog E b q27_10 (ops [true, true, false, false, true, false, false] Try.f27) st) := GE.region_step (id := 3) (GE.reg_of (by kernel_rfl)) (by kernel_rfl)
theorem n27_11s : codeB Try.prog LL ⟨27, 68, b, ro⟩ n27_11 st = normS b ⟨[4, 5], [⟨4, 0, 1, true⟩]⟩ .ret st := GE.ret_step (by kernel_rfl) (by kernel_rfl)
theorem n27_9s : codeB Try.prog E cx n27_9 st = thenS (codeB Try.prog E cx n27_10 st) (codeB Try.prog E cx n27_11) := GE.seq_step (by kernel_rfl)
theorem n27_13s : codeB Try.prog E ⟨f, 68, b, ro⟩ n27_13 st = plainS (runOps Try.prog E b q27_13 (ops [true, true, false, false, true, true, false] Try.f27) st) := GE.region_step (id := 4) (GE.reg_of (by kernel_rfl)) (by kernel_rfl)
theorem n27_16s : codeB Try.prog E ⟨f, 68, b, ro⟩ n27_16 st = plainS (runOps Try.prog E b q27_16 (ops [true, true, false, false, true, true, true, false, false] Try.f27) st) := GE.region_step (id := 5) (GE.reg_of (by kernel_rfl)) (by kernel_rfl)
theorem n27_17s : codeB Try.prog LL ⟨27, 68, b, ro⟩ n27_17 st = normS b ⟨[4, 5], [⟨4, 0, 1, true⟩]⟩ .ret st := GE.ret_step (by kernel_rfl) (by kernel_rfl)
theorem n27_15s : codeB Try.prog E cx n27_15 st = thenS (codeB Try.prog E cx n27_16 st) (codeB Try.prog E cx n27_17) := GE.seq_step (by kernel_rfl)
theorem n27_18s : codeB Try.prog E cx n27_18 st = some (.normal, st) := GE.skip_step (by kernel_rfl)
theorem n27_14s : codeB Try.prog E cx n27_14 st = condS (codeB Try.prog E cx n27_15) (codeB Try.prog E cx n27_18) (lk st.σ 21) st := GE.cond_step (c := .tmp 21) (by kernel_rfl)
theorem n27_12s : codeB Try.prog E cx n27_12 st = thenS (codeB Try.prog E cx n27_13 st) (codeB Try.prog E cx n27_14) := GE.seq_step (by kernel_rfl)
theorem n27_8s : codeB Try.prog E cx n27_8 st = condS (codeB Try.prog E cx n27_9) (codeB Try.prog E cx n27_12) (lk st.σ 17) st := GE.cond_step (c := .tmp 17) (by kernel_rfl)
theorem n27_6s : codeB Try.prog E cx n27_6 st = thenS (codeB Try.prog E cx n27_7 st) (codeB Try.prog E cx n27_8) := GE.seq_step (by kernel_rfl)
theorem n27_5s : codeB Try.prog E cx n27_5 st = blockS 0 (codeB Try.prog E cx n27_6 st) st := GE.block_step (by kernel_rfl)
theorem n27_20s : codeB Try.prog E ⟨f, 68, b, ro⟩ n27_20 st = plainS (runOps Try.prog E b q27_20 (ops [true, true, true, false] Try.f27) st) := GE.region_step (id := 6) (GE.reg_of (by kernel_rfl)) (by kernel_rfl)
theorem n27_22s : codeB Try.prog E ⟨f, 68, b, ro⟩ n27_22 st = plainS (runOps Try.prog E b q27_22 (ops [true, true, true, true, false] Try.f27) st) := GE.region_step (id := 7) (GE.reg_of (by kernel_rfl)) (by kernel_rfl)
theorem n27_25s : codeB Try.prog E ⟨f, 68, b, ro⟩ n27_25 st = plainS (runOps Try.prog E b q27_25 (ops [true, true, true, true, true, false, false] Try.f27) st) := GE.region_step (id := 8) (GE.reg_of (by kernel_rfl)) (by kernel_rfl)
theorem n27_30s : codeB Try.prog E ⟨f, 68, b, ro⟩ n27_30 st = plainS (runOps Try.prog E b q27_30 (ops [true, true, true, true, true, false, true, false, false, false, false] Try.f27) st) := GE.region_step (id := 9) (GE.reg_of (by kernel_rfl)) (by kernel_rfl)
theorem n27_32s : codeB Try.prog E cx n27_32 st = some (.normal, st) := GE.skip_step (by kernel_rfl)
theorem n27_33s : codeB Try.prog LL ⟨27, 68, b, ro⟩ n27_33 st = normS b ⟨[8], [⟨8, 0, 1, true⟩]⟩ (.exit 1) st := GE.exit_step (by kernel_rfl) (by kernel_rfl)
theorem n27_31s : codeB Try.prog E cx n27_31 st = condS (codeB Try.prog E cx n27_32) (codeB Try.prog E cx n27_33) (lk st.σ 35) st := GE.cond_step (c := .tmp 35) (by kernel_rfl)
theorem n27_29s : codeB Try.prog E cx n27_29 st = thenS (codeB Try.prog E cx n27_30 st) (codeB Try.prog E cx n27_31) := GE.seq_step (by kernel_rfl)
theorem n27_38s : codeB Try.prog E ⟨f, 68, b, ro⟩ n27_38 st = plainS (runOps Try.prog E b q27_38 (ops [true, true, true, true, true, false, true, false, false, true, false, false, false, false] Try.f27) st) := GE.region_step (id := 11) (GE.reg_of (by kernel_rfl)) (by kernel_rfl)
theorem n27_40s : codeB Try.prog LL ⟨27, 68, b, ro⟩ n27_40 st = normS b ⟨[0, 1, 6, 8, 9, 10], [⟨0, 0, 2, true⟩, ⟨8, 0, 1, true⟩]⟩ (.exit 2) st := GE.exit_step (by kernel_rfl) (by kernel_rfl)
theorem n27_41s : codeB Try.prog E cx n27_41 st = some (.normal, st) := GE.skip_step (by kernel_rfl)
theorem n27_39s : codeB Try.prog E cx n27_39 st = condS (codeB Try.prog E cx n27_40) (codeB Try.prog E cx n27_41) (lk st.σ 45) st := GE.cond_step (c := .tmp 45) (by kernel_rfl)
theorem n27_37s : codeB Try.prog E cx n27_37 st = thenS (codeB Try.prog E cx n27_38 st) (codeB Try.prog E cx n27_39) := GE.seq_step (by kernel_rfl)
theorem n27_44s : codeB Try.prog E ⟨f, 68, b, ro⟩ n27_44 st = drawS [0, 1, 3, 7, 0, 0, 48, 127, 255] (runOpsF Try.prog E b q27_44 (ops [true, true, true, true, true, false, true, false, false, true, false, false, true, false, false] Try.f27) st) := GE.draw_step (id := 12) (GE.reg_of (by kernel_rfl)) (by kernel_rfl) (by kernel_rfl) (by kernel_rfl)
theorem n27_46s : codeB Try.prog E ⟨f, 68, b, ro⟩ n27_46 st = plainS (runOps Try.prog E b q27_46 (ops [true, true, true, true, true, false, true, false, false, true, false, false, true, false, true, false] Try.f27) st) := GE.region_step (id := 13) (GE.reg_of (by kernel_rfl)) (by kernel_rfl)
theorem n27_49s : codeB Try.prog E ⟨f, 68, b, ro⟩ n27_49 st = plainS (runOps Try.prog E b q27_49 (ops [true, true, true, true, true, false, true, false, false, true, false, false, true, false, true, true, false, false] Try.f27) st) := GE.region_step (id := 14) (GE.reg_of (by kernel_rfl)) (by kernel_rfl)
theorem n27_50s : codeB Try.prog LL ⟨27, 68, b, ro⟩ n27_50 st = normS b ⟨[0, 1, 6, 8, 9, 10], [⟨0, 0, 2, true⟩, ⟨8, 0, 1, true⟩]⟩ (.exit 2) st := GE.exit_step (by kernel_rfl) (by kernel_rfl)
theorem n27_48s : codeB Try.prog E cx n27_48 st = thenS (codeB Try.prog E cx n27_49 st) (codeB Try.prog E cx n27_50) := GE.seq_step (by kernel_rfl)
theorem n27_51s : codeB Try.prog E cx n27_51 st = some (.normal, st) := GE.skip_step (by kernel_rfl)
theorem n27_47s : codeB Try.prog E cx n27_47 st = condS (codeB Try.prog E cx n27_48) (codeB Try.prog E cx n27_51) (lk st.σ 56) st := GE.cond_step (c := .tmp 56) (by kernel_rfl)
theorem n27_45s : codeB Try.prog E cx n27_45 st = thenS (codeB Try.prog E cx n27_46 st) (codeB Try.prog E cx n27_47) := GE.seq_step (by kernel_rfl)
theorem n27_43s : codeB Try.prog E cx n27_43 st = thenS (codeB Try.prog E cx n27_44 st) (codeB Try.prog E cx n27_45) := GE.seq_step (by kernel_rfl)
theorem n27_53s : codeB Try.prog E ⟨f, 68, b, ro⟩ n27_53 st = plainS (runOps Try.prog E b q27_53 (ops [true, true, true, true, true, false, true, false, false, true, false, false, true, true, false] Try.f27) st) := GE.region_step (id := 15) (GE.reg_of (by kernel_rfl)) (by kernel_rfl)
theorem n27_54s : codeB Try.prog E ⟨f, 68, b, ro⟩ n27_54 st = plainS (runOps Try.prog E b q27_54 (ops [true, true, true, true, true, false, true, false, false, true, false, false, true, true, true] Try.f27) st) := GE.region_step (id := 16) (GE.reg_of (by kernel_rfl)) (by kernel_rfl)
theorem n27_52s : codeB Try.prog E cx n27_52 st = thenS (codeB Try.prog E cx n27_53 st) (codeB Try.prog E cx n27_54) := GE.seq_step (by kernel_rfl)
theorem n27_42s : codeB Try.prog E cx n27_42 st = thenS (codeB Try.prog E cx n27_43 st) (codeB Try.prog E cx n27_52) := GE.seq_step (by kernel_rfl)
theorem n27_36s : codeB Try.prog E cx n27_36 st = thenS (codeB Try.prog E cx n27_37 st) (codeB Try.prog E cx n27_42) := GE.seq_step (by kernel_rfl)
theorem n27_35s : codeB Try.prog E cx n27_35 st = blockS 2 (codeB Try.prog E cx n27_36 st) st := GE.block_step (by kernel_rfl)
theorem n27_55s : codeB Try.prog E ⟨f, 68, b, ro⟩ n27_55 st = plainS (runOps Try.prog E b q27_55 (ops [true, true, true, true, true, false, true, false, false, true, true] Try.f27) st) := GE.region_step (id := 10) (GE.reg_of (by kernel_rfl)) (by kernel_rfl)
theorem n27_34s : codeB Try.prog E cx n27_34 st = thenS (codeB Try.prog E cx n27_35 st) (codeB Try.prog E cx n27_55) := GE.seq_step (by kernel_rfl)
theorem n27_28s : codeB Try.prog E cx n27_28 st = thenS (codeB Try.prog E cx n27_29 st) (codeB Try.prog E cx n27_34) := GE.seq_step (by kernel_rfl)
theorem n27_27k : LL.kp (⟨27, 68, b, ro⟩ : Cx).fn (4 * rid n27_28 + 3) = some ⟨[0, 1, 6, 8, 9, 10], [⟨0, 0, 2, true⟩, ⟨8, 0, 1, true⟩]⟩ := by kernel_rfl
theorem n27_27s : codeB Try.prog LL ⟨27, 68, b, ro⟩ n27_27 st = headS b ⟨[0, 1, 6, 8, 9, 10], [⟨0, 0, 2, true⟩, ⟨8, 0, 1, true⟩]⟩ st (lpB Try.prog LL ⟨27, 68, b, ro⟩ n27_27 n27_28) := GE.lpB_step (by kernel_rfl) (n27_27k b ro)
theorem n27_27g : LL.code ⟨27, 68, b, ro⟩ n27_27 st = headS b ⟨[0, 1, 6, 8, 9, 10], [⟨0, 0, 2, true⟩, ⟨8, 0, 1, true⟩]⟩ st (lpB Try.prog LL ⟨27, 68, b, ro⟩ n27_27 n27_28) := GE.lpB_again (by kernel_rfl) (n27_27k b ro)
theorem n27_26s : codeB Try.prog E cx n27_26 st = blockS 1 (codeB Try.prog E cx n27_27 st) st := GE.block_step (by kernel_rfl)
theorem n27_24s : codeB Try.prog E cx n27_24 st = thenS (codeB Try.prog E cx n27_25 st) (codeB Try.prog E cx n27_26) := GE.seq_step (by kernel_rfl)
theorem n27_57s : codeB Try.prog E ⟨f, 68, b, ro⟩ n27_57 st = plainS (runOps Try.prog E b q27_57 (ops [true, true, true, true, true, true, false] Try.f27) st) := GE.region_step (id := 17) (GE.reg_of (by kernel_rfl)) (by kernel_rfl)
theorem n27_58s : codeB Try.prog LL ⟨27, 68, b, ro⟩ n27_58 st = normS b ⟨[4, 5], [⟨4, 0, 1, true⟩]⟩ .ret st := GE.ret_step (by kernel_rfl) (by kernel_rfl)
theorem n27_56s : codeB Try.prog E cx n27_56 st = thenS (codeB Try.prog E cx n27_57 st) (codeB Try.prog E cx n27_58) := GE.seq_step (by kernel_rfl)
theorem n27_23s : codeB Try.prog E cx n27_23 st = thenS (codeB Try.prog E cx n27_24 st) (codeB Try.prog E cx n27_56) := GE.seq_step (by kernel_rfl)
theorem n27_21s : codeB Try.prog E cx n27_21 st = thenS (codeB Try.prog E cx n27_22 st) (codeB Try.prog E cx n27_23) := GE.seq_step (by kernel_rfl)
theorem n27_19s : codeB Try.prog E cx n27_19 st = thenS (codeB Try.prog E cx n27_20 st) (codeB Try.prog E cx n27_21) := GE.seq_step (by kernel_rfl)
theorem n27_4s : codeB Try.prog E cx n27_4 st = thenS (codeB Try.prog E cx n27_5 st) (codeB Try.prog E cx n27_19) := GE.seq_step (by kernel_rfl)
theorem n27_2s : codeB Try.prog E cx n27_2 st = thenS (codeB Try.prog E cx n27_3 st) (codeB Try.prog E cx n27_4) := GE.seq_step (by kernel_rfl)
theorem n27_0s : codeB Try.prog E cx n27_0 st = thenS (codeB Try.prog E cx n27_1 st) (codeB Try.prog E cx n27_2) := GE.seq_step (by kernel_rfl)
noncomputable def n35_0 : Code := bodyOf Try.f35
noncomputable def n35_1 : Code := cl n35_0
noncomputable def q35_1 : List Oper := opsOf n35_1
noncomputable def n35_2 : Code := cr n35_0
noncomputable def n35_3 : Code := cl n35_2
noncomputable def q35_3 : List Oper := opsOf n35_3
noncomputable def n35_4 : Code := cr n35_2
noncomputable def n35_5 : Code := cl n35_4
noncomputable def n35_6 : Code := cl n35_5
noncomputable def q35_6 : List Oper := opsOf n35_6
noncomputable def n35_7 : Code := cr n35_5
noncomputable def n35_8 : Code := cl n35_7
noncomputable def n35_9 : Code := cl n35_8
noncomputable def n35_10 : Code := cl n35_9
noncomputable def n35_11 : Code := cl n35_10
noncomputable def q35_11 : List Oper := opsOf n35_11
noncomputable def n35_12 : Code := cr n35_10
noncomputable def n35_13 : Code := cl n35_12
noncomputable def n35_14 : Code := cr n35_12
noncomputable def n35_15 : Code := cr n35_9
noncomputable def n35_16 : Code := cl n35_15
noncomputable def n35_17 : Code := cl n35_16
noncomputable def n35_18 : Code := cl n35_17
noncomputable def q35_18 : List Oper := opsOf n35_18
noncomputable def n35_19 : Code := cr n35_17
noncomputable def q35_19 : List Oper := opsOf n35_19
noncomputable def n35_20 : Code := cr n35_15
noncomputable def q35_20 : List Oper := opsOf n35_20
noncomputable def n35_21 : Code := cr n35_4
noncomputable def n35_22 : Code := cl n35_21
noncomputable def n35_23 : Code := cl n35_22
noncomputable def q35_23 : List Oper := opsOf n35_23
noncomputable def n35_24 : Code := cr n35_22
noncomputable def n35_25 : Code := cl n35_24
noncomputable def q35_25 : List Oper := opsOf n35_25
noncomputable def n35_26 : Code := cr n35_24
noncomputable def n35_27 : Code := cr n35_21
noncomputable def n35_28 : Code := cl n35_27
noncomputable def q35_28 : List Oper := opsOf n35_28
noncomputable def n35_29 : Code := cr n35_27
theorem body35 : Try.f35.body = some n35_0 := by kernel_rfl
theorem run35 (E : Ev) (args : List Value) (h : List Blk) (hl : args.length ≤ 43) : runB Try.prog E 35 args h = endS Try.prog [.tmp 2] h.length (codeB Try.prog E ⟨35, 43, h.length, none⟩ n35_0 ⟨enumT 0 args, h, []⟩) := GE.run_step Try.func35 body35 (by kernel_rfl) (by decide) (by kernel_rfl) hl
theorem n35_1s : codeB Try.prog E ⟨f, 43, b, ro⟩ n35_1 st = plainS (runOps Try.prog E b q35_1 (ops [false] Try.f35) st) := GE.region_step (id := 0) (GE.reg_of (by kernel_rfl)) (by kernel_rfl)
theorem n35_3s : codeB Try.prog E ⟨f, 43, b, ro⟩ n35_3 st = plainS (runOps Try.prog E b q35_3 (ops [true, false] Try.f35) st) := GE.region_step (id := 1) (GE.reg_of (by kernel_rfl)) (by kernel_rfl)
theorem n35_6s : codeB Try.prog E ⟨f, 43, b, ro⟩ n35_6 st = plainS (runOps Try.prog E b q35_6 (ops [true, true, false, false] Try.f35) st) := GE.region_step (id := 2) (GE.reg_of (by kernel_rfl)) (by kernel_rfl)
theorem q35_11g4 : gd q35_11 4 = some 10 := by kernel_rfl
theorem n35_11s : codeB Try.prog E ⟨f, 43, b, ro⟩ n35_11 st = plainS (runOps Try.prog E b q35_11 (ops [true, true, false, true, false, false, false, false] Try.f35) st) := GE.region_step (id := 3) (GE.reg_of (by kernel_rfl)) (by kernel_rfl)
theorem n35_13s : codeB Try.prog E cx n35_13 st = some (.normal, st) := GE.skip_step (by kernel_rfl)
theorem n35_14s : codeB Try.prog LL ⟨35, 43, b, ro⟩ n35_14 st = normS b ⟨[3], [⟨3, 0, 2, true⟩]⟩ (.exit 0) st := GE.exit_step (by kernel_rfl) (by kernel_rfl)
theorem n35_12s : codeB Try.prog E cx n35_12 st = condS (codeB Try.prog E cx n35_13) (codeB Try.prog E cx n35_14) (lk st.σ 13) st := GE.cond_step (c := .tmp 13) (by kernel_rfl)
theorem n35_10s : codeB Try.prog E cx n35_10 st = thenS (codeB Try.prog E cx n35_11 st) (codeB Try.prog E cx n35_12) := GE.seq_step (by kernel_rfl)
theorem n35_18s : codeB Try.prog E ⟨f, 43, b, ro⟩ n35_18 st = plainS (runOps Try.prog E b q35_18 (ops [true, true, false, true, false, false, true, false, false, false] Try.f35) st) := GE.region_step (id := 5) (GE.reg_of (by kernel_rfl)) (by kernel_rfl)
theorem n35_19s : codeB Try.prog E ⟨f, 43, b, ro⟩ n35_19 st = plainS (runOps Try.prog E b q35_19 (ops [true, true, false, true, false, false, true, false, false, true] Try.f35) st) := GE.region_step (id := 6) (GE.reg_of (by kernel_rfl)) (by kernel_rfl)
theorem n35_17s : codeB Try.prog E cx n35_17 st = thenS (codeB Try.prog E cx n35_18 st) (codeB Try.prog E cx n35_19) := GE.seq_step (by kernel_rfl)
theorem n35_16s : codeB Try.prog E cx n35_16 st = blockS 1 (codeB Try.prog E cx n35_17 st) st := GE.block_step (by kernel_rfl)
theorem n35_20s : codeB Try.prog E ⟨f, 43, b, ro⟩ n35_20 st = plainS (runOps Try.prog E b q35_20 (ops [true, true, false, true, false, false, true, true] Try.f35) st) := GE.region_step (id := 4) (GE.reg_of (by kernel_rfl)) (by kernel_rfl)
theorem n35_15s : codeB Try.prog E cx n35_15 st = thenS (codeB Try.prog E cx n35_16 st) (codeB Try.prog E cx n35_20) := GE.seq_step (by kernel_rfl)
theorem n35_9s : codeB Try.prog E cx n35_9 st = thenS (codeB Try.prog E cx n35_10 st) (codeB Try.prog E cx n35_15) := GE.seq_step (by kernel_rfl)
theorem n35_8k : LL.kp (⟨35, 43, b, ro⟩ : Cx).fn (4 * rid n35_9 + 3) = some ⟨[0, 3, 4], [⟨0, 0, 2, true⟩, ⟨3, 0, 2, true⟩]⟩ := by kernel_rfl
theorem n35_8s : codeB Try.prog LL ⟨35, 43, b, ro⟩ n35_8 st = headS b ⟨[0, 3, 4], [⟨0, 0, 2, true⟩, ⟨3, 0, 2, true⟩]⟩ st (lpB Try.prog LL ⟨35, 43, b, ro⟩ n35_8 n35_9) := GE.lpB_step (by kernel_rfl) (n35_8k b ro)
theorem n35_8g : LL.code ⟨35, 43, b, ro⟩ n35_8 st = headS b ⟨[0, 3, 4], [⟨0, 0, 2, true⟩, ⟨3, 0, 2, true⟩]⟩ st (lpB Try.prog LL ⟨35, 43, b, ro⟩ n35_8 n35_9) := GE.lpB_again (by kernel_rfl) (n35_8k b ro)
theorem n35_7s : codeB Try.prog E cx n35_7 st = blockS 0 (codeB Try.prog E cx n35_8 st) st := GE.block_step (by kernel_rfl)
theorem n35_5s : codeB Try.prog E cx n35_5 st = thenS (codeB Try.prog E cx n35_6 st) (codeB Try.prog E cx n35_7) := GE.seq_step (by kernel_rfl)
theorem n35_23s : codeB Try.prog E ⟨f, 43, b, ro⟩ n35_23 st = plainS (runOps Try.prog E b q35_23 (ops [true, true, true, false, false] Try.f35) st) := GE.region_step (id := 7) (GE.reg_of (by kernel_rfl)) (by kernel_rfl)
theorem n35_25s : codeB Try.prog E ⟨f, 43, b, ro⟩ n35_25 st = plainS (runOps Try.prog E b q35_25 (ops [true, true, true, false, true, false] Try.f35) st) := GE.region_step (id := 8) (GE.reg_of (by kernel_rfl)) (by kernel_rfl)
theorem n35_26s : codeB Try.prog E cx n35_26 st = some (.normal, st) := GE.skip_step (by kernel_rfl)
theorem n35_24s : codeB Try.prog E cx n35_24 st = condS (codeB Try.prog E cx n35_25) (codeB Try.prog E cx n35_26) (lk st.σ 39) st := GE.cond_step (c := .tmp 39) (by kernel_rfl)
theorem n35_22s : codeB Try.prog E cx n35_22 st = thenS (codeB Try.prog E cx n35_23 st) (codeB Try.prog E cx n35_24) := GE.seq_step (by kernel_rfl)
theorem n35_28s : codeB Try.prog E ⟨f, 43, b, ro⟩ n35_28 st = plainS (runOps Try.prog E b q35_28 (ops [true, true, true, true, false] Try.f35) st) := GE.region_step (id := 9) (GE.reg_of (by kernel_rfl)) (by kernel_rfl)
theorem n35_29s : codeB Try.prog LL ⟨35, 43, b, ro⟩ n35_29 st = normS b ⟨[2], [⟨2, 0, 2, true⟩]⟩ .ret st := GE.ret_step (by kernel_rfl) (by kernel_rfl)
theorem n35_27s : codeB Try.prog E cx n35_27 st = thenS (codeB Try.prog E cx n35_28 st) (codeB Try.prog E cx n35_29) := GE.seq_step (by kernel_rfl)
theorem n35_21s : codeB Try.prog E cx n35_21 st = thenS (codeB Try.prog E cx n35_22 st) (codeB Try.prog E cx n35_27) := GE.seq_step (by kernel_rfl)
theorem n35_4s : codeB Try.prog E cx n35_4 st = thenS (codeB Try.prog E cx n35_5 st) (codeB Try.prog E cx n35_21) := GE.seq_step (by kernel_rfl)
theorem n35_2s : codeB Try.prog E cx n35_2 st = thenS (codeB Try.prog E cx n35_3 st) (codeB Try.prog E cx n35_4) := GE.seq_step (by kernel_rfl)
theorem n35_0s : codeB Try.prog E cx n35_0 st = thenS (codeB Try.prog E cx n35_1 st) (codeB Try.prog E cx n35_2) := GE.seq_step (by kernel_rfl)
noncomputable def n36_0 : Code := bodyOf Try.f36
noncomputable def n36_1 : Code := cl n36_0
noncomputable def q36_1 : List Oper := opsOf n36_1
noncomputable def n36_2 : Code := cr n36_0
noncomputable def n36_3 : Code := cl n36_2
noncomputable def n36_4 : Code := cl n36_3
noncomputable def q36_4 : List Oper := opsOf n36_4
noncomputable def n36_5 : Code := cr n36_3
noncomputable def n36_6 : Code := cl n36_5
noncomputable def n36_7 : Code := cl n36_6
noncomputable def n36_8 : Code := cl n36_7
noncomputable def q36_8 : List Oper := opsOf n36_8
noncomputable def n36_9 : Code := cr n36_7
noncomputable def n36_10 : Code := cl n36_9
noncomputable def n36_11 : Code := cl n36_10
noncomputable def q36_11 : List Oper := opsOf n36_11
noncomputable def n36_12 : Code := cr n36_10
noncomputable def n36_13 : Code := cr n36_9
noncomputable def n36_14 : Code := cr n36_6
noncomputable def n36_15 : Code := cl n36_14
noncomputable def q36_15 : List Oper := opsOf n36_15
noncomputable def n36_16 : Code := cr n36_14
noncomputable def n36_17 : Code := cr n36_5
noncomputable def n36_18 : Code := cr n36_2
noncomputable def n36_19 : Code := cl n36_18
noncomputable def q36_19 : List Oper := opsOf n36_19
noncomputable def n36_20 : Code := cr n36_18
noncomputable def n36_21 : Code := cl n36_20
noncomputable def n36_22 : Code := cl n36_21
noncomputable def q36_22 : List Oper := opsOf n36_22
noncomputable def n36_23 : Code := cr n36_21
noncomputable def n36_24 : Code := cl n36_23
noncomputable def n36_25 : Code := cl n36_24
noncomputable def n36_26 : Code := cl n36_25
noncomputable def q36_26 : List Oper := opsOf n36_26
noncomputable def n36_27 : Code := cr n36_25
noncomputable def n36_28 : Code := cl n36_27
noncomputable def n36_29 : Code := cl n36_28
noncomputable def n36_30 : Code := cr n36_28
noncomputable def n36_31 : Code := cr n36_27
noncomputable def n36_32 : Code := cl n36_31
noncomputable def n36_33 : Code := cl n36_32
noncomputable def n36_34 : Code := cl n36_33
noncomputable def q36_34 : List Oper := opsOf n36_34
noncomputable def n36_35 : Code := cr n36_33
noncomputable def n36_36 : Code := cl n36_35
noncomputable def q36_36 : List Oper := opsOf n36_36
noncomputable def n36_37 : Code := cr n36_35
noncomputable def n36_38 : Code := cl n36_37
noncomputable def n36_39 : Code := cl n36_38
noncomputable def q36_39 : List Oper := opsOf n36_39
noncomputable def n36_40 : Code := cr n36_38
noncomputable def n36_41 : Code := cl n36_40
noncomputable def n36_42 : Code := cl n36_41
noncomputable def n36_43 : Code := cl n36_42
noncomputable def q36_43 : List Oper := opsOf n36_43
noncomputable def n36_44 : Code := cr n36_42
noncomputable def n36_45 : Code := cl n36_44
noncomputable def n36_46 : Code := cl n36_45
noncomputable def n36_47 : Code := cr n36_45
noncomputable def n36_48 : Code := cr n36_44
noncomputable def n36_49 : Code := cl n36_48
noncomputable def n36_50 : Code := cl n36_49
noncomputable def n36_51 : Code := cl n36_50
noncomputable def q36_51 : List Oper := opsOf n36_51
noncomputable def n36_52 : Code := cr n36_50
noncomputable def q36_52 : List Oper := opsOf n36_52
noncomputable def n36_53 : Code := cr n36_48
noncomputable def q36_53 : List Oper := opsOf n36_53
noncomputable def n36_54 : Code := cr n36_37
noncomputable def n36_55 : Code := cl n36_54
noncomputable def q36_55 : List Oper := opsOf n36_55
noncomputable def n36_56 : Code := cr n36_54
noncomputable def n36_57 : Code := cl n36_56
noncomputable def q36_57 : List Oper := opsOf n36_57
noncomputable def n36_58 : Code := cr n36_56
noncomputable def n36_59 : Code := cr n36_31
noncomputable def q36_59 : List Oper := opsOf n36_59
noncomputable def n36_60 : Code := cr n36_20
noncomputable def n36_61 : Code := cl n36_60
noncomputable def q36_61 : List Oper := opsOf n36_61
noncomputable def n36_62 : Code := cr n36_60
theorem body36 : Try.f36.body = some n36_0 := by kernel_rfl
theorem run36 (E : Ev) (args : List Value) (h : List Blk) (hl : args.length ≤ 52) : runB Try.prog E 36 args h = endS Try.prog [.tmp 4] h.length (codeB Try.prog E ⟨36, 52, h.length, none⟩ n36_0 ⟨enumT 0 args, h, []⟩) := GE.run_step Try.func36 body36 (by kernel_rfl) (by decide) (by kernel_rfl) hl
theorem n36_1s : codeB Try.prog E ⟨f, 52, b, ro⟩ n36_1 st = plainS (runOps Try.prog E b q36_1 (ops [false] Try.f36) st) := GE.region_step (id := 0) (GE.reg_of (by kernel_rfl)) (by kernel_rfl)
theorem n36_4s : codeB Try.prog E ⟨f, 52, b, ro⟩ n36_4 st = plainS (runOps Try.prog E b q36_4 (ops [true, false, false] Try.f36) st) := GE.region_step (id := 1) (GE.reg_of (by kernel_rfl)) (by kernel_rfl)
theorem n36_8s : codeB Try.prog E ⟨f, 52, b, ro⟩ n36_8 st = plainS (runOps Try.prog E b q36_8 (ops [true, false, true, false, false, false] Try.f36) st) := GE.region_step (id := 2) (GE.reg_of (by kernel_rfl)) (by kernel_rfl)
theorem n36_11s : codeB Try.prog E ⟨f, 52, b, ro⟩ n36_11 st = plainS (runOps Try.prog E b q36_11 (ops [true, false, true, false, false, true, false, false] Try.f36) st) := GE.region_step (id := 3) (GE.reg_of (by kernel_rfl)) (by kernel_rfl)
theorem n36_12s : codeB Try.prog LL ⟨36, 52, b, ro⟩ n36_12 st = normS b ⟨[4], [⟨4, 0, 1, false⟩]⟩ .ret st := GE.ret_step (by kernel_rfl) (by kernel_rfl)
theorem n36_10s : codeB Try.prog E cx n36_10 st = thenS (codeB Try.prog E cx n36_11 st) (codeB Try.prog E cx n36_12) := GE.seq_step (by kernel_rfl)
theorem n36_13s : codeB Try.prog E cx n36_13 st = some (.normal, st) := GE.skip_step (by kernel_rfl)
theorem n36_9s : codeB Try.prog E cx n36_9 st = condS (codeB Try.prog E cx n36_10) (codeB Try.prog E cx n36_13) (lk st.σ 17) st := GE.cond_step (c := .tmp 17) (by kernel_rfl)
theorem n36_7s : codeB Try.prog E cx n36_7 st = thenS (codeB Try.prog E cx n36_8 st) (codeB Try.prog E cx n36_9) := GE.seq_step (by kernel_rfl)
theorem n36_15s : codeB Try.prog E ⟨f, 52, b, ro⟩ n36_15 st = plainS (runOps Try.prog E b q36_15 (ops [true, false, true, false, true, false] Try.f36) st) := GE.region_step (id := 4) (GE.reg_of (by kernel_rfl)) (by kernel_rfl)
theorem n36_16s : codeB Try.prog LL ⟨36, 52, b, ro⟩ n36_16 st = normS b ⟨[4], [⟨4, 0, 1, false⟩]⟩ .ret st := GE.ret_step (by kernel_rfl) (by kernel_rfl)
theorem n36_14s : codeB Try.prog E cx n36_14 st = thenS (codeB Try.prog E cx n36_15 st) (codeB Try.prog E cx n36_16) := GE.seq_step (by kernel_rfl)
theorem n36_6s : codeB Try.prog E cx n36_6 st = thenS (codeB Try.prog E cx n36_7 st) (codeB Try.prog E cx n36_14) := GE.seq_step (by kernel_rfl)
theorem n36_17s : codeB Try.prog E cx n36_17 st = some (.normal, st) := GE.skip_step (by kernel_rfl)
theorem n36_5s : codeB Try.prog E cx n36_5 st = condS (codeB Try.prog E cx n36_6) (codeB Try.prog E cx n36_17) (lk st.σ 14) st := GE.cond_step (c := .tmp 14) (by kernel_rfl)
theorem n36_3s : codeB Try.prog E cx n36_3 st = thenS (codeB Try.prog E cx n36_4 st) (codeB Try.prog E cx n36_5) := GE.seq_step (by kernel_rfl)
theorem n36_19s : codeB Try.prog E ⟨f, 52, b, ro⟩ n36_19 st = plainS (runOps Try.prog E b q36_19 (ops [true, true, false] Try.f36) st) := GE.region_step (id := 5) (GE.reg_of (by kernel_rfl)) (by kernel_rfl)
theorem n36_22s : codeB Try.prog E ⟨f, 52, b, ro⟩ n36_22 st = plainS (runOps Try.prog E b q36_22 (ops [true, true, true, false, false] Try.f36) st) := GE.region_step (id := 6) (GE.reg_of (by kernel_rfl)) (by kernel_rfl)
theorem n36_26s : codeB Try.prog E ⟨f, 52, b, ro⟩ n36_26 st = plainS (runOps Try.prog E b q36_26 (ops [true, true, true, false, true, false, false, false] Try.f36) st) := GE.region_step (id := 7) (GE.reg_of (by kernel_rfl)) (by kernel_rfl)
theorem n36_29s : codeB Try.prog E cx n36_29 st = some (.normal, st) := GE.skip_step (by kernel_rfl)
theorem n36_30s : codeB Try.prog LL ⟨36, 52, b, ro⟩ n36_30 st = normS b ⟨[5], [⟨5, 0, 1, false⟩]⟩ (.exit 0) st := GE.exit_step (by kernel_rfl) (by kernel_rfl)
theorem n36_28s : codeB Try.prog E cx n36_28 st = condS (codeB Try.prog E cx n36_29) (codeB Try.prog E cx n36_30) (lk st.σ 23) st := GE.cond_step (c := .tmp 23) (by kernel_rfl)
theorem n36_34s : codeB Try.prog E ⟨f, 52, b, ro⟩ n36_34 st = plainS (runOps Try.prog E b q36_34 (ops [true, true, true, false, true, false, false, true, true, false, false, false] Try.f36) st) := GE.region_step (id := 8) (GE.reg_of (by kernel_rfl)) (by kernel_rfl)
theorem n36_36s : codeB Try.prog E ⟨f, 52, b, ro⟩ n36_36 st = plainS (runOps Try.prog E b q36_36 (ops [true, true, true, false, true, false, false, true, true, false, false, true, false] Try.f36) st) := GE.region_step (id := 9) (GE.reg_of (by kernel_rfl)) (by kernel_rfl)
theorem n36_39s : codeB Try.prog E ⟨f, 52, b, ro⟩ n36_39 st = plainS (runOps Try.prog E b q36_39 (ops [true, true, true, false, true, false, false, true, true, false, false, true, true, false, false] Try.f36) st) := GE.region_step (id := 10) (GE.reg_of (by kernel_rfl)) (by kernel_rfl)
theorem n36_43s : codeB Try.prog E ⟨f, 52, b, ro⟩ n36_43 st = plainS (runOps Try.prog E b q36_43 (ops [true, true, true, false, true, false, false, true, true, false, false, true, true, false, true, false, false, false] Try.f36) st) := GE.region_step (id := 11) (GE.reg_of (by kernel_rfl)) (by kernel_rfl)
theorem n36_46s : codeB Try.prog E cx n36_46 st = some (.normal, st) := GE.skip_step (by kernel_rfl)
theorem n36_47s : codeB Try.prog LL ⟨36, 52, b, ro⟩ n36_47 st = normS b ⟨[6, 7, 0, 1, 5, 21, 22], [⟨0, 0, 2, true⟩, ⟨1, 0, 1, true⟩, ⟨5, 0, 1, false⟩]⟩ (.exit 2) st := GE.exit_step (by kernel_rfl) (by kernel_rfl)
theorem n36_45s : codeB Try.prog E cx n36_45 st = condS (codeB Try.prog E cx n36_46) (codeB Try.prog E cx n36_47) (lk st.σ 28) st := GE.cond_step (c := .tmp 28) (by kernel_rfl)
theorem n36_51s : codeB Try.prog E ⟨f, 52, b, ro⟩ n36_51 st = plainS (runOps Try.prog E b q36_51 (ops [true, true, true, false, true, false, false, true, true, false, false, true, true, false, true, false, false, true, true, false, false, false] Try.f36) st) := GE.region_step (id := 12) (GE.reg_of (by kernel_rfl)) (by kernel_rfl)
theorem q36_52g1 : gd q36_52 1 = some 32 := by kernel_rfl
theorem n36_52s : codeB Try.prog E ⟨f, 52, b, ro⟩ n36_52 st = plainS (runOps Try.prog E b q36_52 (ops [true, true, true, false, true, false, false, true, true, false, false, true, true, false, true, false, false, true, true, false, false, true] Try.f36) st) := GE.region_step (id := 13) (GE.reg_of (by kernel_rfl)) (by kernel_rfl)
theorem n36_50s : codeB Try.prog E cx n36_50 st = thenS (codeB Try.prog E cx n36_51 st) (codeB Try.prog E cx n36_52) := GE.seq_step (by kernel_rfl)
theorem n36_49s : codeB Try.prog E cx n36_49 st = blockS 3 (codeB Try.prog E cx n36_50 st) st := GE.block_step (by kernel_rfl)
theorem n36_53s : codeB Try.prog E ⟨f, 52, b, ro⟩ n36_53 st = plainS (runOps Try.prog E b q36_53 (ops [true, true, true, false, true, false, false, true, true, false, false, true, true, false, true, false, false, true, true, true] Try.f36) st) := GE.region_step (id := 14) (GE.reg_of (by kernel_rfl)) (by kernel_rfl)
theorem n36_48s : codeB Try.prog E cx n36_48 st = thenS (codeB Try.prog E cx n36_49 st) (codeB Try.prog E cx n36_53) := GE.seq_step (by kernel_rfl)
theorem n36_44s : codeB Try.prog E cx n36_44 st = thenS (codeB Try.prog E cx n36_45 st) (codeB Try.prog E cx n36_48) := GE.seq_step (by kernel_rfl)
theorem n36_42s : codeB Try.prog E cx n36_42 st = thenS (codeB Try.prog E cx n36_43 st) (codeB Try.prog E cx n36_44) := GE.seq_step (by kernel_rfl)
theorem n36_41k : LL.kp (⟨36, 52, b, ro⟩ : Cx).fn (4 * rid n36_42 + 3) = some ⟨[6, 7, 25, 26, 27, 0, 1, 5, 21, 22], [⟨25, 0, 1, true⟩, ⟨0, 0, 2, true⟩, ⟨1, 0, 1, true⟩, ⟨5, 0, 1, false⟩]⟩ := by kernel_rfl
theorem n36_41s : codeB Try.prog LL ⟨36, 52, b, ro⟩ n36_41 st = headS b ⟨[6, 7, 25, 26, 27, 0, 1, 5, 21, 22], [⟨25, 0, 1, true⟩, ⟨0, 0, 2, true⟩, ⟨1, 0, 1, true⟩, ⟨5, 0, 1, false⟩]⟩ st (lpB Try.prog LL ⟨36, 52, b, ro⟩ n36_41 n36_42) := GE.lpB_step (by kernel_rfl) (n36_41k b ro)
theorem n36_41g : LL.code ⟨36, 52, b, ro⟩ n36_41 st = headS b ⟨[6, 7, 25, 26, 27, 0, 1, 5, 21, 22], [⟨25, 0, 1, true⟩, ⟨0, 0, 2, true⟩, ⟨1, 0, 1, true⟩, ⟨5, 0, 1, false⟩]⟩ st (lpB Try.prog LL ⟨36, 52, b, ro⟩ n36_41 n36_42) := GE.lpB_again (by kernel_rfl) (n36_41k b ro)
theorem n36_40s : codeB Try.prog E cx n36_40 st = blockS 2 (codeB Try.prog E cx n36_41 st) st := GE.block_step (by kernel_rfl)
theorem n36_38s : codeB Try.prog E cx n36_38 st = thenS (codeB Try.prog E cx n36_39 st) (codeB Try.prog E cx n36_40) := GE.seq_step (by kernel_rfl)
theorem n36_55s : codeB Try.prog E ⟨f, 52, b, ro⟩ n36_55 st = plainS (runOps Try.prog E b q36_55 (ops [true, true, true, false, true, false, false, true, true, false, false, true, true, true, false] Try.f36) st) := GE.region_step (id := 15) (GE.reg_of (by kernel_rfl)) (by kernel_rfl)
theorem n36_57s : codeB Try.prog E ⟨f, 52, b, ro⟩ n36_57 st = plainS (runOps Try.prog E b q36_57 (ops [true, true, true, false, true, false, false, true, true, false, false, true, true, true, true, false] Try.f36) st) := GE.region_step (id := 16) (GE.reg_of (by kernel_rfl)) (by kernel_rfl)
theorem n36_58s : codeB Try.prog E cx n36_58 st = some (.normal, st) := GE.skip_step (by kernel_rfl)
theorem n36_56s : codeB Try.prog E cx n36_56 st = condS (codeB Try.prog E cx n36_57) (codeB Try.prog E cx n36_58) (lk st.σ 39) st := GE.cond_step (c := .tmp 39) (by kernel_rfl)
theorem n36_54s : codeB Try.prog E cx n36_54 st = thenS (codeB Try.prog E cx n36_55 st) (codeB Try.prog E cx n36_56) := GE.seq_step (by kernel_rfl)
theorem n36_37s : codeB Try.prog E cx n36_37 st = thenS (codeB Try.prog E cx n36_38 st) (codeB Try.prog E cx n36_54) := GE.seq_step (by kernel_rfl)
theorem n36_35s : codeB Try.prog E cx n36_35 st = thenS (codeB Try.prog E cx n36_36 st) (codeB Try.prog E cx n36_37) := GE.seq_step (by kernel_rfl)
theorem n36_33s : codeB Try.prog E cx n36_33 st = thenS (codeB Try.prog E cx n36_34 st) (codeB Try.prog E cx n36_35) := GE.seq_step (by kernel_rfl)
theorem n36_32s : codeB Try.prog E cx n36_32 st = blockS 1 (codeB Try.prog E cx n36_33 st) st := GE.block_step (by kernel_rfl)
theorem n36_59s : codeB Try.prog E ⟨f, 52, b, ro⟩ n36_59 st = plainS (runOps Try.prog E b q36_59 (ops [true, true, true, false, true, false, false, true, true, true] Try.f36) st) := GE.region_step (id := 17) (GE.reg_of (by kernel_rfl)) (by kernel_rfl)
theorem n36_31s : codeB Try.prog E cx n36_31 st = thenS (codeB Try.prog E cx n36_32 st) (codeB Try.prog E cx n36_59) := GE.seq_step (by kernel_rfl)
theorem n36_27s : codeB Try.prog E cx n36_27 st = thenS (codeB Try.prog E cx n36_28 st) (codeB Try.prog E cx n36_31) := GE.seq_step (by kernel_rfl)
theorem n36_25s : codeB Try.prog E cx n36_25 st = thenS (codeB Try.prog E cx n36_26 st) (codeB Try.prog E cx n36_27) := GE.seq_step (by kernel_rfl)
theorem n36_24k : LL.kp (⟨36, 52, b, ro⟩ : Cx).fn (4 * rid n36_25 + 3) = some ⟨[0, 1, 5, 21, 22], [⟨0, 0, 2, true⟩, ⟨1, 0, 1, true⟩, ⟨5, 0, 1, false⟩]⟩ := by kernel_rfl
theorem n36_24s : codeB Try.prog LL ⟨36, 52, b, ro⟩ n36_24 st = headS b ⟨[0, 1, 5, 21, 22], [⟨0, 0, 2, true⟩, ⟨1, 0, 1, true⟩, ⟨5, 0, 1, false⟩]⟩ st (lpB Try.prog LL ⟨36, 52, b, ro⟩ n36_24 n36_25) := GE.lpB_step (by kernel_rfl) (n36_24k b ro)
theorem n36_24g : LL.code ⟨36, 52, b, ro⟩ n36_24 st = headS b ⟨[0, 1, 5, 21, 22], [⟨0, 0, 2, true⟩, ⟨1, 0, 1, true⟩, ⟨5, 0, 1, false⟩]⟩ st (lpB Try.prog LL ⟨36, 52, b, ro⟩ n36_24 n36_25) := GE.lpB_again (by kernel_rfl) (n36_24k b ro)
theorem n36_23s : codeB Try.prog E cx n36_23 st = blockS 0 (codeB Try.prog E cx n36_24 st) st := GE.block_step (by kernel_rfl)
theorem n36_21s : codeB Try.prog E cx n36_21 st = thenS (codeB Try.prog E cx n36_22 st) (codeB Try.prog E cx n36_23) := GE.seq_step (by kernel_rfl)
theorem n36_61s : codeB Try.prog E ⟨f, 52, b, ro⟩ n36_61 st = plainS (runOps Try.prog E b q36_61 (ops [true, true, true, true, false] Try.f36) st) := GE.region_step (id := 18) (GE.reg_of (by kernel_rfl)) (by kernel_rfl)
theorem n36_62s : codeB Try.prog LL ⟨36, 52, b, ro⟩ n36_62 st = normS b ⟨[4], [⟨4, 0, 1, false⟩]⟩ .ret st := GE.ret_step (by kernel_rfl) (by kernel_rfl)
theorem n36_60s : codeB Try.prog E cx n36_60 st = thenS (codeB Try.prog E cx n36_61 st) (codeB Try.prog E cx n36_62) := GE.seq_step (by kernel_rfl)
theorem n36_20s : codeB Try.prog E cx n36_20 st = thenS (codeB Try.prog E cx n36_21 st) (codeB Try.prog E cx n36_60) := GE.seq_step (by kernel_rfl)
theorem n36_18s : codeB Try.prog E cx n36_18 st = thenS (codeB Try.prog E cx n36_19 st) (codeB Try.prog E cx n36_20) := GE.seq_step (by kernel_rfl)
theorem n36_2s : codeB Try.prog E cx n36_2 st = thenS (codeB Try.prog E cx n36_3 st) (codeB Try.prog E cx n36_18) := GE.seq_step (by kernel_rfl)
theorem n36_0s : codeB Try.prog E cx n36_0 st = thenS (codeB Try.prog E cx n36_1 st) (codeB Try.prog E cx n36_2) := GE.seq_step (by kernel_rfl)
noncomputable def n37_0 : Code := bodyOf Try.f37
noncomputable def n37_1 : Code := cl n37_0
noncomputable def q37_1 : List Oper := opsOf n37_1
noncomputable def n37_2 : Code := cr n37_0
noncomputable def n37_3 : Code := cl n37_2
noncomputable def n37_4 : Code := cl n37_3
noncomputable def q37_4 : List Oper := opsOf n37_4
noncomputable def n37_5 : Code := cr n37_3
noncomputable def n37_6 : Code := cl n37_5
noncomputable def q37_6 : List Oper := opsOf n37_6
noncomputable def n37_7 : Code := cr n37_5
noncomputable def n37_8 : Code := cl n37_7
noncomputable def n37_9 : Code := cl n37_8
noncomputable def q37_9 : List Oper := opsOf n37_9
noncomputable def n37_10 : Code := cr n37_8
noncomputable def n37_11 : Code := cr n37_7
noncomputable def n37_12 : Code := cr n37_2
noncomputable def n37_13 : Code := cl n37_12
noncomputable def n37_14 : Code := cl n37_13
noncomputable def q37_14 : List Oper := opsOf n37_14
noncomputable def n37_15 : Code := cr n37_13
noncomputable def n37_16 : Code := cl n37_15
noncomputable def q37_16 : List Oper := opsOf n37_16
noncomputable def n37_17 : Code := cr n37_15
noncomputable def n37_18 : Code := cl n37_17
noncomputable def n37_19 : Code := cl n37_18
noncomputable def q37_19 : List Oper := opsOf n37_19
noncomputable def n37_20 : Code := cr n37_18
noncomputable def n37_21 : Code := cr n37_17
noncomputable def n37_22 : Code := cr n37_12
noncomputable def n37_23 : Code := cl n37_22
noncomputable def q37_23 : List Oper := opsOf n37_23
noncomputable def n37_24 : Code := cr n37_22
theorem body37 : Try.f37.body = some n37_0 := by kernel_rfl
theorem run37 (E : Ev) (args : List Value) (h : List Blk) (hl : args.length ≤ 23) : runB Try.prog E 37 args h = endS Try.prog [.tmp 4] h.length (codeB Try.prog E ⟨37, 23, h.length, none⟩ n37_0 ⟨enumT 0 args, h, []⟩) := GE.run_step Try.func37 body37 (by kernel_rfl) (by decide) (by kernel_rfl) hl
theorem n37_1s : codeB Try.prog E ⟨f, 23, b, ro⟩ n37_1 st = plainS (runOps Try.prog E b q37_1 (ops [false] Try.f37) st) := GE.region_step (id := 0) (GE.reg_of (by kernel_rfl)) (by kernel_rfl)
theorem n37_4s : codeB Try.prog E ⟨f, 23, b, ro⟩ n37_4 st = plainS (runOps Try.prog E b q37_4 (ops [true, false, false] Try.f37) st) := GE.region_step (id := 1) (GE.reg_of (by kernel_rfl)) (by kernel_rfl)
theorem n37_6s : codeB Try.prog E ⟨f, 23, b, ro⟩ n37_6 st = plainS (runOps Try.prog E b q37_6 (ops [true, false, true, false] Try.f37) st) := GE.region_step (id := 2) (GE.reg_of (by kernel_rfl)) (by kernel_rfl)
theorem n37_9s : codeB Try.prog E ⟨f, 23, b, ro⟩ n37_9 st = plainS (runOps Try.prog E b q37_9 (ops [true, false, true, true, false, false] Try.f37) st) := GE.region_step (id := 3) (GE.reg_of (by kernel_rfl)) (by kernel_rfl)
theorem n37_10s : codeB Try.prog LL ⟨37, 23, b, ro⟩ n37_10 st = normS b ⟨[4], []⟩ .ret st := GE.ret_step (by kernel_rfl) (by kernel_rfl)
theorem n37_8s : codeB Try.prog E cx n37_8 st = thenS (codeB Try.prog E cx n37_9 st) (codeB Try.prog E cx n37_10) := GE.seq_step (by kernel_rfl)
theorem n37_11s : codeB Try.prog E cx n37_11 st = some (.normal, st) := GE.skip_step (by kernel_rfl)
theorem n37_7s : codeB Try.prog E cx n37_7 st = condS (codeB Try.prog E cx n37_8) (codeB Try.prog E cx n37_11) (lk st.σ 13) st := GE.cond_step (c := .tmp 13) (by kernel_rfl)
theorem n37_5s : codeB Try.prog E cx n37_5 st = thenS (codeB Try.prog E cx n37_6 st) (codeB Try.prog E cx n37_7) := GE.seq_step (by kernel_rfl)
theorem n37_3s : codeB Try.prog E cx n37_3 st = thenS (codeB Try.prog E cx n37_4 st) (codeB Try.prog E cx n37_5) := GE.seq_step (by kernel_rfl)
theorem n37_14s : codeB Try.prog E ⟨f, 23, b, ro⟩ n37_14 st = plainS (runOps Try.prog E b q37_14 (ops [true, true, false, false] Try.f37) st) := GE.region_step (id := 4) (GE.reg_of (by kernel_rfl)) (by kernel_rfl)
theorem n37_16s : codeB Try.prog E ⟨f, 23, b, ro⟩ n37_16 st = plainS (runOps Try.prog E b q37_16 (ops [true, true, false, true, false] Try.f37) st) := GE.region_step (id := 5) (GE.reg_of (by kernel_rfl)) (by kernel_rfl)
theorem n37_19s : codeB Try.prog E ⟨f, 23, b, ro⟩ n37_19 st = plainS (runOps Try.prog E b q37_19 (ops [true, true, false, true, true, false, false] Try.f37) st) := GE.region_step (id := 6) (GE.reg_of (by kernel_rfl)) (by kernel_rfl)
theorem n37_20s : codeB Try.prog LL ⟨37, 23, b, ro⟩ n37_20 st = normS b ⟨[4], []⟩ .ret st := GE.ret_step (by kernel_rfl) (by kernel_rfl)
theorem n37_18s : codeB Try.prog E cx n37_18 st = thenS (codeB Try.prog E cx n37_19 st) (codeB Try.prog E cx n37_20) := GE.seq_step (by kernel_rfl)
theorem n37_21s : codeB Try.prog E cx n37_21 st = some (.normal, st) := GE.skip_step (by kernel_rfl)
theorem n37_17s : codeB Try.prog E cx n37_17 st = condS (codeB Try.prog E cx n37_18) (codeB Try.prog E cx n37_21) (lk st.σ 22) st := GE.cond_step (c := .tmp 22) (by kernel_rfl)
theorem n37_15s : codeB Try.prog E cx n37_15 st = thenS (codeB Try.prog E cx n37_16 st) (codeB Try.prog E cx n37_17) := GE.seq_step (by kernel_rfl)
theorem n37_13s : codeB Try.prog E cx n37_13 st = thenS (codeB Try.prog E cx n37_14 st) (codeB Try.prog E cx n37_15) := GE.seq_step (by kernel_rfl)
theorem n37_23s : codeB Try.prog E ⟨f, 23, b, ro⟩ n37_23 st = plainS (runOps Try.prog E b q37_23 (ops [true, true, true, false] Try.f37) st) := GE.region_step (id := 7) (GE.reg_of (by kernel_rfl)) (by kernel_rfl)
theorem n37_24s : codeB Try.prog LL ⟨37, 23, b, ro⟩ n37_24 st = normS b ⟨[4], []⟩ .ret st := GE.ret_step (by kernel_rfl) (by kernel_rfl)
theorem n37_22s : codeB Try.prog E cx n37_22 st = thenS (codeB Try.prog E cx n37_23 st) (codeB Try.prog E cx n37_24) := GE.seq_step (by kernel_rfl)
theorem n37_12s : codeB Try.prog E cx n37_12 st = thenS (codeB Try.prog E cx n37_13 st) (codeB Try.prog E cx n37_22) := GE.seq_step (by kernel_rfl)
theorem n37_2s : codeB Try.prog E cx n37_2 st = thenS (codeB Try.prog E cx n37_3 st) (codeB Try.prog E cx n37_12) := GE.seq_step (by kernel_rfl)
theorem n37_0s : codeB Try.prog E cx n37_0 st = thenS (codeB Try.prog E cx n37_1 st) (codeB Try.prog E cx n37_2) := GE.seq_step (by kernel_rfl)
noncomputable def n44_0 : Code := bodyOf Try.f44
noncomputable def n44_1 : Code := cl n44_0
noncomputable def q44_1 : List Oper := opsOf n44_1
noncomputable def n44_2 : Code := cr n44_0
noncomputable def n44_3 : Code := cl n44_2
noncomputable def q44_3 : List Oper := opsOf n44_3
noncomputable def n44_4 : Code := cr n44_2
noncomputable def n44_5 : Code := cl n44_4
noncomputable def n44_6 : Code := cl n44_5
noncomputable def q44_6 : List Oper := opsOf n44_6
noncomputable def n44_7 : Code := cr n44_5
noncomputable def n44_8 : Code := cl n44_7
noncomputable def n44_9 : Code := cl n44_8
noncomputable def n44_10 : Code := cl n44_9
noncomputable def n44_11 : Code := cl n44_10
noncomputable def q44_11 : List Oper := opsOf n44_11
noncomputable def n44_12 : Code := cr n44_10
noncomputable def n44_13 : Code := cl n44_12
noncomputable def n44_14 : Code := cr n44_12
noncomputable def n44_15 : Code := cr n44_9
noncomputable def n44_16 : Code := cl n44_15
noncomputable def n44_17 : Code := cl n44_16
noncomputable def q44_17 : List Oper := opsOf n44_17
noncomputable def n44_18 : Code := cr n44_15
noncomputable def q44_18 : List Oper := opsOf n44_18
noncomputable def n44_19 : Code := cr n44_4
noncomputable def n44_20 : Code := cl n44_19
noncomputable def q44_20 : List Oper := opsOf n44_20
noncomputable def n44_21 : Code := cr n44_19
theorem body44 : Try.f44.body = some n44_0 := by kernel_rfl
theorem run44 (E : Ev) (args : List Value) (h : List Blk) (hl : args.length ≤ 26) : runB Try.prog E 44 args h = endS Try.prog [.tmp 2] h.length (codeB Try.prog E ⟨44, 26, h.length, none⟩ n44_0 ⟨enumT 0 args, h, []⟩) := GE.run_step Try.func44 body44 (by kernel_rfl) (by decide) (by kernel_rfl) hl
theorem n44_1s : codeB Try.prog E ⟨f, 26, b, ro⟩ n44_1 st = plainS (runOps Try.prog E b q44_1 (ops [false] Try.f44) st) := GE.region_step (id := 0) (GE.reg_of (by kernel_rfl)) (by kernel_rfl)
theorem n44_3s : codeB Try.prog E ⟨f, 26, b, ro⟩ n44_3 st = plainS (runOps Try.prog E b q44_3 (ops [true, false] Try.f44) st) := GE.region_step (id := 1) (GE.reg_of (by kernel_rfl)) (by kernel_rfl)
theorem n44_6s : codeB Try.prog E ⟨f, 26, b, ro⟩ n44_6 st = plainS (runOps Try.prog E b q44_6 (ops [true, true, false, false] Try.f44) st) := GE.region_step (id := 2) (GE.reg_of (by kernel_rfl)) (by kernel_rfl)
theorem n44_11s : codeB Try.prog E ⟨f, 26, b, ro⟩ n44_11 st = plainS (runOps Try.prog E b q44_11 (ops [true, true, false, true, false, false, false, false] Try.f44) st) := GE.region_step (id := 3) (GE.reg_of (by kernel_rfl)) (by kernel_rfl)
theorem n44_13s : codeB Try.prog E cx n44_13 st = some (.normal, st) := GE.skip_step (by kernel_rfl)
theorem n44_14s : codeB Try.prog LL ⟨44, 26, b, ro⟩ n44_14 st = normS b ⟨[3], [⟨3, 0, 2, true⟩]⟩ (.exit 0) st := GE.exit_step (by kernel_rfl) (by kernel_rfl)
theorem n44_12s : codeB Try.prog E cx n44_12 st = condS (codeB Try.prog E cx n44_13) (codeB Try.prog E cx n44_14) (lk st.σ 9) st := GE.cond_step (c := .tmp 9) (by kernel_rfl)
theorem n44_10s : codeB Try.prog E cx n44_10 st = thenS (codeB Try.prog E cx n44_11 st) (codeB Try.prog E cx n44_12) := GE.seq_step (by kernel_rfl)
theorem n44_17s : codeB Try.prog E ⟨f, 26, b, ro⟩ n44_17 st = drawS [0, 0, 0, 6, 14, 0, 0, 64, 224, 480, 1022, 2046, 4095, 8191] (runOpsF Try.prog E b q44_17 (ops [true, true, false, true, false, false, true, false, false] Try.f44) st) := GE.draw_step (id := 5) (GE.reg_of (by kernel_rfl)) (by kernel_rfl) (by kernel_rfl) (by kernel_rfl)
theorem n44_16s : codeB Try.prog E cx n44_16 st = blockS 1 (codeB Try.prog E cx n44_17 st) st := GE.block_step (by kernel_rfl)
theorem n44_18s : codeB Try.prog E ⟨f, 26, b, ro⟩ n44_18 st = plainS (runOps Try.prog E b q44_18 (ops [true, true, false, true, false, false, true, true] Try.f44) st) := GE.region_step (id := 4) (GE.reg_of (by kernel_rfl)) (by kernel_rfl)
theorem n44_15s : codeB Try.prog E cx n44_15 st = thenS (codeB Try.prog E cx n44_16 st) (codeB Try.prog E cx n44_18) := GE.seq_step (by kernel_rfl)
theorem n44_9s : codeB Try.prog E cx n44_9 st = thenS (codeB Try.prog E cx n44_10 st) (codeB Try.prog E cx n44_15) := GE.seq_step (by kernel_rfl)
theorem n44_8k : LL.kp (⟨44, 26, b, ro⟩ : Cx).fn (4 * rid n44_9 + 3) = some ⟨[0, 3, 4], [⟨0, 0, 1, true⟩, ⟨3, 0, 2, true⟩]⟩ := by kernel_rfl
theorem n44_8s : codeB Try.prog LL ⟨44, 26, b, ro⟩ n44_8 st = headS b ⟨[0, 3, 4], [⟨0, 0, 1, true⟩, ⟨3, 0, 2, true⟩]⟩ st (lpB Try.prog LL ⟨44, 26, b, ro⟩ n44_8 n44_9) := GE.lpB_step (by kernel_rfl) (n44_8k b ro)
theorem n44_8g : LL.code ⟨44, 26, b, ro⟩ n44_8 st = headS b ⟨[0, 3, 4], [⟨0, 0, 1, true⟩, ⟨3, 0, 2, true⟩]⟩ st (lpB Try.prog LL ⟨44, 26, b, ro⟩ n44_8 n44_9) := GE.lpB_again (by kernel_rfl) (n44_8k b ro)
theorem n44_7s : codeB Try.prog E cx n44_7 st = blockS 0 (codeB Try.prog E cx n44_8 st) st := GE.block_step (by kernel_rfl)
theorem n44_5s : codeB Try.prog E cx n44_5 st = thenS (codeB Try.prog E cx n44_6 st) (codeB Try.prog E cx n44_7) := GE.seq_step (by kernel_rfl)
theorem n44_20s : codeB Try.prog E ⟨f, 26, b, ro⟩ n44_20 st = plainS (runOps Try.prog E b q44_20 (ops [true, true, true, false] Try.f44) st) := GE.region_step (id := 6) (GE.reg_of (by kernel_rfl)) (by kernel_rfl)
theorem n44_21s : codeB Try.prog LL ⟨44, 26, b, ro⟩ n44_21 st = normS b ⟨[2], [⟨2, 0, 2, true⟩]⟩ .ret st := GE.ret_step (by kernel_rfl) (by kernel_rfl)
theorem n44_19s : codeB Try.prog E cx n44_19 st = thenS (codeB Try.prog E cx n44_20 st) (codeB Try.prog E cx n44_21) := GE.seq_step (by kernel_rfl)
theorem n44_4s : codeB Try.prog E cx n44_4 st = thenS (codeB Try.prog E cx n44_5 st) (codeB Try.prog E cx n44_19) := GE.seq_step (by kernel_rfl)
theorem n44_2s : codeB Try.prog E cx n44_2 st = thenS (codeB Try.prog E cx n44_3 st) (codeB Try.prog E cx n44_4) := GE.seq_step (by kernel_rfl)
theorem n44_0s : codeB Try.prog E cx n44_0 st = thenS (codeB Try.prog E cx n44_1 st) (codeB Try.prog E cx n44_2) := GE.seq_step (by kernel_rfl)
noncomputable def n45_0 : Code := bodyOf Try.f45
noncomputable def n45_1 : Code := cl n45_0
noncomputable def q45_1 : List Oper := opsOf n45_1
noncomputable def n45_2 : Code := cr n45_0
noncomputable def n45_3 : Code := cl n45_2
noncomputable def n45_4 : Code := cl n45_3
noncomputable def n45_5 : Code := cl n45_4
noncomputable def q45_5 : List Oper := opsOf n45_5
noncomputable def n45_6 : Code := cr n45_4
noncomputable def n45_7 : Code := cl n45_6
noncomputable def n45_8 : Code := cl n45_7
noncomputable def q45_8 : List Oper := opsOf n45_8
noncomputable def n45_9 : Code := cr n45_7
noncomputable def n45_10 : Code := cr n45_6
noncomputable def n45_11 : Code := cl n45_10
noncomputable def q45_11 : List Oper := opsOf n45_11
noncomputable def n45_12 : Code := cr n45_10
noncomputable def n45_13 : Code := cl n45_12
noncomputable def n45_14 : Code := cl n45_13
noncomputable def q45_14 : List Oper := opsOf n45_14
noncomputable def n45_15 : Code := cr n45_13
noncomputable def n45_16 : Code := cr n45_12
noncomputable def n45_17 : Code := cl n45_16
noncomputable def q45_17 : List Oper := opsOf n45_17
noncomputable def n45_18 : Code := cr n45_16
noncomputable def n45_19 : Code := cl n45_18
noncomputable def n45_20 : Code := cl n45_19
noncomputable def q45_20 : List Oper := opsOf n45_20
noncomputable def n45_21 : Code := cr n45_19
noncomputable def n45_22 : Code := cr n45_18
noncomputable def n45_23 : Code := cr n45_2
noncomputable def n45_24 : Code := cl n45_23
noncomputable def q45_24 : List Oper := opsOf n45_24
noncomputable def n45_25 : Code := cr n45_23
theorem body45 : Try.f45.body = some n45_0 := by kernel_rfl
theorem run45 (E : Ev) (args : List Value) (h : List Blk) (hl : args.length ≤ 14) : runB Try.prog E 45 args h = endS Try.prog [.tmp 2] h.length (codeB Try.prog E ⟨45, 14, h.length, none⟩ n45_0 ⟨enumT 0 args, h, []⟩) := GE.run_step Try.func45 body45 (by kernel_rfl) (by decide) (by kernel_rfl) hl
theorem n45_1s : codeB Try.prog E ⟨f, 14, b, ro⟩ n45_1 st = plainS (runOps Try.prog E b q45_1 (ops [false] Try.f45) st) := GE.region_step (id := 0) (GE.reg_of (by kernel_rfl)) (by kernel_rfl)
theorem n45_5s : codeB Try.prog E ⟨f, 14, b, ro⟩ n45_5 st = plainS (runOps Try.prog E b q45_5 (ops [true, false, false, false] Try.f45) st) := GE.region_step (id := 1) (GE.reg_of (by kernel_rfl)) (by kernel_rfl)
theorem n45_8s : codeB Try.prog E ⟨f, 14, b, ro⟩ n45_8 st = plainS (runOps Try.prog E b q45_8 (ops [true, false, false, true, false, false] Try.f45) st) := GE.region_step (id := 2) (GE.reg_of (by kernel_rfl)) (by kernel_rfl)
theorem n45_9s : codeB Try.prog LL ⟨45, 14, b, ro⟩ n45_9 st = normS b ⟨[2], []⟩ .ret st := GE.ret_step (by kernel_rfl) (by kernel_rfl)
theorem n45_7s : codeB Try.prog E cx n45_7 st = thenS (codeB Try.prog E cx n45_8 st) (codeB Try.prog E cx n45_9) := GE.seq_step (by kernel_rfl)
theorem n45_11s : codeB Try.prog E ⟨f, 14, b, ro⟩ n45_11 st = plainS (runOps Try.prog E b q45_11 (ops [true, false, false, true, true, false] Try.f45) st) := GE.region_step (id := 3) (GE.reg_of (by kernel_rfl)) (by kernel_rfl)
theorem n45_14s : codeB Try.prog E ⟨f, 14, b, ro⟩ n45_14 st = plainS (runOps Try.prog E b q45_14 (ops [true, false, false, true, true, true, false, false] Try.f45) st) := GE.region_step (id := 4) (GE.reg_of (by kernel_rfl)) (by kernel_rfl)
theorem n45_15s : codeB Try.prog LL ⟨45, 14, b, ro⟩ n45_15 st = normS b ⟨[2], []⟩ .ret st := GE.ret_step (by kernel_rfl) (by kernel_rfl)
theorem n45_13s : codeB Try.prog E cx n45_13 st = thenS (codeB Try.prog E cx n45_14 st) (codeB Try.prog E cx n45_15) := GE.seq_step (by kernel_rfl)
theorem n45_17s : codeB Try.prog E ⟨f, 14, b, ro⟩ n45_17 st = plainS (runOps Try.prog E b q45_17 (ops [true, false, false, true, true, true, true, false] Try.f45) st) := GE.region_step (id := 5) (GE.reg_of (by kernel_rfl)) (by kernel_rfl)
theorem n45_20s : codeB Try.prog E ⟨f, 14, b, ro⟩ n45_20 st = plainS (runOps Try.prog E b q45_20 (ops [true, false, false, true, true, true, true, true, false, false] Try.f45) st) := GE.region_step (id := 6) (GE.reg_of (by kernel_rfl)) (by kernel_rfl)
theorem n45_21s : codeB Try.prog LL ⟨45, 14, b, ro⟩ n45_21 st = normS b ⟨[2], []⟩ .ret st := GE.ret_step (by kernel_rfl) (by kernel_rfl)
theorem n45_19s : codeB Try.prog E cx n45_19 st = thenS (codeB Try.prog E cx n45_20 st) (codeB Try.prog E cx n45_21) := GE.seq_step (by kernel_rfl)
theorem n45_22s : codeB Try.prog E cx n45_22 st = some (.normal, st) := GE.skip_step (by kernel_rfl)
theorem n45_18s : codeB Try.prog E cx n45_18 st = condS (codeB Try.prog E cx n45_19) (codeB Try.prog E cx n45_22) (lk st.σ 11) st := GE.cond_step (c := .tmp 11) (by kernel_rfl)
theorem n45_16s : codeB Try.prog E cx n45_16 st = thenS (codeB Try.prog E cx n45_17 st) (codeB Try.prog E cx n45_18) := GE.seq_step (by kernel_rfl)
theorem n45_12s : codeB Try.prog E cx n45_12 st = condS (codeB Try.prog E cx n45_13) (codeB Try.prog E cx n45_16) (lk st.σ 7) st := GE.cond_step (c := .tmp 7) (by kernel_rfl)
theorem n45_10s : codeB Try.prog E cx n45_10 st = thenS (codeB Try.prog E cx n45_11 st) (codeB Try.prog E cx n45_12) := GE.seq_step (by kernel_rfl)
theorem n45_6s : codeB Try.prog E cx n45_6 st = condS (codeB Try.prog E cx n45_7) (codeB Try.prog E cx n45_10) (lk st.σ 3) st := GE.cond_step (c := .tmp 3) (by kernel_rfl)
theorem n45_4s : codeB Try.prog E cx n45_4 st = thenS (codeB Try.prog E cx n45_5 st) (codeB Try.prog E cx n45_6) := GE.seq_step (by kernel_rfl)
theorem n45_3s : codeB Try.prog E cx n45_3 st = blockS 0 (codeB Try.prog E cx n45_4 st) st := GE.block_step (by kernel_rfl)
theorem n45_24s : codeB Try.prog E ⟨f, 14, b, ro⟩ n45_24 st = plainS (runOps Try.prog E b q45_24 (ops [true, true, false] Try.f45) st) := GE.region_step (id := 7) (GE.reg_of (by kernel_rfl)) (by kernel_rfl)
theorem n45_25s : codeB Try.prog LL ⟨45, 14, b, ro⟩ n45_25 st = normS b ⟨[2], []⟩ .ret st := GE.ret_step (by kernel_rfl) (by kernel_rfl)
theorem n45_23s : codeB Try.prog E cx n45_23 st = thenS (codeB Try.prog E cx n45_24 st) (codeB Try.prog E cx n45_25) := GE.seq_step (by kernel_rfl)
theorem n45_2s : codeB Try.prog E cx n45_2 st = thenS (codeB Try.prog E cx n45_3 st) (codeB Try.prog E cx n45_23) := GE.seq_step (by kernel_rfl)
theorem n45_0s : codeB Try.prog E cx n45_0 st = thenS (codeB Try.prog E cx n45_1 st) (codeB Try.prog E cx n45_2) := GE.seq_step (by kernel_rfl)
noncomputable def n51_0 : Code := bodyOf Try.f51
noncomputable def n51_1 : Code := cl n51_0
noncomputable def q51_1 : List Oper := opsOf n51_1
noncomputable def n51_2 : Code := cr n51_0
noncomputable def n51_3 : Code := cl n51_2
noncomputable def q51_3 : List Oper := opsOf n51_3
noncomputable def n51_4 : Code := cr n51_2
noncomputable def n51_5 : Code := cl n51_4
noncomputable def n51_6 : Code := cl n51_5
noncomputable def q51_6 : List Oper := opsOf n51_6
noncomputable def n51_7 : Code := cr n51_5
noncomputable def n51_8 : Code := cl n51_7
noncomputable def n51_9 : Code := cl n51_8
noncomputable def n51_10 : Code := cl n51_9
noncomputable def q51_10 : List Oper := opsOf n51_10
noncomputable def n51_11 : Code := cr n51_9
noncomputable def n51_12 : Code := cl n51_11
noncomputable def n51_13 : Code := cl n51_12
noncomputable def n51_14 : Code := cr n51_12
noncomputable def n51_15 : Code := cr n51_11
noncomputable def n51_16 : Code := cl n51_15
noncomputable def n51_17 : Code := cl n51_16
noncomputable def n51_18 : Code := cl n51_17
noncomputable def q51_18 : List Oper := opsOf n51_18
noncomputable def n51_19 : Code := cr n51_17
noncomputable def n51_20 : Code := cl n51_19
noncomputable def q51_20 : List Oper := opsOf n51_20
noncomputable def n51_21 : Code := cr n51_19
noncomputable def n51_22 : Code := cl n51_21
noncomputable def q51_22 : List Oper := opsOf n51_22
noncomputable def n51_23 : Code := cr n51_21
noncomputable def n51_24 : Code := cl n51_23
noncomputable def n51_25 : Code := cl n51_24
noncomputable def q51_25 : List Oper := opsOf n51_25
noncomputable def n51_26 : Code := cr n51_24
noncomputable def n51_27 : Code := cr n51_23
noncomputable def n51_28 : Code := cr n51_15
noncomputable def q51_28 : List Oper := opsOf n51_28
noncomputable def n51_29 : Code := cr n51_4
noncomputable def n51_30 : Code := cl n51_29
noncomputable def q51_30 : List Oper := opsOf n51_30
noncomputable def n51_31 : Code := cr n51_29
theorem body51 : Try.f51.body = some n51_0 := by kernel_rfl
theorem run51 (E : Ev) (args : List Value) (h : List Blk) (hl : args.length ≤ 29) : runB Try.prog E 51 args h = endS Try.prog [.tmp 4] h.length (codeB Try.prog E ⟨51, 29, h.length, none⟩ n51_0 ⟨enumT 0 args, h, []⟩) := GE.run_step Try.func51 body51 (by kernel_rfl) (by decide) (by kernel_rfl) hl
theorem n51_1s : codeB Try.prog E ⟨f, 29, b, ro⟩ n51_1 st = plainS (runOps Try.prog E b q51_1 (ops [false] Try.f51) st) := GE.region_step (id := 0) (GE.reg_of (by kernel_rfl)) (by kernel_rfl)
theorem n51_3s : codeB Try.prog E ⟨f, 29, b, ro⟩ n51_3 st = plainS (runOps Try.prog E b q51_3 (ops [true, false] Try.f51) st) := GE.region_step (id := 1) (GE.reg_of (by kernel_rfl)) (by kernel_rfl)
theorem n51_6s : codeB Try.prog E ⟨f, 29, b, ro⟩ n51_6 st = plainS (runOps Try.prog E b q51_6 (ops [true, true, false, false] Try.f51) st) := GE.region_step (id := 2) (GE.reg_of (by kernel_rfl)) (by kernel_rfl)
theorem n51_10s : codeB Try.prog E ⟨f, 29, b, ro⟩ n51_10 st = plainS (runOps Try.prog E b q51_10 (ops [true, true, false, true, false, false, false] Try.f51) st) := GE.region_step (id := 3) (GE.reg_of (by kernel_rfl)) (by kernel_rfl)
theorem n51_13s : codeB Try.prog E cx n51_13 st = some (.normal, st) := GE.skip_step (by kernel_rfl)
theorem n51_14s : codeB Try.prog LL ⟨51, 29, b, ro⟩ n51_14 st = normS b ⟨[], []⟩ (.exit 0) st := GE.exit_step (by kernel_rfl) (by kernel_rfl)
theorem n51_12s : codeB Try.prog E cx n51_12 st = condS (codeB Try.prog E cx n51_13) (codeB Try.prog E cx n51_14) (lk st.σ 11) st := GE.cond_step (c := .tmp 11) (by kernel_rfl)
theorem n51_18s : codeB Try.prog E ⟨f, 29, b, ro⟩ n51_18 st = plainS (runOps Try.prog E b q51_18 (ops [true, true, false, true, false, false, true, true, false, false, false] Try.f51) st) := GE.region_step (id := 4) (GE.reg_of (by kernel_rfl)) (by kernel_rfl)
theorem n51_20s : codeB Try.prog E ⟨f, 29, b, ro⟩ n51_20 st = plainS (runOps Try.prog E b q51_20 (ops [true, true, false, true, false, false, true, true, false, false, true, false] Try.f51) st) := GE.region_step (id := 5) (GE.reg_of (by kernel_rfl)) (by kernel_rfl)
theorem n51_22s : codeB Try.prog E ⟨f, 29, b, ro⟩ n51_22 st = plainS (runOps Try.prog E b q51_22 (ops [true, true, false, true, false, false, true, true, false, false, true, true, false] Try.f51) st) := GE.region_step (id := 6) (GE.reg_of (by kernel_rfl)) (by kernel_rfl)
theorem n51_25s : codeB Try.prog E ⟨f, 29, b, ro⟩ n51_25 st = plainS (runOps Try.prog E b q51_25 (ops [true, true, false, true, false, false, true, true, false, false, true, true, true, false, false] Try.f51) st) := GE.region_step (id := 7) (GE.reg_of (by kernel_rfl)) (by kernel_rfl)
theorem n51_26s : codeB Try.prog LL ⟨51, 29, b, ro⟩ n51_26 st = normS b ⟨[4], []⟩ .ret st := GE.ret_step (by kernel_rfl) (by kernel_rfl)
theorem n51_24s : codeB Try.prog E cx n51_24 st = thenS (codeB Try.prog E cx n51_25 st) (codeB Try.prog E cx n51_26) := GE.seq_step (by kernel_rfl)
theorem n51_27s : codeB Try.prog E cx n51_27 st = some (.normal, st) := GE.skip_step (by kernel_rfl)
theorem n51_23s : codeB Try.prog E cx n51_23 st = condS (codeB Try.prog E cx n51_24) (codeB Try.prog E cx n51_27) (lk st.σ 27) st := GE.cond_step (c := .tmp 27) (by kernel_rfl)
theorem n51_21s : codeB Try.prog E cx n51_21 st = thenS (codeB Try.prog E cx n51_22 st) (codeB Try.prog E cx n51_23) := GE.seq_step (by kernel_rfl)
theorem n51_19s : codeB Try.prog E cx n51_19 st = thenS (codeB Try.prog E cx n51_20 st) (codeB Try.prog E cx n51_21) := GE.seq_step (by kernel_rfl)
theorem n51_17s : codeB Try.prog E cx n51_17 st = thenS (codeB Try.prog E cx n51_18 st) (codeB Try.prog E cx n51_19) := GE.seq_step (by kernel_rfl)
theorem n51_16s : codeB Try.prog E cx n51_16 st = blockS 1 (codeB Try.prog E cx n51_17 st) st := GE.block_step (by kernel_rfl)
theorem n51_28s : codeB Try.prog E ⟨f, 29, b, ro⟩ n51_28 st = plainS (runOps Try.prog E b q51_28 (ops [true, true, false, true, false, false, true, true, true] Try.f51) st) := GE.region_step (id := 8) (GE.reg_of (by kernel_rfl)) (by kernel_rfl)
theorem n51_15s : codeB Try.prog E cx n51_15 st = thenS (codeB Try.prog E cx n51_16 st) (codeB Try.prog E cx n51_28) := GE.seq_step (by kernel_rfl)
theorem n51_11s : codeB Try.prog E cx n51_11 st = thenS (codeB Try.prog E cx n51_12 st) (codeB Try.prog E cx n51_15) := GE.seq_step (by kernel_rfl)
theorem n51_9s : codeB Try.prog E cx n51_9 st = thenS (codeB Try.prog E cx n51_10 st) (codeB Try.prog E cx n51_11) := GE.seq_step (by kernel_rfl)
theorem n51_8k : LL.kp (⟨51, 29, b, ro⟩ : Cx).fn (4 * rid n51_9 + 3) = some ⟨[0, 5, 8, 9, 10], [⟨0, 0, 2, true⟩, ⟨8, 0, 1, true⟩]⟩ := by kernel_rfl
theorem n51_8s : codeB Try.prog LL ⟨51, 29, b, ro⟩ n51_8 st = headS b ⟨[0, 5, 8, 9, 10], [⟨0, 0, 2, true⟩, ⟨8, 0, 1, true⟩]⟩ st (lpB Try.prog LL ⟨51, 29, b, ro⟩ n51_8 n51_9) := GE.lpB_step (by kernel_rfl) (n51_8k b ro)
theorem n51_8g : LL.code ⟨51, 29, b, ro⟩ n51_8 st = headS b ⟨[0, 5, 8, 9, 10], [⟨0, 0, 2, true⟩, ⟨8, 0, 1, true⟩]⟩ st (lpB Try.prog LL ⟨51, 29, b, ro⟩ n51_8 n51_9) := GE.lpB_again (by kernel_rfl) (n51_8k b ro)
theorem n51_7s : codeB Try.prog E cx n51_7 st = blockS 0 (codeB Try.prog E cx n51_8 st) st := GE.block_step (by kernel_rfl)
theorem n51_5s : codeB Try.prog E cx n51_5 st = thenS (codeB Try.prog E cx n51_6 st) (codeB Try.prog E cx n51_7) := GE.seq_step (by kernel_rfl)
theorem n51_30s : codeB Try.prog E ⟨f, 29, b, ro⟩ n51_30 st = plainS (runOps Try.prog E b q51_30 (ops [true, true, true, false] Try.f51) st) := GE.region_step (id := 9) (GE.reg_of (by kernel_rfl)) (by kernel_rfl)
theorem n51_31s : codeB Try.prog LL ⟨51, 29, b, ro⟩ n51_31 st = normS b ⟨[4], []⟩ .ret st := GE.ret_step (by kernel_rfl) (by kernel_rfl)
theorem n51_29s : codeB Try.prog E cx n51_29 st = thenS (codeB Try.prog E cx n51_30 st) (codeB Try.prog E cx n51_31) := GE.seq_step (by kernel_rfl)
theorem n51_4s : codeB Try.prog E cx n51_4 st = thenS (codeB Try.prog E cx n51_5 st) (codeB Try.prog E cx n51_29) := GE.seq_step (by kernel_rfl)
theorem n51_2s : codeB Try.prog E cx n51_2 st = thenS (codeB Try.prog E cx n51_3 st) (codeB Try.prog E cx n51_4) := GE.seq_step (by kernel_rfl)
theorem n51_0s : codeB Try.prog E cx n51_0 st = thenS (codeB Try.prog E cx n51_1 st) (codeB Try.prog E cx n51_2) := GE.seq_step (by kernel_rfl)
noncomputable def n52_0 : Code := bodyOf Try.f52
noncomputable def n52_1 : Code := cl n52_0
noncomputable def q52_1 : List Oper := opsOf n52_1
noncomputable def n52_2 : Code := cr n52_0
noncomputable def n52_3 : Code := cl n52_2
noncomputable def n52_4 : Code := cl n52_3
noncomputable def q52_4 : List Oper := opsOf n52_4
noncomputable def n52_5 : Code := cr n52_3
noncomputable def n52_6 : Code := cl n52_5
noncomputable def n52_7 : Code := cl n52_6
noncomputable def n52_8 : Code := cl n52_7
noncomputable def q52_8 : List Oper := opsOf n52_8
noncomputable def n52_9 : Code := cr n52_7
noncomputable def n52_10 : Code := cl n52_9
noncomputable def n52_11 : Code := cl n52_10
noncomputable def n52_12 : Code := cr n52_10
noncomputable def n52_13 : Code := cr n52_9
noncomputable def n52_14 : Code := cl n52_13
noncomputable def n52_15 : Code := cl n52_14
noncomputable def n52_16 : Code := cl n52_15
noncomputable def q52_16 : List Oper := opsOf n52_16
noncomputable def n52_17 : Code := cr n52_15
noncomputable def n52_18 : Code := cl n52_17
noncomputable def q52_18 : List Oper := opsOf n52_18
noncomputable def n52_19 : Code := cr n52_17
noncomputable def n52_20 : Code := cl n52_19
noncomputable def n52_21 : Code := cl n52_20
noncomputable def q52_21 : List Oper := opsOf n52_21
noncomputable def n52_22 : Code := cr n52_20
noncomputable def n52_23 : Code := cr n52_19
noncomputable def n52_24 : Code := cr n52_13
noncomputable def q52_24 : List Oper := opsOf n52_24
noncomputable def n52_25 : Code := cr n52_2
noncomputable def n52_26 : Code := cl n52_25
noncomputable def q52_26 : List Oper := opsOf n52_26
noncomputable def n52_27 : Code := cr n52_25
theorem body52 : Try.f52.body = some n52_0 := by kernel_rfl
theorem run52 (E : Ev) (args : List Value) (h : List Blk) (hl : args.length ≤ 33) : runB Try.prog E 52 args h = endS Try.prog [.tmp 6] h.length (codeB Try.prog E ⟨52, 33, h.length, none⟩ n52_0 ⟨enumT 0 args, h, []⟩) := GE.run_step Try.func52 body52 (by kernel_rfl) (by decide) (by kernel_rfl) hl
theorem n52_1s : codeB Try.prog E ⟨f, 33, b, ro⟩ n52_1 st = plainS (runOps Try.prog E b q52_1 (ops [false] Try.f52) st) := GE.region_step (id := 0) (GE.reg_of (by kernel_rfl)) (by kernel_rfl)
theorem n52_4s : codeB Try.prog E ⟨f, 33, b, ro⟩ n52_4 st = plainS (runOps Try.prog E b q52_4 (ops [true, false, false] Try.f52) st) := GE.region_step (id := 1) (GE.reg_of (by kernel_rfl)) (by kernel_rfl)
theorem n52_8s : codeB Try.prog E ⟨f, 33, b, ro⟩ n52_8 st = plainS (runOps Try.prog E b q52_8 (ops [true, false, true, false, false, false] Try.f52) st) := GE.region_step (id := 2) (GE.reg_of (by kernel_rfl)) (by kernel_rfl)
theorem n52_11s : codeB Try.prog E cx n52_11 st = some (.normal, st) := GE.skip_step (by kernel_rfl)
theorem n52_12s : codeB Try.prog LL ⟨52, 33, b, ro⟩ n52_12 st = normS b ⟨[0], [⟨0, 0, 1, true⟩]⟩ (.exit 0) st := GE.exit_step (by kernel_rfl) (by kernel_rfl)
theorem n52_10s : codeB Try.prog E cx n52_10 st = condS (codeB Try.prog E cx n52_11) (codeB Try.prog E cx n52_12) (lk st.σ 11) st := GE.cond_step (c := .tmp 11) (by kernel_rfl)
theorem n52_16s : codeB Try.prog E ⟨f, 33, b, ro⟩ n52_16 st = plainS (runOps Try.prog E b q52_16 (ops [true, false, true, false, false, true, true, false, false, false] Try.f52) st) := GE.region_step (id := 3) (GE.reg_of (by kernel_rfl)) (by kernel_rfl)
theorem n52_18s : codeB Try.prog E ⟨f, 33, b, ro⟩ n52_18 st = plainS (runOps Try.prog E b q52_18 (ops [true, false, true, false, false, true, true, false, false, true, false] Try.f52) st) := GE.region_step (id := 4) (GE.reg_of (by kernel_rfl)) (by kernel_rfl)
theorem n52_21s : codeB Try.prog E ⟨f, 33, b, ro⟩ n52_21 st = drawS [0, 0, 0, 4, 0, 16, 62, 0, 128, 510, 0, 0, 4094, 8191, 16383] (runOpsF Try.prog E b q52_21 (ops [true, false, true, false, false, true, true, false, false, true, true, false, false] Try.f52) st) := GE.draw_step (id := 5) (GE.reg_of (by kernel_rfl)) (by kernel_rfl) (by kernel_rfl) (by kernel_rfl)
theorem n52_22s : codeB Try.prog LL ⟨52, 33, b, ro⟩ n52_22 st = normS b ⟨[6], [⟨6, 0, 1, true⟩]⟩ .ret st := GE.ret_step (by kernel_rfl) (by kernel_rfl)
theorem n52_20s : codeB Try.prog E cx n52_20 st = thenS (codeB Try.prog E cx n52_21 st) (codeB Try.prog E cx n52_22) := GE.seq_step (by kernel_rfl)
theorem n52_23s : codeB Try.prog E cx n52_23 st = some (.normal, st) := GE.skip_step (by kernel_rfl)
theorem n52_19s : codeB Try.prog E cx n52_19 st = condS (codeB Try.prog E cx n52_20) (codeB Try.prog E cx n52_23) (lk st.σ 16) st := GE.cond_step (c := .tmp 16) (by kernel_rfl)
theorem n52_17s : codeB Try.prog E cx n52_17 st = thenS (codeB Try.prog E cx n52_18 st) (codeB Try.prog E cx n52_19) := GE.seq_step (by kernel_rfl)
theorem n52_15s : codeB Try.prog E cx n52_15 st = thenS (codeB Try.prog E cx n52_16 st) (codeB Try.prog E cx n52_17) := GE.seq_step (by kernel_rfl)
theorem n52_14s : codeB Try.prog E cx n52_14 st = blockS 1 (codeB Try.prog E cx n52_15 st) st := GE.block_step (by kernel_rfl)
theorem n52_24s : codeB Try.prog E ⟨f, 33, b, ro⟩ n52_24 st = plainS (runOps Try.prog E b q52_24 (ops [true, false, true, false, false, true, true, true] Try.f52) st) := GE.region_step (id := 6) (GE.reg_of (by kernel_rfl)) (by kernel_rfl)
theorem n52_13s : codeB Try.prog E cx n52_13 st = thenS (codeB Try.prog E cx n52_14 st) (codeB Try.prog E cx n52_24) := GE.seq_step (by kernel_rfl)
theorem n52_9s : codeB Try.prog E cx n52_9 st = thenS (codeB Try.prog E cx n52_10 st) (codeB Try.prog E cx n52_13) := GE.seq_step (by kernel_rfl)
theorem n52_7s : codeB Try.prog E cx n52_7 st = thenS (codeB Try.prog E cx n52_8 st) (codeB Try.prog E cx n52_9) := GE.seq_step (by kernel_rfl)
theorem n52_6k : LL.kp (⟨52, 33, b, ro⟩ : Cx).fn (4 * rid n52_7 + 3) = some ⟨[0, 1, 2, 3, 9, 10], [⟨0, 0, 1, true⟩]⟩ := by kernel_rfl
theorem n52_6s : codeB Try.prog LL ⟨52, 33, b, ro⟩ n52_6 st = headS b ⟨[0, 1, 2, 3, 9, 10], [⟨0, 0, 1, true⟩]⟩ st (lpB Try.prog LL ⟨52, 33, b, ro⟩ n52_6 n52_7) := GE.lpB_step (by kernel_rfl) (n52_6k b ro)
theorem n52_6g : LL.code ⟨52, 33, b, ro⟩ n52_6 st = headS b ⟨[0, 1, 2, 3, 9, 10], [⟨0, 0, 1, true⟩]⟩ st (lpB Try.prog LL ⟨52, 33, b, ro⟩ n52_6 n52_7) := GE.lpB_again (by kernel_rfl) (n52_6k b ro)
theorem n52_5s : codeB Try.prog E cx n52_5 st = blockS 0 (codeB Try.prog E cx n52_6 st) st := GE.block_step (by kernel_rfl)
theorem n52_3s : codeB Try.prog E cx n52_3 st = thenS (codeB Try.prog E cx n52_4 st) (codeB Try.prog E cx n52_5) := GE.seq_step (by kernel_rfl)
theorem n52_26s : codeB Try.prog E ⟨f, 33, b, ro⟩ n52_26 st = plainS (runOps Try.prog E b q52_26 (ops [true, true, false] Try.f52) st) := GE.region_step (id := 7) (GE.reg_of (by kernel_rfl)) (by kernel_rfl)
theorem n52_27s : codeB Try.prog LL ⟨52, 33, b, ro⟩ n52_27 st = normS b ⟨[6], [⟨6, 0, 1, true⟩]⟩ .ret st := GE.ret_step (by kernel_rfl) (by kernel_rfl)
theorem n52_25s : codeB Try.prog E cx n52_25 st = thenS (codeB Try.prog E cx n52_26 st) (codeB Try.prog E cx n52_27) := GE.seq_step (by kernel_rfl)
theorem n52_2s : codeB Try.prog E cx n52_2 st = thenS (codeB Try.prog E cx n52_3 st) (codeB Try.prog E cx n52_25) := GE.seq_step (by kernel_rfl)
theorem n52_0s : codeB Try.prog E cx n52_0 st = thenS (codeB Try.prog E cx n52_1 st) (codeB Try.prog E cx n52_2) := GE.seq_step (by kernel_rfl)
noncomputable def n53_0 : Code := bodyOf Try.f53
noncomputable def n53_1 : Code := cl n53_0
noncomputable def q53_1 : List Oper := opsOf n53_1
noncomputable def n53_2 : Code := cr n53_0
noncomputable def n53_3 : Code := cl n53_2
noncomputable def n53_4 : Code := cl n53_3
noncomputable def q53_4 : List Oper := opsOf n53_4
noncomputable def n53_5 : Code := cr n53_3
noncomputable def n53_6 : Code := cl n53_5
noncomputable def n53_7 : Code := cl n53_6
noncomputable def q53_7 : List Oper := opsOf n53_7
noncomputable def n53_8 : Code := cr n53_6
noncomputable def n53_9 : Code := cr n53_5
noncomputable def n53_10 : Code := cr n53_2
noncomputable def n53_11 : Code := cl n53_10
noncomputable def q53_11 : List Oper := opsOf n53_11
noncomputable def n53_12 : Code := cr n53_10
noncomputable def n53_13 : Code := cl n53_12
noncomputable def n53_14 : Code := cl n53_13
noncomputable def q53_14 : List Oper := opsOf n53_14
noncomputable def n53_15 : Code := cr n53_13
noncomputable def n53_16 : Code := cl n53_15
noncomputable def n53_17 : Code := cl n53_16
noncomputable def n53_18 : Code := cl n53_17
noncomputable def q53_18 : List Oper := opsOf n53_18
noncomputable def n53_19 : Code := cr n53_17
noncomputable def n53_20 : Code := cl n53_19
noncomputable def n53_21 : Code := cl n53_20
noncomputable def n53_22 : Code := cr n53_20
noncomputable def n53_23 : Code := cr n53_19
noncomputable def n53_24 : Code := cl n53_23
noncomputable def n53_25 : Code := cl n53_24
noncomputable def n53_26 : Code := cl n53_25
noncomputable def q53_26 : List Oper := opsOf n53_26
noncomputable def n53_27 : Code := cr n53_25
noncomputable def n53_28 : Code := cl n53_27
noncomputable def q53_28 : List Oper := opsOf n53_28
noncomputable def n53_29 : Code := cr n53_27
noncomputable def n53_30 : Code := cl n53_29
noncomputable def n53_31 : Code := cl n53_30
noncomputable def q53_31 : List Oper := opsOf n53_31
noncomputable def n53_32 : Code := cr n53_30
noncomputable def n53_33 : Code := cr n53_29
noncomputable def n53_34 : Code := cr n53_23
noncomputable def q53_34 : List Oper := opsOf n53_34
noncomputable def n53_35 : Code := cr n53_12
noncomputable def n53_36 : Code := cl n53_35
noncomputable def q53_36 : List Oper := opsOf n53_36
noncomputable def n53_37 : Code := cr n53_35
theorem body53 : Try.f53.body = some n53_0 := by kernel_rfl
theorem run53 (E : Ev) (args : List Value) (h : List Blk) (hl : args.length ≤ 30) : runB Try.prog E 53 args h = endS Try.prog [.tmp 6] h.length (codeB Try.prog E ⟨53, 30, h.length, none⟩ n53_0 ⟨enumT 0 args, h, []⟩) := GE.run_step Try.func53 body53 (by kernel_rfl) (by decide) (by kernel_rfl) hl
theorem n53_1s : codeB Try.prog E ⟨f, 30, b, ro⟩ n53_1 st = plainS (runOps Try.prog E b q53_1 (ops [false] Try.f53) st) := GE.region_step (id := 0) (GE.reg_of (by kernel_rfl)) (by kernel_rfl)
theorem n53_4s : codeB Try.prog E ⟨f, 30, b, ro⟩ n53_4 st = plainS (runOps Try.prog E b q53_4 (ops [true, false, false] Try.f53) st) := GE.region_step (id := 1) (GE.reg_of (by kernel_rfl)) (by kernel_rfl)
theorem n53_7s : codeB Try.prog E ⟨f, 30, b, ro⟩ n53_7 st = plainS (runOps Try.prog E b q53_7 (ops [true, false, true, false, false] Try.f53) st) := GE.region_step (id := 2) (GE.reg_of (by kernel_rfl)) (by kernel_rfl)
theorem n53_8s : codeB Try.prog LL ⟨53, 30, b, ro⟩ n53_8 st = normS b ⟨[6], []⟩ .ret st := GE.ret_step (by kernel_rfl) (by kernel_rfl)
theorem n53_6s : codeB Try.prog E cx n53_6 st = thenS (codeB Try.prog E cx n53_7 st) (codeB Try.prog E cx n53_8) := GE.seq_step (by kernel_rfl)
theorem n53_9s : codeB Try.prog E cx n53_9 st = some (.normal, st) := GE.skip_step (by kernel_rfl)
theorem n53_5s : codeB Try.prog E cx n53_5 st = condS (codeB Try.prog E cx n53_6) (codeB Try.prog E cx n53_9) (lk st.σ 11) st := GE.cond_step (c := .tmp 11) (by kernel_rfl)
theorem n53_3s : codeB Try.prog E cx n53_3 st = thenS (codeB Try.prog E cx n53_4 st) (codeB Try.prog E cx n53_5) := GE.seq_step (by kernel_rfl)
theorem n53_11s : codeB Try.prog E ⟨f, 30, b, ro⟩ n53_11 st = plainS (runOps Try.prog E b q53_11 (ops [true, true, false] Try.f53) st) := GE.region_step (id := 3) (GE.reg_of (by kernel_rfl)) (by kernel_rfl)
theorem n53_14s : codeB Try.prog E ⟨f, 30, b, ro⟩ n53_14 st = plainS (runOps Try.prog E b q53_14 (ops [true, true, true, false, false] Try.f53) st) := GE.region_step (id := 4) (GE.reg_of (by kernel_rfl)) (by kernel_rfl)
theorem n53_18s : codeB Try.prog E ⟨f, 30, b, ro⟩ n53_18 st = plainS (runOps Try.prog E b q53_18 (ops [true, true, true, false, true, false, false, false] Try.f53) st) := GE.region_step (id := 5) (GE.reg_of (by kernel_rfl)) (by kernel_rfl)
theorem n53_21s : codeB Try.prog E cx n53_21 st = some (.normal, st) := GE.skip_step (by kernel_rfl)
theorem n53_22s : codeB Try.prog LL ⟨53, 30, b, ro⟩ n53_22 st = normS b ⟨[], []⟩ (.exit 0) st := GE.exit_step (by kernel_rfl) (by kernel_rfl)
theorem n53_20s : codeB Try.prog E cx n53_20 st = condS (codeB Try.prog E cx n53_21) (codeB Try.prog E cx n53_22) (lk st.σ 17) st := GE.cond_step (c := .tmp 17) (by kernel_rfl)
theorem n53_26s : codeB Try.prog E ⟨f, 30, b, ro⟩ n53_26 st = plainS (runOps Try.prog E b q53_26 (ops [true, true, true, false, true, false, false, true, true, false, false, false] Try.f53) st) := GE.region_step (id := 6) (GE.reg_of (by kernel_rfl)) (by kernel_rfl)
theorem q53_28g4 : gd q53_28 4 = some 23 := by kernel_rfl
theorem n53_28s : codeB Try.prog E ⟨f, 30, b, ro⟩ n53_28 st = plainS (runOps Try.prog E b q53_28 (ops [true, true, true, false, true, false, false, true, true, false, false, true, false] Try.f53) st) := GE.region_step (id := 7) (GE.reg_of (by kernel_rfl)) (by kernel_rfl)
theorem n53_31s : codeB Try.prog E ⟨f, 30, b, ro⟩ n53_31 st = plainS (runOps Try.prog E b q53_31 (ops [true, true, true, false, true, false, false, true, true, false, false, true, true, false, false] Try.f53) st) := GE.region_step (id := 8) (GE.reg_of (by kernel_rfl)) (by kernel_rfl)
theorem n53_32s : codeB Try.prog LL ⟨53, 30, b, ro⟩ n53_32 st = normS b ⟨[6], []⟩ .ret st := GE.ret_step (by kernel_rfl) (by kernel_rfl)
theorem n53_30s : codeB Try.prog E cx n53_30 st = thenS (codeB Try.prog E cx n53_31 st) (codeB Try.prog E cx n53_32) := GE.seq_step (by kernel_rfl)
theorem n53_33s : codeB Try.prog E cx n53_33 st = some (.normal, st) := GE.skip_step (by kernel_rfl)
theorem n53_29s : codeB Try.prog E cx n53_29 st = condS (codeB Try.prog E cx n53_30) (codeB Try.prog E cx n53_33) (lk st.σ 28) st := GE.cond_step (c := .tmp 28) (by kernel_rfl)
theorem n53_27s : codeB Try.prog E cx n53_27 st = thenS (codeB Try.prog E cx n53_28 st) (codeB Try.prog E cx n53_29) := GE.seq_step (by kernel_rfl)
theorem n53_25s : codeB Try.prog E cx n53_25 st = thenS (codeB Try.prog E cx n53_26 st) (codeB Try.prog E cx n53_27) := GE.seq_step (by kernel_rfl)
theorem n53_24s : codeB Try.prog E cx n53_24 st = blockS 1 (codeB Try.prog E cx n53_25 st) st := GE.block_step (by kernel_rfl)
theorem n53_34s : codeB Try.prog E ⟨f, 30, b, ro⟩ n53_34 st = plainS (runOps Try.prog E b q53_34 (ops [true, true, true, false, true, false, false, true, true, true] Try.f53) st) := GE.region_step (id := 9) (GE.reg_of (by kernel_rfl)) (by kernel_rfl)
theorem n53_23s : codeB Try.prog E cx n53_23 st = thenS (codeB Try.prog E cx n53_24 st) (codeB Try.prog E cx n53_34) := GE.seq_step (by kernel_rfl)
theorem n53_19s : codeB Try.prog E cx n53_19 st = thenS (codeB Try.prog E cx n53_20 st) (codeB Try.prog E cx n53_23) := GE.seq_step (by kernel_rfl)
theorem n53_17s : codeB Try.prog E cx n53_17 st = thenS (codeB Try.prog E cx n53_18 st) (codeB Try.prog E cx n53_19) := GE.seq_step (by kernel_rfl)
theorem n53_16k : LL.kp (⟨53, 30, b, ro⟩ : Cx).fn (4 * rid n53_17 + 3) = some ⟨[1, 2, 7, 15, 16], []⟩ := by kernel_rfl
theorem n53_16s : codeB Try.prog LL ⟨53, 30, b, ro⟩ n53_16 st = headS b ⟨[1, 2, 7, 15, 16], []⟩ st (lpB Try.prog LL ⟨53, 30, b, ro⟩ n53_16 n53_17) := GE.lpB_step (by kernel_rfl) (n53_16k b ro)
theorem n53_16g : LL.code ⟨53, 30, b, ro⟩ n53_16 st = headS b ⟨[1, 2, 7, 15, 16], []⟩ st (lpB Try.prog LL ⟨53, 30, b, ro⟩ n53_16 n53_17) := GE.lpB_again (by kernel_rfl) (n53_16k b ro)
theorem n53_15s : codeB Try.prog E cx n53_15 st = blockS 0 (codeB Try.prog E cx n53_16 st) st := GE.block_step (by kernel_rfl)
theorem n53_13s : codeB Try.prog E cx n53_13 st = thenS (codeB Try.prog E cx n53_14 st) (codeB Try.prog E cx n53_15) := GE.seq_step (by kernel_rfl)
theorem n53_36s : codeB Try.prog E ⟨f, 30, b, ro⟩ n53_36 st = plainS (runOps Try.prog E b q53_36 (ops [true, true, true, true, false] Try.f53) st) := GE.region_step (id := 10) (GE.reg_of (by kernel_rfl)) (by kernel_rfl)
theorem n53_37s : codeB Try.prog LL ⟨53, 30, b, ro⟩ n53_37 st = normS b ⟨[6], []⟩ .ret st := GE.ret_step (by kernel_rfl) (by kernel_rfl)
theorem n53_35s : codeB Try.prog E cx n53_35 st = thenS (codeB Try.prog E cx n53_36 st) (codeB Try.prog E cx n53_37) := GE.seq_step (by kernel_rfl)
theorem n53_12s : codeB Try.prog E cx n53_12 st = thenS (codeB Try.prog E cx n53_13 st) (codeB Try.prog E cx n53_35) := GE.seq_step (by kernel_rfl)
theorem n53_10s : codeB Try.prog E cx n53_10 st = thenS (codeB Try.prog E cx n53_11 st) (codeB Try.prog E cx n53_12) := GE.seq_step (by kernel_rfl)
theorem n53_2s : codeB Try.prog E cx n53_2 st = thenS (codeB Try.prog E cx n53_3 st) (codeB Try.prog E cx n53_10) := GE.seq_step (by kernel_rfl)
theorem n53_0s : codeB Try.prog E cx n53_0 st = thenS (codeB Try.prog E cx n53_1 st) (codeB Try.prog E cx n53_2) := GE.seq_step (by kernel_rfl)
noncomputable def n54_0 : Code := bodyOf Try.f54
noncomputable def n54_1 : Code := cl n54_0
noncomputable def q54_1 : List Oper := opsOf n54_1
noncomputable def n54_2 : Code := cr n54_0
noncomputable def n54_3 : Code := cl n54_2
noncomputable def q54_3 : List Oper := opsOf n54_3
noncomputable def n54_4 : Code := cr n54_2
theorem body54 : Try.f54.body = some n54_0 := by kernel_rfl
theorem run54 (E : Ev) (args : List Value) (h : List Blk) (hl : args.length ≤ 9) : runB Try.prog E 54 args h = endS Try.prog [.tmp 4] h.length (codeB Try.prog E ⟨54, 9, h.length, none⟩ n54_0 ⟨enumT 0 args, h, []⟩) := GE.run_step Try.func54 body54 (by kernel_rfl) (by decide) (by kernel_rfl) hl
theorem n54_1s : codeB Try.prog E ⟨f, 9, b, ro⟩ n54_1 st = plainS (runOps Try.prog E b q54_1 (ops [false] Try.f54) st) := GE.region_step (id := 0) (GE.reg_of (by kernel_rfl)) (by kernel_rfl)
theorem n54_3s : codeB Try.prog E ⟨f, 9, b, ro⟩ n54_3 st = plainS (runOps Try.prog E b q54_3 (ops [true, false] Try.f54) st) := GE.region_step (id := 1) (GE.reg_of (by kernel_rfl)) (by kernel_rfl)
theorem n54_4s : codeB Try.prog LL ⟨54, 9, b, ro⟩ n54_4 st = normS b ⟨[4], []⟩ .ret st := GE.ret_step (by kernel_rfl) (by kernel_rfl)
theorem n54_2s : codeB Try.prog E cx n54_2 st = thenS (codeB Try.prog E cx n54_3 st) (codeB Try.prog E cx n54_4) := GE.seq_step (by kernel_rfl)
theorem n54_0s : codeB Try.prog E cx n54_0 st = thenS (codeB Try.prog E cx n54_1 st) (codeB Try.prog E cx n54_2) := GE.seq_step (by kernel_rfl)
noncomputable def n57_0 : Code := bodyOf Try.f57
noncomputable def n57_1 : Code := cl n57_0
noncomputable def q57_1 : List Oper := opsOf n57_1
noncomputable def n57_2 : Code := cr n57_0
noncomputable def n57_3 : Code := cl n57_2
noncomputable def q57_3 : List Oper := opsOf n57_3
noncomputable def n57_4 : Code := cr n57_2
theorem body57 : Try.f57.body = some n57_0 := by kernel_rfl
theorem run57 (E : Ev) (args : List Value) (h : List Blk) (hl : args.length ≤ 15) : runB Try.prog E 57 args h = endS Try.prog [.tmp 6] h.length (codeB Try.prog E ⟨57, 15, h.length, none⟩ n57_0 ⟨enumT 0 args, h, []⟩) := GE.run_step Try.func57 body57 (by kernel_rfl) (by decide) (by kernel_rfl) hl
theorem n57_1s : codeB Try.prog E ⟨f, 15, b, ro⟩ n57_1 st = plainS (runOps Try.prog E b q57_1 (ops [false] Try.f57) st) := GE.region_step (id := 0) (GE.reg_of (by kernel_rfl)) (by kernel_rfl)
theorem q57_3g3 : gd q57_3 3 = some 10 := by kernel_rfl
theorem n57_3s : codeB Try.prog E ⟨f, 15, b, ro⟩ n57_3 st = plainS (runOps Try.prog E b q57_3 (ops [true, false] Try.f57) st) := GE.region_step (id := 1) (GE.reg_of (by kernel_rfl)) (by kernel_rfl)
theorem n57_4s : codeB Try.prog LL ⟨57, 15, b, ro⟩ n57_4 st = normS b ⟨[6], []⟩ .ret st := GE.ret_step (by kernel_rfl) (by kernel_rfl)
theorem n57_2s : codeB Try.prog E cx n57_2 st = thenS (codeB Try.prog E cx n57_3 st) (codeB Try.prog E cx n57_4) := GE.seq_step (by kernel_rfl)
theorem n57_0s : codeB Try.prog E cx n57_0 st = thenS (codeB Try.prog E cx n57_1 st) (codeB Try.prog E cx n57_2) := GE.seq_step (by kernel_rfl)
noncomputable def n59_0 : Code := bodyOf Try.f59
noncomputable def n59_1 : Code := cl n59_0
noncomputable def q59_1 : List Oper := opsOf n59_1
noncomputable def n59_2 : Code := cr n59_0
noncomputable def n59_3 : Code := cl n59_2
noncomputable def q59_3 : List Oper := opsOf n59_3
noncomputable def n59_4 : Code := cr n59_2
noncomputable def n59_5 : Code := cl n59_4
noncomputable def n59_6 : Code := cl n59_5
noncomputable def n59_7 : Code := cl n59_6
noncomputable def q59_7 : List Oper := opsOf n59_7
noncomputable def n59_8 : Code := cr n59_6
noncomputable def n59_9 : Code := cl n59_8
noncomputable def n59_10 : Code := cl n59_9
noncomputable def q59_10 : List Oper := opsOf n59_10
noncomputable def n59_11 : Code := cr n59_9
noncomputable def n59_12 : Code := cr n59_8
noncomputable def n59_13 : Code := cl n59_12
noncomputable def q59_13 : List Oper := opsOf n59_13
noncomputable def n59_14 : Code := cr n59_12
noncomputable def n59_15 : Code := cl n59_14
noncomputable def n59_16 : Code := cl n59_15
noncomputable def q59_16 : List Oper := opsOf n59_16
noncomputable def n59_17 : Code := cr n59_15
noncomputable def n59_18 : Code := cr n59_14
noncomputable def n59_19 : Code := cr n59_4
noncomputable def n59_20 : Code := cl n59_19
noncomputable def q59_20 : List Oper := opsOf n59_20
noncomputable def n59_21 : Code := cr n59_19
theorem body59 : Try.f59.body = some n59_0 := by kernel_rfl
theorem run59 (E : Ev) (args : List Value) (h : List Blk) (hl : args.length ≤ 17) : runB Try.prog E 59 args h = endS Try.prog [.tmp 2, .tmp 3] h.length (codeB Try.prog E ⟨59, 17, h.length, none⟩ n59_0 ⟨enumT 0 args, h, []⟩) := GE.run_step Try.func59 body59 (by kernel_rfl) (by decide) (by kernel_rfl) hl
theorem n59_1s : codeB Try.prog E ⟨f, 17, b, ro⟩ n59_1 st = plainS (runOps Try.prog E b q59_1 (ops [false] Try.f59) st) := GE.region_step (id := 0) (GE.reg_of (by kernel_rfl)) (by kernel_rfl)
theorem n59_3s : codeB Try.prog E ⟨f, 17, b, ro⟩ n59_3 st = plainS (runOps Try.prog E b q59_3 (ops [true, false] Try.f59) st) := GE.region_step (id := 1) (GE.reg_of (by kernel_rfl)) (by kernel_rfl)
theorem n59_7s : codeB Try.prog E ⟨f, 17, b, ro⟩ n59_7 st = plainS (runOps Try.prog E b q59_7 (ops [true, true, false, false, false] Try.f59) st) := GE.region_step (id := 2) (GE.reg_of (by kernel_rfl)) (by kernel_rfl)
theorem n59_10s : codeB Try.prog E ⟨f, 17, b, ro⟩ n59_10 st = plainS (runOps Try.prog E b q59_10 (ops [true, true, false, false, true, false, false] Try.f59) st) := GE.region_step (id := 3) (GE.reg_of (by kernel_rfl)) (by kernel_rfl)
theorem n59_11s : codeB Try.prog LL ⟨59, 17, b, ro⟩ n59_11 st = normS b ⟨[2, 3], []⟩ .ret st := GE.ret_step (by kernel_rfl) (by kernel_rfl)
theorem n59_9s : codeB Try.prog E cx n59_9 st = thenS (codeB Try.prog E cx n59_10 st) (codeB Try.prog E cx n59_11) := GE.seq_step (by kernel_rfl)
theorem n59_13s : codeB Try.prog E ⟨f, 17, b, ro⟩ n59_13 st = plainS (runOps Try.prog E b q59_13 (ops [true, true, false, false, true, true, false] Try.f59) st) := GE.region_step (id := 4) (GE.reg_of (by kernel_rfl)) (by kernel_rfl)
theorem n59_16s : codeB Try.prog E ⟨f, 17, b, ro⟩ n59_16 st = plainS (runOps Try.prog E b q59_16 (ops [true, true, false, false, true, true, true, false, false] Try.f59) st) := GE.region_step (id := 5) (GE.reg_of (by kernel_rfl)) (by kernel_rfl)
theorem n59_17s : codeB Try.prog LL ⟨59, 17, b, ro⟩ n59_17 st = normS b ⟨[2, 3], []⟩ .ret st := GE.ret_step (by kernel_rfl) (by kernel_rfl)
theorem n59_15s : codeB Try.prog E cx n59_15 st = thenS (codeB Try.prog E cx n59_16 st) (codeB Try.prog E cx n59_17) := GE.seq_step (by kernel_rfl)
theorem n59_18s : codeB Try.prog E cx n59_18 st = some (.normal, st) := GE.skip_step (by kernel_rfl)
theorem n59_14s : codeB Try.prog E cx n59_14 st = condS (codeB Try.prog E cx n59_15) (codeB Try.prog E cx n59_18) (lk st.σ 11) st := GE.cond_step (c := .tmp 11) (by kernel_rfl)
theorem n59_12s : codeB Try.prog E cx n59_12 st = thenS (codeB Try.prog E cx n59_13 st) (codeB Try.prog E cx n59_14) := GE.seq_step (by kernel_rfl)
theorem n59_8s : codeB Try.prog E cx n59_8 st = condS (codeB Try.prog E cx n59_9) (codeB Try.prog E cx n59_12) (lk st.σ 7) st := GE.cond_step (c := .tmp 7) (by kernel_rfl)
theorem n59_6s : codeB Try.prog E cx n59_6 st = thenS (codeB Try.prog E cx n59_7 st) (codeB Try.prog E cx n59_8) := GE.seq_step (by kernel_rfl)
theorem n59_5s : codeB Try.prog E cx n59_5 st = blockS 0 (codeB Try.prog E cx n59_6 st) st := GE.block_step (by kernel_rfl)
theorem n59_20s : codeB Try.prog E ⟨f, 17, b, ro⟩ n59_20 st = plainS (runOps Try.prog E b q59_20 (ops [true, true, true, false] Try.f59) st) := GE.region_step (id := 6) (GE.reg_of (by kernel_rfl)) (by kernel_rfl)
theorem n59_21s : codeB Try.prog LL ⟨59, 17, b, ro⟩ n59_21 st = normS b ⟨[2, 3], []⟩ .ret st := GE.ret_step (by kernel_rfl) (by kernel_rfl)
theorem n59_19s : codeB Try.prog E cx n59_19 st = thenS (codeB Try.prog E cx n59_20 st) (codeB Try.prog E cx n59_21) := GE.seq_step (by kernel_rfl)
theorem n59_4s : codeB Try.prog E cx n59_4 st = thenS (codeB Try.prog E cx n59_5 st) (codeB Try.prog E cx n59_19) := GE.seq_step (by kernel_rfl)
theorem n59_2s : codeB Try.prog E cx n59_2 st = thenS (codeB Try.prog E cx n59_3 st) (codeB Try.prog E cx n59_4) := GE.seq_step (by kernel_rfl)
theorem n59_0s : codeB Try.prog E cx n59_0 st = thenS (codeB Try.prog E cx n59_1 st) (codeB Try.prog E cx n59_2) := GE.seq_step (by kernel_rfl)
noncomputable def n60_0 : Code := bodyOf Try.f60
noncomputable def n60_1 : Code := cl n60_0
noncomputable def q60_1 : List Oper := opsOf n60_1
noncomputable def n60_2 : Code := cr n60_0
noncomputable def n60_3 : Code := cl n60_2
noncomputable def q60_3 : List Oper := opsOf n60_3
noncomputable def n60_4 : Code := cr n60_2
noncomputable def n60_5 : Code := cl n60_4
noncomputable def n60_6 : Code := cl n60_5
noncomputable def q60_6 : List Oper := opsOf n60_6
noncomputable def n60_7 : Code := cr n60_5
noncomputable def n60_8 : Code := cl n60_7
noncomputable def n60_9 : Code := cl n60_8
noncomputable def q60_9 : List Oper := opsOf n60_9
noncomputable def n60_10 : Code := cr n60_8
noncomputable def q60_10 : List Oper := opsOf n60_10
noncomputable def n60_11 : Code := cr n60_7
noncomputable def n60_12 : Code := cr n60_4
noncomputable def n60_13 : Code := cl n60_12
noncomputable def q60_13 : List Oper := opsOf n60_13
noncomputable def n60_14 : Code := cr n60_12
theorem body60 : Try.f60.body = some n60_0 := by kernel_rfl
theorem run60 (E : Ev) (args : List Value) (h : List Blk) (hl : args.length ≤ 31) : runB Try.prog E 60 args h = endS Try.prog [.tmp 4] h.length (codeB Try.prog E ⟨60, 31, h.length, none⟩ n60_0 ⟨enumT 0 args, h, []⟩) := GE.run_step Try.func60 body60 (by kernel_rfl) (by decide) (by kernel_rfl) hl
theorem n60_1s : codeB Try.prog E ⟨f, 31, b, ro⟩ n60_1 st = plainS (runOps Try.prog E b q60_1 (ops [false] Try.f60) st) := GE.region_step (id := 0) (GE.reg_of (by kernel_rfl)) (by kernel_rfl)
theorem n60_3s : codeB Try.prog E ⟨f, 31, b, ro⟩ n60_3 st = plainS (runOps Try.prog E b q60_3 (ops [true, false] Try.f60) st) := GE.region_step (id := 1) (GE.reg_of (by kernel_rfl)) (by kernel_rfl)
theorem n60_6s : codeB Try.prog E ⟨f, 31, b, ro⟩ n60_6 st = plainS (runOps Try.prog E b q60_6 (ops [true, true, false, false] Try.f60) st) := GE.region_step (id := 2) (GE.reg_of (by kernel_rfl)) (by kernel_rfl)
theorem n60_9s : codeB Try.prog E ⟨f, 31, b, ro⟩ n60_9 st = plainS (runOps Try.prog E b q60_9 (ops [true, true, false, true, false, false] Try.f60) st) := GE.region_step (id := 3) (GE.reg_of (by kernel_rfl)) (by kernel_rfl)
theorem n60_10s : codeB Try.prog E ⟨f, 31, b, ro⟩ n60_10 st = plainS (runOps Try.prog E b q60_10 (ops [true, true, false, true, false, true] Try.f60) st) := GE.region_step (id := 4) (GE.reg_of (by kernel_rfl)) (by kernel_rfl)
theorem n60_8s : codeB Try.prog E cx n60_8 st = thenS (codeB Try.prog E cx n60_9 st) (codeB Try.prog E cx n60_10) := GE.seq_step (by kernel_rfl)
theorem n60_11s : codeB Try.prog E cx n60_11 st = some (.normal, st) := GE.skip_step (by kernel_rfl)
theorem n60_7s : codeB Try.prog E cx n60_7 st = condS (codeB Try.prog E cx n60_8) (codeB Try.prog E cx n60_11) (lk st.σ 17) st := GE.cond_step (c := .tmp 17) (by kernel_rfl)
theorem n60_5s : codeB Try.prog E cx n60_5 st = thenS (codeB Try.prog E cx n60_6 st) (codeB Try.prog E cx n60_7) := GE.seq_step (by kernel_rfl)
theorem n60_13s : codeB Try.prog E ⟨f, 31, b, ro⟩ n60_13 st = plainS (runOps Try.prog E b q60_13 (ops [true, true, true, false] Try.f60) st) := GE.region_step (id := 5) (GE.reg_of (by kernel_rfl)) (by kernel_rfl)
theorem n60_14s : codeB Try.prog LL ⟨60, 31, b, ro⟩ n60_14 st = normS b ⟨[4], []⟩ .ret st := GE.ret_step (by kernel_rfl) (by kernel_rfl)
theorem n60_12s : codeB Try.prog E cx n60_12 st = thenS (codeB Try.prog E cx n60_13 st) (codeB Try.prog E cx n60_14) := GE.seq_step (by kernel_rfl)
theorem n60_4s : codeB Try.prog E cx n60_4 st = thenS (codeB Try.prog E cx n60_5 st) (codeB Try.prog E cx n60_12) := GE.seq_step (by kernel_rfl)
theorem n60_2s : codeB Try.prog E cx n60_2 st = thenS (codeB Try.prog E cx n60_3 st) (codeB Try.prog E cx n60_4) := GE.seq_step (by kernel_rfl)
theorem n60_0s : codeB Try.prog E cx n60_0 st = thenS (codeB Try.prog E cx n60_1 st) (codeB Try.prog E cx n60_2) := GE.seq_step (by kernel_rfl)
noncomputable def n69_0 : Code := bodyOf Try.f69
noncomputable def n69_1 : Code := cl n69_0
noncomputable def q69_1 : List Oper := opsOf n69_1
noncomputable def n69_2 : Code := cr n69_0
noncomputable def n69_3 : Code := cl n69_2
noncomputable def q69_3 : List Oper := opsOf n69_3
noncomputable def n69_4 : Code := cr n69_2
noncomputable def n69_5 : Code := cl n69_4
noncomputable def q69_5 : List Oper := opsOf n69_5
noncomputable def n69_6 : Code := cr n69_4
noncomputable def n69_7 : Code := cl n69_6
noncomputable def q69_7 : List Oper := opsOf n69_7
noncomputable def n69_8 : Code := cr n69_6
noncomputable def n69_9 : Code := cl n69_8
noncomputable def q69_9 : List Oper := opsOf n69_9
noncomputable def n69_10 : Code := cr n69_8
noncomputable def n69_11 : Code := cl n69_10
noncomputable def q69_11 : List Oper := opsOf n69_11
noncomputable def n69_12 : Code := cr n69_10
theorem body69 : Try.f69.body = some n69_0 := by kernel_rfl
theorem run69 (E : Ev) (args : List Value) (h : List Blk) (hl : args.length ≤ 32) : runB Try.prog E 69 args h = endS Try.prog [.tmp 4] h.length (codeB Try.prog E ⟨69, 32, h.length, none⟩ n69_0 ⟨enumT 0 args, h, []⟩) := GE.run_step Try.func69 body69 (by kernel_rfl) (by decide) (by kernel_rfl) hl
theorem n69_1s : codeB Try.prog E ⟨f, 32, b, ro⟩ n69_1 st = plainS (runOps Try.prog E b q69_1 (ops [false] Try.f69) st) := GE.region_step (id := 0) (GE.reg_of (by kernel_rfl)) (by kernel_rfl)
theorem n69_3s : codeB Try.prog E ⟨f, 32, b, ro⟩ n69_3 st = plainS (runOps Try.prog E b q69_3 (ops [true, false] Try.f69) st) := GE.region_step (id := 1) (GE.reg_of (by kernel_rfl)) (by kernel_rfl)
theorem n69_5s : codeB Try.prog E ⟨f, 32, b, ro⟩ n69_5 st = plainS (runOps Try.prog E b q69_5 (ops [true, true, false] Try.f69) st) := GE.region_step (id := 2) (GE.reg_of (by kernel_rfl)) (by kernel_rfl)
theorem n69_7s : codeB Try.prog E ⟨f, 32, b, ro⟩ n69_7 st = plainS (runOps Try.prog E b q69_7 (ops [true, true, true, false] Try.f69) st) := GE.region_step (id := 3) (GE.reg_of (by kernel_rfl)) (by kernel_rfl)
theorem n69_9s : codeB Try.prog E ⟨f, 32, b, ro⟩ n69_9 st = plainS (runOps Try.prog E b q69_9 (ops [true, true, true, true, false] Try.f69) st) := GE.region_step (id := 4) (GE.reg_of (by kernel_rfl)) (by kernel_rfl)
theorem n69_11s : codeB Try.prog E ⟨f, 32, b, ro⟩ n69_11 st = plainS (runOps Try.prog E b q69_11 (ops [true, true, true, true, true, false] Try.f69) st) := GE.region_step (id := 5) (GE.reg_of (by kernel_rfl)) (by kernel_rfl)
theorem n69_12s : codeB Try.prog LL ⟨69, 32, b, ro⟩ n69_12 st = normS b ⟨[4], []⟩ .ret st := GE.ret_step (by kernel_rfl) (by kernel_rfl)
theorem n69_10s : codeB Try.prog E cx n69_10 st = thenS (codeB Try.prog E cx n69_11 st) (codeB Try.prog E cx n69_12) := GE.seq_step (by kernel_rfl)
theorem n69_8s : codeB Try.prog E cx n69_8 st = thenS (codeB Try.prog E cx n69_9 st) (codeB Try.prog E cx n69_10) := GE.seq_step (by kernel_rfl)
theorem n69_6s : codeB Try.prog E cx n69_6 st = thenS (codeB Try.prog E cx n69_7 st) (codeB Try.prog E cx n69_8) := GE.seq_step (by kernel_rfl)
theorem n69_4s : codeB Try.prog E cx n69_4 st = thenS (codeB Try.prog E cx n69_5 st) (codeB Try.prog E cx n69_6) := GE.seq_step (by kernel_rfl)
theorem n69_2s : codeB Try.prog E cx n69_2 st = thenS (codeB Try.prog E cx n69_3 st) (codeB Try.prog E cx n69_4) := GE.seq_step (by kernel_rfl)
theorem n69_0s : codeB Try.prog E cx n69_0 st = thenS (codeB Try.prog E cx n69_1 st) (codeB Try.prog E cx n69_2) := GE.seq_step (by kernel_rfl)
noncomputable def n71_0 : Code := bodyOf Try.f71
noncomputable def n71_1 : Code := cl n71_0
noncomputable def q71_1 : List Oper := opsOf n71_1
noncomputable def n71_2 : Code := cr n71_0
noncomputable def n71_3 : Code := cl n71_2
noncomputable def q71_3 : List Oper := opsOf n71_3
noncomputable def n71_4 : Code := cr n71_2
theorem body71 : Try.f71.body = some n71_0 := by kernel_rfl
theorem run71 (E : Ev) (args : List Value) (h : List Blk) (hl : args.length ≤ 10) : runB Try.prog E 71 args h = endS Try.prog [.tmp 4] h.length (codeB Try.prog E ⟨71, 10, h.length, none⟩ n71_0 ⟨enumT 0 args, h, []⟩) := GE.run_step Try.func71 body71 (by kernel_rfl) (by decide) (by kernel_rfl) hl
theorem n71_1s : codeB Try.prog E ⟨f, 10, b, ro⟩ n71_1 st = plainS (runOps Try.prog E b q71_1 (ops [false] Try.f71) st) := GE.region_step (id := 0) (GE.reg_of (by kernel_rfl)) (by kernel_rfl)
theorem n71_3s : codeB Try.prog E ⟨f, 10, b, ro⟩ n71_3 st = plainS (runOps Try.prog E b q71_3 (ops [true, false] Try.f71) st) := GE.region_step (id := 1) (GE.reg_of (by kernel_rfl)) (by kernel_rfl)
theorem n71_4s : codeB Try.prog LL ⟨71, 10, b, ro⟩ n71_4 st = normS b ⟨[4], []⟩ .ret st := GE.ret_step (by kernel_rfl) (by kernel_rfl)
theorem n71_2s : codeB Try.prog E cx n71_2 st = thenS (codeB Try.prog E cx n71_3 st) (codeB Try.prog E cx n71_4) := GE.seq_step (by kernel_rfl)
theorem n71_0s : codeB Try.prog E cx n71_0 st = thenS (codeB Try.prog E cx n71_1 st) (codeB Try.prog E cx n71_2) := GE.seq_step (by kernel_rfl)
noncomputable def n72_0 : Code := bodyOf Try.f72
noncomputable def n72_1 : Code := cl n72_0
noncomputable def q72_1 : List Oper := opsOf n72_1
noncomputable def n72_2 : Code := cr n72_0
noncomputable def n72_3 : Code := cl n72_2
noncomputable def n72_4 : Code := cl n72_3
noncomputable def q72_4 : List Oper := opsOf n72_4
noncomputable def n72_5 : Code := cr n72_3
noncomputable def n72_6 : Code := cl n72_5
noncomputable def q72_6 : List Oper := opsOf n72_6
noncomputable def n72_7 : Code := cr n72_5
noncomputable def n72_8 : Code := cl n72_7
noncomputable def n72_9 : Code := cl n72_8
noncomputable def q72_9 : List Oper := opsOf n72_9
noncomputable def n72_10 : Code := cr n72_8
noncomputable def n72_11 : Code := cr n72_7
noncomputable def n72_12 : Code := cr n72_2
noncomputable def n72_13 : Code := cl n72_12
noncomputable def n72_14 : Code := cl n72_13
noncomputable def q72_14 : List Oper := opsOf n72_14
noncomputable def n72_15 : Code := cr n72_13
noncomputable def n72_16 : Code := cl n72_15
noncomputable def n72_17 : Code := cl n72_16
noncomputable def q72_17 : List Oper := opsOf n72_17
noncomputable def n72_18 : Code := cr n72_16
noncomputable def n72_19 : Code := cr n72_15
noncomputable def n72_20 : Code := cr n72_12
noncomputable def n72_21 : Code := cl n72_20
noncomputable def q72_21 : List Oper := opsOf n72_21
noncomputable def n72_22 : Code := cr n72_20
noncomputable def n72_23 : Code := cl n72_22
noncomputable def n72_24 : Code := cl n72_23
noncomputable def q72_24 : List Oper := opsOf n72_24
noncomputable def n72_25 : Code := cr n72_23
noncomputable def n72_26 : Code := cl n72_25
noncomputable def n72_27 : Code := cl n72_26
noncomputable def n72_28 : Code := cl n72_27
noncomputable def q72_28 : List Oper := opsOf n72_28
noncomputable def n72_29 : Code := cr n72_27
noncomputable def n72_30 : Code := cl n72_29
noncomputable def n72_31 : Code := cl n72_30
noncomputable def n72_32 : Code := cr n72_30
noncomputable def n72_33 : Code := cr n72_29
noncomputable def n72_34 : Code := cl n72_33
noncomputable def n72_35 : Code := cl n72_34
noncomputable def n72_36 : Code := cl n72_35
noncomputable def q72_36 : List Oper := opsOf n72_36
noncomputable def n72_37 : Code := cr n72_35
noncomputable def n72_38 : Code := cl n72_37
noncomputable def n72_39 : Code := cl n72_38
noncomputable def n72_40 : Code := cl n72_39
noncomputable def q72_40 : List Oper := opsOf n72_40
noncomputable def n72_41 : Code := cr n72_39
noncomputable def n72_42 : Code := cl n72_41
noncomputable def n72_43 : Code := cl n72_42
noncomputable def q72_43 : List Oper := opsOf n72_43
noncomputable def n72_44 : Code := cr n72_42
noncomputable def n72_45 : Code := cr n72_41
noncomputable def n72_46 : Code := cl n72_45
noncomputable def q72_46 : List Oper := opsOf n72_46
noncomputable def n72_47 : Code := cr n72_45
noncomputable def n72_48 : Code := cl n72_47
noncomputable def n72_49 : Code := cl n72_48
noncomputable def q72_49 : List Oper := opsOf n72_49
noncomputable def n72_50 : Code := cr n72_48
noncomputable def n72_51 : Code := cr n72_47
noncomputable def n72_52 : Code := cr n72_37
noncomputable def q72_52 : List Oper := opsOf n72_52
noncomputable def n72_53 : Code := cr n72_33
noncomputable def q72_53 : List Oper := opsOf n72_53
noncomputable def n72_54 : Code := cr n72_22
noncomputable def n72_55 : Code := cl n72_54
noncomputable def q72_55 : List Oper := opsOf n72_55
noncomputable def n72_56 : Code := cr n72_54
theorem body72 : Try.f72.body = some n72_0 := by kernel_rfl
theorem run72 (E : Ev) (args : List Value) (h : List Blk) (hl : args.length ≤ 43) : runB Try.prog E 72 args h = endS Try.prog [.tmp 4] h.length (codeB Try.prog E ⟨72, 43, h.length, none⟩ n72_0 ⟨enumT 0 args, h, []⟩) := GE.run_step Try.func72 body72 (by kernel_rfl) (by decide) (by kernel_rfl) hl
theorem n72_1s : codeB Try.prog E ⟨f, 43, b, ro⟩ n72_1 st = plainS (runOps Try.prog E b q72_1 (ops [false] Try.f72) st) := GE.region_step (id := 0) (GE.reg_of (by kernel_rfl)) (by kernel_rfl)
theorem n72_4s : codeB Try.prog E ⟨f, 43, b, ro⟩ n72_4 st = plainS (runOps Try.prog E b q72_4 (ops [true, false, false] Try.f72) st) := GE.region_step (id := 1) (GE.reg_of (by kernel_rfl)) (by kernel_rfl)
theorem n72_6s : codeB Try.prog E ⟨f, 43, b, ro⟩ n72_6 st = plainS (runOps Try.prog E b q72_6 (ops [true, false, true, false] Try.f72) st) := GE.region_step (id := 2) (GE.reg_of (by kernel_rfl)) (by kernel_rfl)
theorem n72_9s : codeB Try.prog E ⟨f, 43, b, ro⟩ n72_9 st = plainS (runOps Try.prog E b q72_9 (ops [true, false, true, true, false, false] Try.f72) st) := GE.region_step (id := 3) (GE.reg_of (by kernel_rfl)) (by kernel_rfl)
theorem n72_10s : codeB Try.prog LL ⟨72, 43, b, ro⟩ n72_10 st = normS b ⟨[4], []⟩ .ret st := GE.ret_step (by kernel_rfl) (by kernel_rfl)
theorem n72_8s : codeB Try.prog E cx n72_8 st = thenS (codeB Try.prog E cx n72_9 st) (codeB Try.prog E cx n72_10) := GE.seq_step (by kernel_rfl)
theorem n72_11s : codeB Try.prog E cx n72_11 st = some (.normal, st) := GE.skip_step (by kernel_rfl)
theorem n72_7s : codeB Try.prog E cx n72_7 st = condS (codeB Try.prog E cx n72_8) (codeB Try.prog E cx n72_11) (lk st.σ 12) st := GE.cond_step (c := .tmp 12) (by kernel_rfl)
theorem n72_5s : codeB Try.prog E cx n72_5 st = thenS (codeB Try.prog E cx n72_6 st) (codeB Try.prog E cx n72_7) := GE.seq_step (by kernel_rfl)
theorem n72_3s : codeB Try.prog E cx n72_3 st = thenS (codeB Try.prog E cx n72_4 st) (codeB Try.prog E cx n72_5) := GE.seq_step (by kernel_rfl)
theorem n72_14s : codeB Try.prog E ⟨f, 43, b, ro⟩ n72_14 st = plainS (runOps Try.prog E b q72_14 (ops [true, true, false, false] Try.f72) st) := GE.region_step (id := 4) (GE.reg_of (by kernel_rfl)) (by kernel_rfl)
theorem n72_17s : codeB Try.prog E ⟨f, 43, b, ro⟩ n72_17 st = plainS (runOps Try.prog E b q72_17 (ops [true, true, false, true, false, false] Try.f72) st) := GE.region_step (id := 5) (GE.reg_of (by kernel_rfl)) (by kernel_rfl)
theorem n72_18s : codeB Try.prog LL ⟨72, 43, b, ro⟩ n72_18 st = normS b ⟨[4], []⟩ .ret st := GE.ret_step (by kernel_rfl) (by kernel_rfl)
theorem n72_16s : codeB Try.prog E cx n72_16 st = thenS (codeB Try.prog E cx n72_17 st) (codeB Try.prog E cx n72_18) := GE.seq_step (by kernel_rfl)
theorem n72_19s : codeB Try.prog E cx n72_19 st = some (.normal, st) := GE.skip_step (by kernel_rfl)
theorem n72_15s : codeB Try.prog E cx n72_15 st = condS (codeB Try.prog E cx n72_16) (codeB Try.prog E cx n72_19) (lk st.σ 18) st := GE.cond_step (c := .tmp 18) (by kernel_rfl)
theorem n72_13s : codeB Try.prog E cx n72_13 st = thenS (codeB Try.prog E cx n72_14 st) (codeB Try.prog E cx n72_15) := GE.seq_step (by kernel_rfl)
theorem n72_21s : codeB Try.prog E ⟨f, 43, b, ro⟩ n72_21 st = plainS (runOps Try.prog E b q72_21 (ops [true, true, true, false] Try.f72) st) := GE.region_step (id := 6) (GE.reg_of (by kernel_rfl)) (by kernel_rfl)
theorem n72_24s : codeB Try.prog E ⟨f, 43, b, ro⟩ n72_24 st = plainS (runOps Try.prog E b q72_24 (ops [true, true, true, true, false, false] Try.f72) st) := GE.region_step (id := 7) (GE.reg_of (by kernel_rfl)) (by kernel_rfl)
theorem n72_28s : codeB Try.prog E ⟨f, 43, b, ro⟩ n72_28 st = plainS (runOps Try.prog E b q72_28 (ops [true, true, true, true, false, true, false, false, false] Try.f72) st) := GE.region_step (id := 8) (GE.reg_of (by kernel_rfl)) (by kernel_rfl)
theorem n72_31s : codeB Try.prog E cx n72_31 st = some (.normal, st) := GE.skip_step (by kernel_rfl)
theorem n72_32s : codeB Try.prog LL ⟨72, 43, b, ro⟩ n72_32 st = normS b ⟨[], []⟩ (.exit 0) st := GE.exit_step (by kernel_rfl) (by kernel_rfl)
theorem n72_30s : codeB Try.prog E cx n72_30 st = condS (codeB Try.prog E cx n72_31) (codeB Try.prog E cx n72_32) (lk st.σ 22) st := GE.cond_step (c := .tmp 22) (by kernel_rfl)
theorem n72_36s : codeB Try.prog E ⟨f, 43, b, ro⟩ n72_36 st = plainS (runOps Try.prog E b q72_36 (ops [true, true, true, true, false, true, false, false, true, true, false, false, false] Try.f72) st) := GE.region_step (id := 9) (GE.reg_of (by kernel_rfl)) (by kernel_rfl)
theorem n72_40s : codeB Try.prog E ⟨f, 43, b, ro⟩ n72_40 st = plainS (runOps Try.prog E b q72_40 (ops [true, true, true, true, false, true, false, false, true, true, false, false, true, false, false, false] Try.f72) st) := GE.region_step (id := 10) (GE.reg_of (by kernel_rfl)) (by kernel_rfl)
theorem n72_43s : codeB Try.prog E ⟨f, 43, b, ro⟩ n72_43 st = plainS (runOps Try.prog E b q72_43 (ops [true, true, true, true, false, true, false, false, true, true, false, false, true, false, false, true, false, false] Try.f72) st) := GE.region_step (id := 11) (GE.reg_of (by kernel_rfl)) (by kernel_rfl)
theorem n72_44s : codeB Try.prog LL ⟨72, 43, b, ro⟩ n72_44 st = normS b ⟨[4], []⟩ .ret st := GE.ret_step (by kernel_rfl) (by kernel_rfl)
theorem n72_42s : codeB Try.prog E cx n72_42 st = thenS (codeB Try.prog E cx n72_43 st) (codeB Try.prog E cx n72_44) := GE.seq_step (by kernel_rfl)
theorem n72_46s : codeB Try.prog E ⟨f, 43, b, ro⟩ n72_46 st = plainS (runOps Try.prog E b q72_46 (ops [true, true, true, true, false, true, false, false, true, true, false, false, true, false, false, true, true, false] Try.f72) st) := GE.region_step (id := 12) (GE.reg_of (by kernel_rfl)) (by kernel_rfl)
theorem n72_49s : codeB Try.prog E ⟨f, 43, b, ro⟩ n72_49 st = plainS (runOps Try.prog E b q72_49 (ops [true, true, true, true, false, true, false, false, true, true, false, false, true, false, false, true, true, true, false, false] Try.f72) st) := GE.region_step (id := 13) (GE.reg_of (by kernel_rfl)) (by kernel_rfl)
theorem n72_50s : codeB Try.prog LL ⟨72, 43, b, ro⟩ n72_50 st = normS b ⟨[4], []⟩ .ret st := GE.ret_step (by kernel_rfl) (by kernel_rfl)
theorem n72_48s : codeB Try.prog E cx n72_48 st = thenS (codeB Try.prog E cx n72_49 st) (codeB Try.prog E cx n72_50) := GE.seq_step (by kernel_rfl)
theorem n72_51s : codeB Try.prog E cx n72_51 st = some (.normal, st) := GE.skip_step (by kernel_rfl)
theorem n72_47s : codeB Try.prog E cx n72_47 st = condS (codeB Try.prog E cx n72_48) (codeB Try.prog E cx n72_51) (lk st.σ 32) st := GE.cond_step (c := .tmp 32) (by kernel_rfl)
theorem n72_45s : codeB Try.prog E cx n72_45 st = thenS (codeB Try.prog E cx n72_46 st) (codeB Try.prog E cx n72_47) := GE.seq_step (by kernel_rfl)
theorem n72_41s : codeB Try.prog E cx n72_41 st = condS (codeB Try.prog E cx n72_42) (codeB Try.prog E cx n72_45) (lk st.σ 25) st := GE.cond_step (c := .tmp 25) (by kernel_rfl)
theorem n72_39s : codeB Try.prog E cx n72_39 st = thenS (codeB Try.prog E cx n72_40 st) (codeB Try.prog E cx n72_41) := GE.seq_step (by kernel_rfl)
theorem n72_38s : codeB Try.prog E cx n72_38 st = blockS 2 (codeB Try.prog E cx n72_39 st) st := GE.block_step (by kernel_rfl)
theorem n72_52s : codeB Try.prog E ⟨f, 43, b, ro⟩ n72_52 st = plainS (runOps Try.prog E b q72_52 (ops [true, true, true, true, false, true, false, false, true, true, false, false, true, true] Try.f72) st) := GE.region_step (id := 14) (GE.reg_of (by kernel_rfl)) (by kernel_rfl)
theorem n72_37s : codeB Try.prog E cx n72_37 st = thenS (codeB Try.prog E cx n72_38 st) (codeB Try.prog E cx n72_52) := GE.seq_step (by kernel_rfl)
theorem n72_35s : codeB Try.prog E cx n72_35 st = thenS (codeB Try.prog E cx n72_36 st) (codeB Try.prog E cx n72_37) := GE.seq_step (by kernel_rfl)
theorem n72_34s : codeB Try.prog E cx n72_34 st = blockS 1 (codeB Try.prog E cx n72_35 st) st := GE.block_step (by kernel_rfl)
theorem n72_53s : codeB Try.prog E ⟨f, 43, b, ro⟩ n72_53 st = plainS (runOps Try.prog E b q72_53 (ops [true, true, true, true, false, true, false, false, true, true, true] Try.f72) st) := GE.region_step (id := 15) (GE.reg_of (by kernel_rfl)) (by kernel_rfl)
theorem n72_33s : codeB Try.prog E cx n72_33 st = thenS (codeB Try.prog E cx n72_34 st) (codeB Try.prog E cx n72_53) := GE.seq_step (by kernel_rfl)
theorem n72_29s : codeB Try.prog E cx n72_29 st = thenS (codeB Try.prog E cx n72_30 st) (codeB Try.prog E cx n72_33) := GE.seq_step (by kernel_rfl)
theorem n72_27s : codeB Try.prog E cx n72_27 st = thenS (codeB Try.prog E cx n72_28 st) (codeB Try.prog E cx n72_29) := GE.seq_step (by kernel_rfl)
theorem n72_26k : LL.kp (⟨72, 43, b, ro⟩ : Cx).fn (4 * rid n72_27 + 3) = some ⟨[0, 6, 19, 20, 21], [⟨0, 0, 2, true⟩, ⟨19, 0, 1, true⟩]⟩ := by kernel_rfl
theorem n72_26s : codeB Try.prog LL ⟨72, 43, b, ro⟩ n72_26 st = headS b ⟨[0, 6, 19, 20, 21], [⟨0, 0, 2, true⟩, ⟨19, 0, 1, true⟩]⟩ st (lpB Try.prog LL ⟨72, 43, b, ro⟩ n72_26 n72_27) := GE.lpB_step (by kernel_rfl) (n72_26k b ro)
theorem n72_26g : LL.code ⟨72, 43, b, ro⟩ n72_26 st = headS b ⟨[0, 6, 19, 20, 21], [⟨0, 0, 2, true⟩, ⟨19, 0, 1, true⟩]⟩ st (lpB Try.prog LL ⟨72, 43, b, ro⟩ n72_26 n72_27) := GE.lpB_again (by kernel_rfl) (n72_26k b ro)
theorem n72_25s : codeB Try.prog E cx n72_25 st = blockS 0 (codeB Try.prog E cx n72_26 st) st := GE.block_step (by kernel_rfl)
theorem n72_23s : codeB Try.prog E cx n72_23 st = thenS (codeB Try.prog E cx n72_24 st) (codeB Try.prog E cx n72_25) := GE.seq_step (by kernel_rfl)
theorem n72_55s : codeB Try.prog E ⟨f, 43, b, ro⟩ n72_55 st = plainS (runOps Try.prog E b q72_55 (ops [true, true, true, true, true, false] Try.f72) st) := GE.region_step (id := 16) (GE.reg_of (by kernel_rfl)) (by kernel_rfl)
theorem n72_56s : codeB Try.prog LL ⟨72, 43, b, ro⟩ n72_56 st = normS b ⟨[4], []⟩ .ret st := GE.ret_step (by kernel_rfl) (by kernel_rfl)
theorem n72_54s : codeB Try.prog E cx n72_54 st = thenS (codeB Try.prog E cx n72_55 st) (codeB Try.prog E cx n72_56) := GE.seq_step (by kernel_rfl)
theorem n72_22s : codeB Try.prog E cx n72_22 st = thenS (codeB Try.prog E cx n72_23 st) (codeB Try.prog E cx n72_54) := GE.seq_step (by kernel_rfl)
theorem n72_20s : codeB Try.prog E cx n72_20 st = thenS (codeB Try.prog E cx n72_21 st) (codeB Try.prog E cx n72_22) := GE.seq_step (by kernel_rfl)
theorem n72_12s : codeB Try.prog E cx n72_12 st = thenS (codeB Try.prog E cx n72_13 st) (codeB Try.prog E cx n72_20) := GE.seq_step (by kernel_rfl)
theorem n72_2s : codeB Try.prog E cx n72_2 st = thenS (codeB Try.prog E cx n72_3 st) (codeB Try.prog E cx n72_12) := GE.seq_step (by kernel_rfl)
theorem n72_0s : codeB Try.prog E cx n72_0 st = thenS (codeB Try.prog E cx n72_1 st) (codeB Try.prog E cx n72_2) := GE.seq_step (by kernel_rfl)
noncomputable def n73_0 : Code := bodyOf Try.f73
noncomputable def n73_1 : Code := cl n73_0
noncomputable def q73_1 : List Oper := opsOf n73_1
noncomputable def n73_2 : Code := cr n73_0
noncomputable def n73_3 : Code := cl n73_2
noncomputable def n73_4 : Code := cl n73_3
noncomputable def q73_4 : List Oper := opsOf n73_4
noncomputable def n73_5 : Code := cr n73_3
noncomputable def n73_6 : Code := cl n73_5
noncomputable def n73_7 : Code := cl n73_6
noncomputable def n73_8 : Code := cl n73_7
noncomputable def q73_8 : List Oper := opsOf n73_8
noncomputable def n73_9 : Code := cr n73_7
noncomputable def n73_10 : Code := cl n73_9
noncomputable def n73_11 : Code := cl n73_10
noncomputable def n73_12 : Code := cr n73_10
noncomputable def n73_13 : Code := cr n73_9
noncomputable def n73_14 : Code := cl n73_13
noncomputable def n73_15 : Code := cl n73_14
noncomputable def n73_16 : Code := cl n73_15
noncomputable def q73_16 : List Oper := opsOf n73_16
noncomputable def n73_17 : Code := cr n73_15
noncomputable def n73_18 : Code := cl n73_17
noncomputable def q73_18 : List Oper := opsOf n73_18
noncomputable def n73_19 : Code := cr n73_17
noncomputable def n73_20 : Code := cl n73_19
noncomputable def n73_21 : Code := cl n73_20
noncomputable def n73_22 : Code := cl n73_21
noncomputable def n73_23 : Code := cl n73_22
noncomputable def q73_23 : List Oper := opsOf n73_23
noncomputable def n73_24 : Code := cr n73_22
noncomputable def n73_25 : Code := cl n73_24
noncomputable def n73_26 : Code := cr n73_24
noncomputable def n73_27 : Code := cr n73_21
noncomputable def n73_28 : Code := cl n73_27
noncomputable def n73_29 : Code := cl n73_28
noncomputable def n73_30 : Code := cl n73_29
noncomputable def q73_30 : List Oper := opsOf n73_30
noncomputable def n73_31 : Code := cr n73_29
noncomputable def n73_32 : Code := cl n73_31
noncomputable def n73_33 : Code := cl n73_32
noncomputable def q73_33 : List Oper := opsOf n73_33
noncomputable def n73_34 : Code := cr n73_32
noncomputable def n73_35 : Code := cr n73_31
noncomputable def n73_36 : Code := cr n73_27
noncomputable def q73_36 : List Oper := opsOf n73_36
noncomputable def n73_37 : Code := cr n73_13
noncomputable def q73_37 : List Oper := opsOf n73_37
noncomputable def n73_38 : Code := cr n73_2
noncomputable def n73_39 : Code := cl n73_38
noncomputable def q73_39 : List Oper := opsOf n73_39
noncomputable def n73_40 : Code := cr n73_38
theorem body73 : Try.f73.body = some n73_0 := by kernel_rfl
theorem run73 (E : Ev) (args : List Value) (h : List Blk) (hl : args.length ≤ 35) : runB Try.prog E 73 args h = endS Try.prog [.tmp 4, .tmp 5, .tmp 6] h.length (codeB Try.prog E ⟨73, 35, h.length, none⟩ n73_0 ⟨enumT 0 args, h, []⟩) := GE.run_step Try.func73 body73 (by kernel_rfl) (by decide) (by kernel_rfl) hl
theorem n73_1s : codeB Try.prog E ⟨f, 35, b, ro⟩ n73_1 st = plainS (runOps Try.prog E b q73_1 (ops [false] Try.f73) st) := GE.region_step (id := 0) (GE.reg_of (by kernel_rfl)) (by kernel_rfl)
theorem n73_4s : codeB Try.prog E ⟨f, 35, b, ro⟩ n73_4 st = plainS (runOps Try.prog E b q73_4 (ops [true, false, false] Try.f73) st) := GE.region_step (id := 1) (GE.reg_of (by kernel_rfl)) (by kernel_rfl)
theorem n73_8s : codeB Try.prog E ⟨f, 35, b, ro⟩ n73_8 st = plainS (runOps Try.prog E b q73_8 (ops [true, false, true, false, false, false] Try.f73) st) := GE.region_step (id := 2) (GE.reg_of (by kernel_rfl)) (by kernel_rfl)
theorem n73_11s : codeB Try.prog E cx n73_11 st = some (.normal, st) := GE.skip_step (by kernel_rfl)
theorem n73_12s : codeB Try.prog LL ⟨73, 35, b, ro⟩ n73_12 st = normS b ⟨[], []⟩ (.exit 0) st := GE.exit_step (by kernel_rfl) (by kernel_rfl)
theorem n73_10s : codeB Try.prog E cx n73_10 st = condS (codeB Try.prog E cx n73_11) (codeB Try.prog E cx n73_12) (lk st.σ 12) st := GE.cond_step (c := .tmp 12) (by kernel_rfl)
theorem n73_16s : codeB Try.prog E ⟨f, 35, b, ro⟩ n73_16 st = plainS (runOps Try.prog E b q73_16 (ops [true, false, true, false, false, true, true, false, false, false] Try.f73) st) := GE.region_step (id := 3) (GE.reg_of (by kernel_rfl)) (by kernel_rfl)
theorem n73_18s : codeB Try.prog E ⟨f, 35, b, ro⟩ n73_18 st = plainS (runOps Try.prog E b q73_18 (ops [true, false, true, false, false, true, true, false, false, true, false] Try.f73) st) := GE.region_step (id := 4) (GE.reg_of (by kernel_rfl)) (by kernel_rfl)
theorem n73_23s : codeB Try.prog E ⟨f, 35, b, ro⟩ n73_23 st = plainS (runOps Try.prog E b q73_23 (ops [true, false, true, false, false, true, true, false, false, true, true, false, false, false, false] Try.f73) st) := GE.region_step (id := 5) (GE.reg_of (by kernel_rfl)) (by kernel_rfl)
theorem n73_25s : codeB Try.prog E cx n73_25 st = some (.normal, st) := GE.skip_step (by kernel_rfl)
theorem n73_26s : codeB Try.prog LL ⟨73, 35, b, ro⟩ n73_26 st = normS b ⟨[0, 1, 10, 11], [⟨0, 0, 2, true⟩, ⟨1, 0, 1, true⟩]⟩ (.exit 2) st := GE.exit_step (by kernel_rfl) (by kernel_rfl)
theorem n73_24s : codeB Try.prog E cx n73_24 st = condS (codeB Try.prog E cx n73_25) (codeB Try.prog E cx n73_26) (lk st.σ 19) st := GE.cond_step (c := .tmp 19) (by kernel_rfl)
theorem n73_22s : codeB Try.prog E cx n73_22 st = thenS (codeB Try.prog E cx n73_23 st) (codeB Try.prog E cx n73_24) := GE.seq_step (by kernel_rfl)
theorem n73_30s : codeB Try.prog E ⟨f, 35, b, ro⟩ n73_30 st = drawS [0, 0, 0, 6, 14, 0, 0, 96, 224, 511] (runOpsF Try.prog E b q73_30 (ops [true, false, true, false, false, true, true, false, false, true, true, false, false, true, false, false, false] Try.f73) st) := GE.draw_step (id := 7) (GE.reg_of (by kernel_rfl)) (by kernel_rfl) (by kernel_rfl) (by kernel_rfl)
theorem n73_33s : codeB Try.prog E ⟨f, 35, b, ro⟩ n73_33 st = plainS (runOps Try.prog E b q73_33 (ops [true, false, true, false, false, true, true, false, false, true, true, false, false, true, false, false, true, false, false] Try.f73) st) := GE.region_step (id := 8) (GE.reg_of (by kernel_rfl)) (by kernel_rfl)
theorem n73_34s : codeB Try.prog LL ⟨73, 35, b, ro⟩ n73_34 st = normS b ⟨[4, 5, 6], []⟩ .ret st := GE.ret_step (by kernel_rfl) (by kernel_rfl)
theorem n73_32s : codeB Try.prog E cx n73_32 st = thenS (codeB Try.prog E cx n73_33 st) (codeB Try.prog E cx n73_34) := GE.seq_step (by kernel_rfl)
theorem n73_35s : codeB Try.prog E cx n73_35 st = some (.normal, st) := GE.skip_step (by kernel_rfl)
theorem n73_31s : codeB Try.prog E cx n73_31 st = condS (codeB Try.prog E cx n73_32) (codeB Try.prog E cx n73_35) (lk st.σ 31) st := GE.cond_step (c := .tmp 31) (by kernel_rfl)
theorem n73_29s : codeB Try.prog E cx n73_29 st = thenS (codeB Try.prog E cx n73_30 st) (codeB Try.prog E cx n73_31) := GE.seq_step (by kernel_rfl)
theorem n73_28s : codeB Try.prog E cx n73_28 st = blockS 3 (codeB Try.prog E cx n73_29 st) st := GE.block_step (by kernel_rfl)
theorem n73_36s : codeB Try.prog E ⟨f, 35, b, ro⟩ n73_36 st = plainS (runOps Try.prog E b q73_36 (ops [true, false, true, false, false, true, true, false, false, true, true, false, false, true, true] Try.f73) st) := GE.region_step (id := 6) (GE.reg_of (by kernel_rfl)) (by kernel_rfl)
theorem n73_27s : codeB Try.prog E cx n73_27 st = thenS (codeB Try.prog E cx n73_28 st) (codeB Try.prog E cx n73_36) := GE.seq_step (by kernel_rfl)
theorem n73_21s : codeB Try.prog E cx n73_21 st = thenS (codeB Try.prog E cx n73_22 st) (codeB Try.prog E cx n73_27) := GE.seq_step (by kernel_rfl)
theorem n73_20k : LL.kp (⟨73, 35, b, ro⟩ : Cx).fn (4 * rid n73_21 + 3) = some ⟨[7, 8, 0, 1, 10, 11], [⟨0, 0, 2, true⟩, ⟨1, 0, 1, true⟩]⟩ := by kernel_rfl
theorem n73_20s : codeB Try.prog LL ⟨73, 35, b, ro⟩ n73_20 st = headS b ⟨[7, 8, 0, 1, 10, 11], [⟨0, 0, 2, true⟩, ⟨1, 0, 1, true⟩]⟩ st (lpB Try.prog LL ⟨73, 35, b, ro⟩ n73_20 n73_21) := GE.lpB_step (by kernel_rfl) (n73_20k b ro)
theorem n73_20g : LL.code ⟨73, 35, b, ro⟩ n73_20 st = headS b ⟨[7, 8, 0, 1, 10, 11], [⟨0, 0, 2, true⟩, ⟨1, 0, 1, true⟩]⟩ st (lpB Try.prog LL ⟨73, 35, b, ro⟩ n73_20 n73_21) := GE.lpB_again (by kernel_rfl) (n73_20k b ro)
theorem n73_19s : codeB Try.prog E cx n73_19 st = blockS 2 (codeB Try.prog E cx n73_20 st) st := GE.block_step (by kernel_rfl)
theorem n73_17s : codeB Try.prog E cx n73_17 st = thenS (codeB Try.prog E cx n73_18 st) (codeB Try.prog E cx n73_19) := GE.seq_step (by kernel_rfl)
theorem n73_15s : codeB Try.prog E cx n73_15 st = thenS (codeB Try.prog E cx n73_16 st) (codeB Try.prog E cx n73_17) := GE.seq_step (by kernel_rfl)
theorem n73_14s : codeB Try.prog E cx n73_14 st = blockS 1 (codeB Try.prog E cx n73_15 st) st := GE.block_step (by kernel_rfl)
theorem n73_37s : codeB Try.prog E ⟨f, 35, b, ro⟩ n73_37 st = plainS (runOps Try.prog E b q73_37 (ops [true, false, true, false, false, true, true, true] Try.f73) st) := GE.region_step (id := 9) (GE.reg_of (by kernel_rfl)) (by kernel_rfl)
theorem n73_13s : codeB Try.prog E cx n73_13 st = thenS (codeB Try.prog E cx n73_14 st) (codeB Try.prog E cx n73_37) := GE.seq_step (by kernel_rfl)
theorem n73_9s : codeB Try.prog E cx n73_9 st = thenS (codeB Try.prog E cx n73_10 st) (codeB Try.prog E cx n73_13) := GE.seq_step (by kernel_rfl)
theorem n73_7s : codeB Try.prog E cx n73_7 st = thenS (codeB Try.prog E cx n73_8 st) (codeB Try.prog E cx n73_9) := GE.seq_step (by kernel_rfl)
theorem n73_6k : LL.kp (⟨73, 35, b, ro⟩ : Cx).fn (4 * rid n73_7 + 3) = some ⟨[0, 1, 10, 11], [⟨0, 0, 2, true⟩, ⟨1, 0, 1, true⟩]⟩ := by kernel_rfl
theorem n73_6s : codeB Try.prog LL ⟨73, 35, b, ro⟩ n73_6 st = headS b ⟨[0, 1, 10, 11], [⟨0, 0, 2, true⟩, ⟨1, 0, 1, true⟩]⟩ st (lpB Try.prog LL ⟨73, 35, b, ro⟩ n73_6 n73_7) := GE.lpB_step (by kernel_rfl) (n73_6k b ro)
theorem n73_6g : LL.code ⟨73, 35, b, ro⟩ n73_6 st = headS b ⟨[0, 1, 10, 11], [⟨0, 0, 2, true⟩, ⟨1, 0, 1, true⟩]⟩ st (lpB Try.prog LL ⟨73, 35, b, ro⟩ n73_6 n73_7) := GE.lpB_again (by kernel_rfl) (n73_6k b ro)
theorem n73_5s : codeB Try.prog E cx n73_5 st = blockS 0 (codeB Try.prog E cx n73_6 st) st := GE.block_step (by kernel_rfl)
theorem n73_3s : codeB Try.prog E cx n73_3 st = thenS (codeB Try.prog E cx n73_4 st) (codeB Try.prog E cx n73_5) := GE.seq_step (by kernel_rfl)
theorem n73_39s : codeB Try.prog E ⟨f, 35, b, ro⟩ n73_39 st = plainS (runOps Try.prog E b q73_39 (ops [true, true, false] Try.f73) st) := GE.region_step (id := 10) (GE.reg_of (by kernel_rfl)) (by kernel_rfl)
theorem n73_40s : codeB Try.prog LL ⟨73, 35, b, ro⟩ n73_40 st = normS b ⟨[4, 5, 6], []⟩ .ret st := GE.ret_step (by kernel_rfl) (by kernel_rfl)
theorem n73_38s : codeB Try.prog E cx n73_38 st = thenS (codeB Try.prog E cx n73_39 st) (codeB Try.prog E cx n73_40) := GE.seq_step (by kernel_rfl)
theorem n73_2s : codeB Try.prog E cx n73_2 st = thenS (codeB Try.prog E cx n73_3 st) (codeB Try.prog E cx n73_38) := GE.seq_step (by kernel_rfl)
theorem n73_0s : codeB Try.prog E cx n73_0 st = thenS (codeB Try.prog E cx n73_1 st) (codeB Try.prog E cx n73_2) := GE.seq_step (by kernel_rfl)
noncomputable def n74_0 : Code := bodyOf Try.f74
noncomputable def n74_1 : Code := cl n74_0
noncomputable def q74_1 : List Oper := opsOf n74_1
noncomputable def n74_2 : Code := cr n74_0
noncomputable def n74_3 : Code := cl n74_2
noncomputable def q74_3 : List Oper := opsOf n74_3
noncomputable def n74_4 : Code := cr n74_2
theorem body74 : Try.f74.body = some n74_0 := by kernel_rfl
theorem run74 (E : Ev) (args : List Value) (h : List Blk) (hl : args.length ≤ 9) : runB Try.prog E 74 args h = endS Try.prog [.tmp 4] h.length (codeB Try.prog E ⟨74, 9, h.length, none⟩ n74_0 ⟨enumT 0 args, h, []⟩) := GE.run_step Try.func74 body74 (by kernel_rfl) (by decide) (by kernel_rfl) hl
theorem n74_1s : codeB Try.prog E ⟨f, 9, b, ro⟩ n74_1 st = plainS (runOps Try.prog E b q74_1 (ops [false] Try.f74) st) := GE.region_step (id := 0) (GE.reg_of (by kernel_rfl)) (by kernel_rfl)
theorem n74_3s : codeB Try.prog E ⟨f, 9, b, ro⟩ n74_3 st = plainS (runOps Try.prog E b q74_3 (ops [true, false] Try.f74) st) := GE.region_step (id := 1) (GE.reg_of (by kernel_rfl)) (by kernel_rfl)
theorem n74_4s : codeB Try.prog LL ⟨74, 9, b, ro⟩ n74_4 st = normS b ⟨[4], []⟩ .ret st := GE.ret_step (by kernel_rfl) (by kernel_rfl)
theorem n74_2s : codeB Try.prog E cx n74_2 st = thenS (codeB Try.prog E cx n74_3 st) (codeB Try.prog E cx n74_4) := GE.seq_step (by kernel_rfl)
theorem n74_0s : codeB Try.prog E cx n74_0 st = thenS (codeB Try.prog E cx n74_1 st) (codeB Try.prog E cx n74_2) := GE.seq_step (by kernel_rfl)
noncomputable def n75_0 : Code := bodyOf Try.f75
noncomputable def n75_1 : Code := cl n75_0
noncomputable def q75_1 : List Oper := opsOf n75_1
noncomputable def n75_2 : Code := cr n75_0
noncomputable def n75_3 : Code := cl n75_2
noncomputable def q75_3 : List Oper := opsOf n75_3
noncomputable def n75_4 : Code := cr n75_2
theorem body75 : Try.f75.body = some n75_0 := by kernel_rfl
theorem run75 (E : Ev) (args : List Value) (h : List Blk) (hl : args.length ≤ 14) : runB Try.prog E 75 args h = endS Try.prog [.tmp 2] h.length (codeB Try.prog E ⟨75, 14, h.length, none⟩ n75_0 ⟨enumT 0 args, h, []⟩) := GE.run_step Try.func75 body75 (by kernel_rfl) (by decide) (by kernel_rfl) hl
theorem n75_1s : codeB Try.prog E ⟨f, 14, b, ro⟩ n75_1 st = plainS (runOps Try.prog E b q75_1 (ops [false] Try.f75) st) := GE.region_step (id := 0) (GE.reg_of (by kernel_rfl)) (by kernel_rfl)
theorem q75_3g6 : gd q75_3 6 = some 9 := by kernel_rfl
theorem n75_3s : codeB Try.prog E ⟨f, 14, b, ro⟩ n75_3 st = plainS (runOps Try.prog E b q75_3 (ops [true, false] Try.f75) st) := GE.region_step (id := 1) (GE.reg_of (by kernel_rfl)) (by kernel_rfl)
theorem n75_4s : codeB Try.prog LL ⟨75, 14, b, ro⟩ n75_4 st = normS b ⟨[2], []⟩ .ret st := GE.ret_step (by kernel_rfl) (by kernel_rfl)
theorem n75_2s : codeB Try.prog E cx n75_2 st = thenS (codeB Try.prog E cx n75_3 st) (codeB Try.prog E cx n75_4) := GE.seq_step (by kernel_rfl)
theorem n75_0s : codeB Try.prog E cx n75_0 st = thenS (codeB Try.prog E cx n75_1 st) (codeB Try.prog E cx n75_2) := GE.seq_step (by kernel_rfl)
noncomputable def n77_0 : Code := bodyOf Try.f77
noncomputable def n77_1 : Code := cl n77_0
noncomputable def q77_1 : List Oper := opsOf n77_1
noncomputable def n77_2 : Code := cr n77_0
noncomputable def n77_3 : Code := cl n77_2
noncomputable def q77_3 : List Oper := opsOf n77_3
noncomputable def n77_4 : Code := cr n77_2
theorem body77 : Try.f77.body = some n77_0 := by kernel_rfl
theorem run77 (E : Ev) (args : List Value) (h : List Blk) (hl : args.length ≤ 18) : runB Try.prog E 77 args h = endS Try.prog [.tmp 6] h.length (codeB Try.prog E ⟨77, 18, h.length, none⟩ n77_0 ⟨enumT 0 args, h, []⟩) := GE.run_step Try.func77 body77 (by kernel_rfl) (by decide) (by kernel_rfl) hl
theorem n77_1s : codeB Try.prog E ⟨f, 18, b, ro⟩ n77_1 st = plainS (runOps Try.prog E b q77_1 (ops [false] Try.f77) st) := GE.region_step (id := 0) (GE.reg_of (by kernel_rfl)) (by kernel_rfl)
theorem n77_3s : codeB Try.prog E ⟨f, 18, b, ro⟩ n77_3 st = drawS [0, 0, 3, 7, 15, 0, 0, 96, 224, 480, 1023, 2047] (runOpsF Try.prog E b q77_3 (ops [true, false] Try.f77) st) := GE.draw_step (id := 1) (GE.reg_of (by kernel_rfl)) (by kernel_rfl) (by kernel_rfl) (by kernel_rfl)
theorem n77_4s : codeB Try.prog LL ⟨77, 18, b, ro⟩ n77_4 st = normS b ⟨[6], []⟩ .ret st := GE.ret_step (by kernel_rfl) (by kernel_rfl)
theorem n77_2s : codeB Try.prog E cx n77_2 st = thenS (codeB Try.prog E cx n77_3 st) (codeB Try.prog E cx n77_4) := GE.seq_step (by kernel_rfl)
theorem n77_0s : codeB Try.prog E cx n77_0 st = thenS (codeB Try.prog E cx n77_1 st) (codeB Try.prog E cx n77_2) := GE.seq_step (by kernel_rfl)
noncomputable def n78_0 : Code := bodyOf Try.f78
noncomputable def n78_1 : Code := cl n78_0
noncomputable def q78_1 : List Oper := opsOf n78_1
noncomputable def n78_2 : Code := cr n78_0
noncomputable def n78_3 : Code := cl n78_2
noncomputable def q78_3 : List Oper := opsOf n78_3
noncomputable def n78_4 : Code := cr n78_2
theorem body78 : Try.f78.body = some n78_0 := by kernel_rfl
theorem run78 (E : Ev) (args : List Value) (h : List Blk) (hl : args.length ≤ 5) : runB Try.prog E 78 args h = endS Try.prog [.tmp 4] h.length (codeB Try.prog E ⟨78, 5, h.length, none⟩ n78_0 ⟨enumT 0 args, h, []⟩) := GE.run_step Try.func78 body78 (by kernel_rfl) (by decide) (by kernel_rfl) hl
theorem n78_1s : codeB Try.prog E ⟨f, 5, b, ro⟩ n78_1 st = plainS (runOps Try.prog E b q78_1 (ops [false] Try.f78) st) := GE.region_step (id := 0) (GE.reg_of (by kernel_rfl)) (by kernel_rfl)
theorem n78_3s : codeB Try.prog E ⟨f, 5, b, ro⟩ n78_3 st = plainS (runOps Try.prog E b q78_3 (ops [true, false] Try.f78) st) := GE.region_step (id := 1) (GE.reg_of (by kernel_rfl)) (by kernel_rfl)
theorem n78_4s : codeB Try.prog LL ⟨78, 5, b, ro⟩ n78_4 st = normS b ⟨[4], []⟩ .ret st := GE.ret_step (by kernel_rfl) (by kernel_rfl)
theorem n78_2s : codeB Try.prog E cx n78_2 st = thenS (codeB Try.prog E cx n78_3 st) (codeB Try.prog E cx n78_4) := GE.seq_step (by kernel_rfl)
theorem n78_0s : codeB Try.prog E cx n78_0 st = thenS (codeB Try.prog E cx n78_1 st) (codeB Try.prog E cx n78_2) := GE.seq_step (by kernel_rfl)
noncomputable def n80_0 : Code := bodyOf Try.f80
noncomputable def n80_1 : Code := cl n80_0
noncomputable def q80_1 : List Oper := opsOf n80_1
noncomputable def n80_2 : Code := cr n80_0
noncomputable def n80_3 : Code := cl n80_2
noncomputable def q80_3 : List Oper := opsOf n80_3
noncomputable def n80_4 : Code := cr n80_2
noncomputable def n80_5 : Code := cl n80_4
noncomputable def n80_6 : Code := cl n80_5
noncomputable def q80_6 : List Oper := opsOf n80_6
noncomputable def n80_7 : Code := cr n80_5
noncomputable def n80_8 : Code := cl n80_7
noncomputable def n80_9 : Code := cl n80_8
noncomputable def n80_10 : Code := cl n80_9
noncomputable def q80_10 : List Oper := opsOf n80_10
noncomputable def n80_11 : Code := cr n80_9
noncomputable def n80_12 : Code := cl n80_11
noncomputable def n80_13 : Code := cl n80_12
noncomputable def n80_14 : Code := cr n80_12
noncomputable def n80_15 : Code := cr n80_11
noncomputable def n80_16 : Code := cl n80_15
noncomputable def n80_17 : Code := cl n80_16
noncomputable def n80_18 : Code := cl n80_17
noncomputable def q80_18 : List Oper := opsOf n80_18
noncomputable def n80_19 : Code := cr n80_17
noncomputable def n80_20 : Code := cl n80_19
noncomputable def q80_20 : List Oper := opsOf n80_20
noncomputable def n80_21 : Code := cr n80_19
noncomputable def n80_22 : Code := cl n80_21
noncomputable def q80_22 : List Oper := opsOf n80_22
noncomputable def n80_23 : Code := cr n80_21
noncomputable def n80_24 : Code := cr n80_15
noncomputable def q80_24 : List Oper := opsOf n80_24
noncomputable def n80_25 : Code := cr n80_4
noncomputable def n80_26 : Code := cl n80_25
noncomputable def q80_26 : List Oper := opsOf n80_26
noncomputable def n80_27 : Code := cr n80_25
theorem body80 : Try.f80.body = some n80_0 := by kernel_rfl
theorem run80 (E : Ev) (args : List Value) (h : List Blk) (hl : args.length ≤ 35) : runB Try.prog E 80 args h = endS Try.prog [.tmp 5] h.length (codeB Try.prog E ⟨80, 35, h.length, none⟩ n80_0 ⟨enumT 0 args, h, []⟩) := GE.run_step Try.func80 body80 (by kernel_rfl) (by decide) (by kernel_rfl) hl
theorem n80_1s : codeB Try.prog E ⟨f, 35, b, ro⟩ n80_1 st = plainS (runOps Try.prog E b q80_1 (ops [false] Try.f80) st) := GE.region_step (id := 0) (GE.reg_of (by kernel_rfl)) (by kernel_rfl)
theorem n80_3s : codeB Try.prog E ⟨f, 35, b, ro⟩ n80_3 st = plainS (runOps Try.prog E b q80_3 (ops [true, false] Try.f80) st) := GE.region_step (id := 1) (GE.reg_of (by kernel_rfl)) (by kernel_rfl)
theorem n80_6s : codeB Try.prog E ⟨f, 35, b, ro⟩ n80_6 st = plainS (runOps Try.prog E b q80_6 (ops [true, true, false, false] Try.f80) st) := GE.region_step (id := 2) (GE.reg_of (by kernel_rfl)) (by kernel_rfl)
theorem n80_10s : codeB Try.prog E ⟨f, 35, b, ro⟩ n80_10 st = plainS (runOps Try.prog E b q80_10 (ops [true, true, false, true, false, false, false] Try.f80) st) := GE.region_step (id := 3) (GE.reg_of (by kernel_rfl)) (by kernel_rfl)
theorem n80_13s : codeB Try.prog E cx n80_13 st = some (.normal, st) := GE.skip_step (by kernel_rfl)
theorem n80_14s : codeB Try.prog LL ⟨80, 35, b, ro⟩ n80_14 st = normS b ⟨[6], []⟩ (.exit 0) st := GE.exit_step (by kernel_rfl) (by kernel_rfl)
theorem n80_12s : codeB Try.prog E cx n80_12 st = condS (codeB Try.prog E cx n80_13) (codeB Try.prog E cx n80_14) (lk st.σ 11) st := GE.cond_step (c := .tmp 11) (by kernel_rfl)
theorem n80_18s : codeB Try.prog E ⟨f, 35, b, ro⟩ n80_18 st = plainS (runOps Try.prog E b q80_18 (ops [true, true, false, true, false, false, true, true, false, false, false] Try.f80) st) := GE.region_step (id := 4) (GE.reg_of (by kernel_rfl)) (by kernel_rfl)
theorem q80_20g4 : gd q80_20 4 = some 17 := by kernel_rfl
theorem n80_20s : codeB Try.prog E ⟨f, 35, b, ro⟩ n80_20 st = plainS (runOps Try.prog E b q80_20 (ops [true, true, false, true, false, false, true, true, false, false, true, false] Try.f80) st) := GE.region_step (id := 5) (GE.reg_of (by kernel_rfl)) (by kernel_rfl)
theorem n80_22s : codeB Try.prog E ⟨f, 35, b, ro⟩ n80_22 st = drawS [0, 0, 2, 6, 14, 0, 0, 96, 254, 511, 1023] (runOpsF Try.prog E b q80_22 (ops [true, true, false, true, false, false, true, true, false, false, true, true, false] Try.f80) st) := GE.draw_step (id := 6) (GE.reg_of (by kernel_rfl)) (by kernel_rfl) (by kernel_rfl) (by kernel_rfl)
theorem n80_23s : codeB Try.prog E cx n80_23 st = some (.normal, st) := GE.skip_step (by kernel_rfl)
theorem n80_21s : codeB Try.prog E cx n80_21 st = condS (codeB Try.prog E cx n80_22) (codeB Try.prog E cx n80_23) (lk st.σ 22) st := GE.cond_step (c := .tmp 22) (by kernel_rfl)
theorem n80_19s : codeB Try.prog E cx n80_19 st = thenS (codeB Try.prog E cx n80_20 st) (codeB Try.prog E cx n80_21) := GE.seq_step (by kernel_rfl)
theorem n80_17s : codeB Try.prog E cx n80_17 st = thenS (codeB Try.prog E cx n80_18 st) (codeB Try.prog E cx n80_19) := GE.seq_step (by kernel_rfl)
theorem n80_16s : codeB Try.prog E cx n80_16 st = blockS 1 (codeB Try.prog E cx n80_17 st) st := GE.block_step (by kernel_rfl)
theorem n80_24s : codeB Try.prog E ⟨f, 35, b, ro⟩ n80_24 st = plainS (runOps Try.prog E b q80_24 (ops [true, true, false, true, false, false, true, true, true] Try.f80) st) := GE.region_step (id := 7) (GE.reg_of (by kernel_rfl)) (by kernel_rfl)
theorem n80_15s : codeB Try.prog E cx n80_15 st = thenS (codeB Try.prog E cx n80_16 st) (codeB Try.prog E cx n80_24) := GE.seq_step (by kernel_rfl)
theorem n80_11s : codeB Try.prog E cx n80_11 st = thenS (codeB Try.prog E cx n80_12 st) (codeB Try.prog E cx n80_15) := GE.seq_step (by kernel_rfl)
theorem n80_9s : codeB Try.prog E cx n80_9 st = thenS (codeB Try.prog E cx n80_10 st) (codeB Try.prog E cx n80_11) := GE.seq_step (by kernel_rfl)
theorem n80_8k : LL.kp (⟨80, 35, b, ro⟩ : Cx).fn (4 * rid n80_9 + 3) = some ⟨[0, 1, 2, 3, 6, 9, 10], []⟩ := by kernel_rfl
theorem n80_8s : codeB Try.prog LL ⟨80, 35, b, ro⟩ n80_8 st = headS b ⟨[0, 1, 2, 3, 6, 9, 10], []⟩ st (lpB Try.prog LL ⟨80, 35, b, ro⟩ n80_8 n80_9) := GE.lpB_step (by kernel_rfl) (n80_8k b ro)
theorem n80_8g : LL.code ⟨80, 35, b, ro⟩ n80_8 st = headS b ⟨[0, 1, 2, 3, 6, 9, 10], []⟩ st (lpB Try.prog LL ⟨80, 35, b, ro⟩ n80_8 n80_9) := GE.lpB_again (by kernel_rfl) (n80_8k b ro)
theorem n80_7s : codeB Try.prog E cx n80_7 st = blockS 0 (codeB Try.prog E cx n80_8 st) st := GE.block_step (by kernel_rfl)
theorem n80_5s : codeB Try.prog E cx n80_5 st = thenS (codeB Try.prog E cx n80_6 st) (codeB Try.prog E cx n80_7) := GE.seq_step (by kernel_rfl)
theorem n80_26s : codeB Try.prog E ⟨f, 35, b, ro⟩ n80_26 st = plainS (runOps Try.prog E b q80_26 (ops [true, true, true, false] Try.f80) st) := GE.region_step (id := 8) (GE.reg_of (by kernel_rfl)) (by kernel_rfl)
theorem n80_27s : codeB Try.prog LL ⟨80, 35, b, ro⟩ n80_27 st = normS b ⟨[5], []⟩ .ret st := GE.ret_step (by kernel_rfl) (by kernel_rfl)
theorem n80_25s : codeB Try.prog E cx n80_25 st = thenS (codeB Try.prog E cx n80_26 st) (codeB Try.prog E cx n80_27) := GE.seq_step (by kernel_rfl)
theorem n80_4s : codeB Try.prog E cx n80_4 st = thenS (codeB Try.prog E cx n80_5 st) (codeB Try.prog E cx n80_25) := GE.seq_step (by kernel_rfl)
theorem n80_2s : codeB Try.prog E cx n80_2 st = thenS (codeB Try.prog E cx n80_3 st) (codeB Try.prog E cx n80_4) := GE.seq_step (by kernel_rfl)
theorem n80_0s : codeB Try.prog E cx n80_0 st = thenS (codeB Try.prog E cx n80_1 st) (codeB Try.prog E cx n80_2) := GE.seq_step (by kernel_rfl)
noncomputable def n82_0 : Code := bodyOf Try.f82
noncomputable def n82_1 : Code := cl n82_0
noncomputable def q82_1 : List Oper := opsOf n82_1
noncomputable def n82_2 : Code := cr n82_0
noncomputable def n82_3 : Code := cl n82_2
noncomputable def n82_4 : Code := cl n82_3
noncomputable def q82_4 : List Oper := opsOf n82_4
noncomputable def n82_5 : Code := cr n82_3
noncomputable def n82_6 : Code := cl n82_5
noncomputable def n82_7 : Code := cl n82_6
noncomputable def n82_8 : Code := cl n82_7
noncomputable def q82_8 : List Oper := opsOf n82_8
noncomputable def n82_9 : Code := cr n82_7
noncomputable def n82_10 : Code := cl n82_9
noncomputable def n82_11 : Code := cl n82_10
noncomputable def n82_12 : Code := cr n82_10
noncomputable def n82_13 : Code := cr n82_9
noncomputable def n82_14 : Code := cl n82_13
noncomputable def n82_15 : Code := cl n82_14
noncomputable def n82_16 : Code := cl n82_15
noncomputable def q82_16 : List Oper := opsOf n82_16
noncomputable def n82_17 : Code := cr n82_15
noncomputable def n82_18 : Code := cl n82_17
noncomputable def q82_18 : List Oper := opsOf n82_18
noncomputable def n82_19 : Code := cr n82_17
noncomputable def n82_20 : Code := cl n82_19
noncomputable def n82_21 : Code := cl n82_20
noncomputable def q82_21 : List Oper := opsOf n82_21
noncomputable def n82_22 : Code := cr n82_20
noncomputable def n82_23 : Code := cr n82_19
noncomputable def n82_24 : Code := cr n82_13
noncomputable def q82_24 : List Oper := opsOf n82_24
noncomputable def n82_25 : Code := cr n82_2
noncomputable def n82_26 : Code := cl n82_25
noncomputable def q82_26 : List Oper := opsOf n82_26
noncomputable def n82_27 : Code := cr n82_25
theorem body82 : Try.f82.body = some n82_0 := by kernel_rfl
theorem run82 (E : Ev) (args : List Value) (h : List Blk) (hl : args.length ≤ 19) : runB Try.prog E 82 args h = endS Try.prog [.tmp 4] h.length (codeB Try.prog E ⟨82, 19, h.length, none⟩ n82_0 ⟨enumT 0 args, h, []⟩) := GE.run_step Try.func82 body82 (by kernel_rfl) (by decide) (by kernel_rfl) hl
theorem n82_1s : codeB Try.prog E ⟨f, 19, b, ro⟩ n82_1 st = plainS (runOps Try.prog E b q82_1 (ops [false] Try.f82) st) := GE.region_step (id := 0) (GE.reg_of (by kernel_rfl)) (by kernel_rfl)
theorem n82_4s : codeB Try.prog E ⟨f, 19, b, ro⟩ n82_4 st = plainS (runOps Try.prog E b q82_4 (ops [true, false, false] Try.f82) st) := GE.region_step (id := 1) (GE.reg_of (by kernel_rfl)) (by kernel_rfl)
theorem n82_8s : codeB Try.prog E ⟨f, 19, b, ro⟩ n82_8 st = plainS (runOps Try.prog E b q82_8 (ops [true, false, true, false, false, false] Try.f82) st) := GE.region_step (id := 2) (GE.reg_of (by kernel_rfl)) (by kernel_rfl)
theorem n82_11s : codeB Try.prog E cx n82_11 st = some (.normal, st) := GE.skip_step (by kernel_rfl)
theorem n82_12s : codeB Try.prog LL ⟨82, 19, b, ro⟩ n82_12 st = normS b ⟨[], []⟩ (.exit 0) st := GE.exit_step (by kernel_rfl) (by kernel_rfl)
theorem n82_10s : codeB Try.prog E cx n82_10 st = condS (codeB Try.prog E cx n82_11) (codeB Try.prog E cx n82_12) (lk st.σ 9) st := GE.cond_step (c := .tmp 9) (by kernel_rfl)
theorem n82_16s : codeB Try.prog E ⟨f, 19, b, ro⟩ n82_16 st = plainS (runOps Try.prog E b q82_16 (ops [true, false, true, false, false, true, true, false, false, false] Try.f82) st) := GE.region_step (id := 3) (GE.reg_of (by kernel_rfl)) (by kernel_rfl)
theorem n82_18s : codeB Try.prog E ⟨f, 19, b, ro⟩ n82_18 st = plainS (runOps Try.prog E b q82_18 (ops [true, false, true, false, false, true, true, false, false, true, false] Try.f82) st) := GE.region_step (id := 4) (GE.reg_of (by kernel_rfl)) (by kernel_rfl)
theorem n82_21s : codeB Try.prog E ⟨f, 19, b, ro⟩ n82_21 st = plainS (runOps Try.prog E b q82_21 (ops [true, false, true, false, false, true, true, false, false, true, true, false, false] Try.f82) st) := GE.region_step (id := 5) (GE.reg_of (by kernel_rfl)) (by kernel_rfl)
theorem n82_22s : codeB Try.prog LL ⟨82, 19, b, ro⟩ n82_22 st = normS b ⟨[4], []⟩ .ret st := GE.ret_step (by kernel_rfl) (by kernel_rfl)
theorem n82_20s : codeB Try.prog E cx n82_20 st = thenS (codeB Try.prog E cx n82_21 st) (codeB Try.prog E cx n82_22) := GE.seq_step (by kernel_rfl)
theorem n82_23s : codeB Try.prog E cx n82_23 st = some (.normal, st) := GE.skip_step (by kernel_rfl)
theorem n82_19s : codeB Try.prog E cx n82_19 st = condS (codeB Try.prog E cx n82_20) (codeB Try.prog E cx n82_23) (lk st.σ 16) st := GE.cond_step (c := .tmp 16) (by kernel_rfl)
theorem n82_17s : codeB Try.prog E cx n82_17 st = thenS (codeB Try.prog E cx n82_18 st) (codeB Try.prog E cx n82_19) := GE.seq_step (by kernel_rfl)
theorem n82_15s : codeB Try.prog E cx n82_15 st = thenS (codeB Try.prog E cx n82_16 st) (codeB Try.prog E cx n82_17) := GE.seq_step (by kernel_rfl)
theorem n82_14s : codeB Try.prog E cx n82_14 st = blockS 1 (codeB Try.prog E cx n82_15 st) st := GE.block_step (by kernel_rfl)
theorem n82_24s : codeB Try.prog E ⟨f, 19, b, ro⟩ n82_24 st = plainS (runOps Try.prog E b q82_24 (ops [true, false, true, false, false, true, true, true] Try.f82) st) := GE.region_step (id := 6) (GE.reg_of (by kernel_rfl)) (by kernel_rfl)
theorem n82_13s : codeB Try.prog E cx n82_13 st = thenS (codeB Try.prog E cx n82_14 st) (codeB Try.prog E cx n82_24) := GE.seq_step (by kernel_rfl)
theorem n82_9s : codeB Try.prog E cx n82_9 st = thenS (codeB Try.prog E cx n82_10 st) (codeB Try.prog E cx n82_13) := GE.seq_step (by kernel_rfl)
theorem n82_7s : codeB Try.prog E cx n82_7 st = thenS (codeB Try.prog E cx n82_8 st) (codeB Try.prog E cx n82_9) := GE.seq_step (by kernel_rfl)
theorem n82_6k : LL.kp (⟨82, 19, b, ro⟩ : Cx).fn (4 * rid n82_7 + 3) = some ⟨[0, 1, 7, 8], [⟨0, 0, 2, true⟩]⟩ := by kernel_rfl
theorem n82_6s : codeB Try.prog LL ⟨82, 19, b, ro⟩ n82_6 st = headS b ⟨[0, 1, 7, 8], [⟨0, 0, 2, true⟩]⟩ st (lpB Try.prog LL ⟨82, 19, b, ro⟩ n82_6 n82_7) := GE.lpB_step (by kernel_rfl) (n82_6k b ro)
theorem n82_6g : LL.code ⟨82, 19, b, ro⟩ n82_6 st = headS b ⟨[0, 1, 7, 8], [⟨0, 0, 2, true⟩]⟩ st (lpB Try.prog LL ⟨82, 19, b, ro⟩ n82_6 n82_7) := GE.lpB_again (by kernel_rfl) (n82_6k b ro)
theorem n82_5s : codeB Try.prog E cx n82_5 st = blockS 0 (codeB Try.prog E cx n82_6 st) st := GE.block_step (by kernel_rfl)
theorem n82_3s : codeB Try.prog E cx n82_3 st = thenS (codeB Try.prog E cx n82_4 st) (codeB Try.prog E cx n82_5) := GE.seq_step (by kernel_rfl)
theorem n82_26s : codeB Try.prog E ⟨f, 19, b, ro⟩ n82_26 st = plainS (runOps Try.prog E b q82_26 (ops [true, true, false] Try.f82) st) := GE.region_step (id := 7) (GE.reg_of (by kernel_rfl)) (by kernel_rfl)
theorem n82_27s : codeB Try.prog LL ⟨82, 19, b, ro⟩ n82_27 st = normS b ⟨[4], []⟩ .ret st := GE.ret_step (by kernel_rfl) (by kernel_rfl)
theorem n82_25s : codeB Try.prog E cx n82_25 st = thenS (codeB Try.prog E cx n82_26 st) (codeB Try.prog E cx n82_27) := GE.seq_step (by kernel_rfl)
theorem n82_2s : codeB Try.prog E cx n82_2 st = thenS (codeB Try.prog E cx n82_3 st) (codeB Try.prog E cx n82_25) := GE.seq_step (by kernel_rfl)
theorem n82_0s : codeB Try.prog E cx n82_0 st = thenS (codeB Try.prog E cx n82_1 st) (codeB Try.prog E cx n82_2) := GE.seq_step (by kernel_rfl)
theorem lk_49 : lenK Try.prog 49 = some .sl := by kernel_rfl
theorem es_49 : elemK Try.prog 49 = some (none, 1) := by kernel_rfl
theorem ia_24 : aggK Try.prog 24 = some (false, 1) := by kernel_rfl
theorem ia_22 : aggK Try.prog 22 = some (false, 1) := by kernel_rfl
theorem za_75 : zeroA Try.prog 75 = some .nilFunc := by kernel_rfl
theorem sz_75 : aggSize Try.prog 75 = some 1 := by kernel_rfl
theorem ia_75 : aggK Try.prog 75 = some (false, 1) := by kernel_rfl
theorem lk_24 : lenK Try.prog 24 = some .sl := by kernel_rfl
theorem es_24 : elemK Try.prog 24 = some (none, 1) := by kernel_rfl
theorem ia_3 : aggK Try.prog 3 = some (false, 1) := by kernel_rfl
theorem fa_90_1 : fieldAt Try.prog 90 1 = some (1, 1) := by kernel_rfl
theorem ia_88 : aggK Try.prog 88 = some (false, 1) := by kernel_rfl
theorem fa_90_0 : fieldAt Try.prog 90 0 = some (0, 1) := by kernel_rfl
theorem ia_78 : aggK Try.prog 78 = some (false, 1) := by kernel_rfl
theorem lk_22 : lenK Try.prog 22 = some .sl := by kernel_rfl
theorem ze_24 : zeroE Try.prog 24 = some (.int .i64 (0)) := by kernel_rfl
theorem ba_24_1 : baseArr (Value.cells (.int .i64 (0))) (1 * 1) = #[(.int .i64 (0))] := by kernel_rfl
theorem ap_24 : apK Try.prog 24 = some (1, 8) := by kernel_rfl
theorem ni_24 : notInt Try.prog 24 = true := by kernel_rfl
theorem lk_47 : lenK Try.prog 47 = some .sl := by kernel_rfl
theorem es_47 : elemK Try.prog 47 = some (none, 2) := by kernel_rfl
theorem ea_60 : elemK Try.prog 60 = some (some 2, 1) := by kernel_rfl
theorem ia_5 : aggK Try.prog 5 = some (false, 1) := by kernel_rfl
theorem cv_5_3 : convK Try.prog 5 3 = some .i64 := by kernel_rfl
theorem za_55 : zeroA Try.prog 55 = some (.agg #[(.int .i64 (0)), (.int .i64 (0))]) := by kernel_rfl
theorem pl_55 : plK Try.prog 55 = some [(0, 1), (1, 1)] := by kernel_rfl
theorem es_22 : elemK Try.prog 22 = some (none, 2) := by kernel_rfl
theorem ze_22 : zeroE Try.prog 22 = some (.agg #[(.int .i64 (0)), (.int .i64 (0))]) := by kernel_rfl
theorem ba_22_1 : baseArr (Value.cells (.agg #[(.int .i64 (0)), (.int .i64 (0))])) (1 * 2) = #[(.int .i64 (0)), (.int .i64 (0))] := by kernel_rfl
theorem ap_22 : apK Try.prog 22 = some (2, 16) := by kernel_rfl
theorem ni_22 : notInt Try.prog 22 = true := by kernel_rfl
theorem ba_24_2 : baseArr (Value.cells (.int .i64 (0))) (2 * 1) = #[(.int .i64 (0)), (.int .i64 (0))] := by kernel_rfl
theorem ze_49 : zeroE Try.prog 49 = some (.slice none 0 0) := by kernel_rfl
theorem ba_49_1 : baseArr (Value.cells (.slice none 0 0)) (1 * 1) = #[(.slice none 0 0)] := by kernel_rfl
theorem ba_24_0 : baseArr (Value.cells (.int .i64 (0))) (0 * 1) = #[] := by kernel_rfl
theorem ap_49 : apK Try.prog 49 = some (1, 24) := by kernel_rfl
theorem ni_49 : notInt Try.prog 49 = true := by kernel_rfl
theorem fa_55_0 : fieldAt Try.prog 55 0 = some (0, 1) := by kernel_rfl
theorem fa_55_1 : fieldAt Try.prog 55 1 = some (1, 1) := by kernel_rfl
theorem sl_24 : elemK Try.prog 24 = some (none, 1) := by kernel_rfl
theorem lk_78 : lenK Try.prog 78 = some .sl := by kernel_rfl
theorem fa_110_0 : fieldAt Try.prog 110 0 = some (0, 1) := by kernel_rfl
theorem ia_108 : aggK Try.prog 108 = some (false, 1) := by kernel_rfl
theorem fa_110_1 : fieldAt Try.prog 110 1 = some (1, 1) := by kernel_rfl
theorem ia_91 : aggK Try.prog 91 = some (false, 1) := by kernel_rfl
theorem za_90 : zeroA Try.prog 90 = some (.agg #[(.slice none 0 0), (.pointer none), (.pointer none)]) := by kernel_rfl
theorem pl_90 : plK Try.prog 90 = some [(0, 1), (1, 1), (2, 1)] := by kernel_rfl
theorem za_85 : zeroA Try.prog 85 = some (.pointer none) := by kernel_rfl
theorem sz_85 : aggSize Try.prog 85 = some 1 := by kernel_rfl
theorem ia_85 : aggK Try.prog 85 = some (false, 1) := by kernel_rfl
theorem za_110 : zeroA Try.prog 110 = some (.agg #[(.map none), .nilFunc]) := by kernel_rfl
theorem pl_110 : plK Try.prog 110 = some [(0, 1), (1, 1)] := by kernel_rfl
theorem sz_88 : aggSize Try.prog 88 = some 1 := by kernel_rfl
theorem fa_90_2 : fieldAt Try.prog 90 2 = some (2, 1) := by kernel_rfl
theorem es_78 : elemK Try.prog 78 = some (none, 2) := by kernel_rfl
theorem ia_79 : aggK Try.prog 79 = some (false, 1) := by kernel_rfl
theorem ia_55 : aggK Try.prog 55 = some (true, 2) := by kernel_rfl

end Go.Proofs.Ytfccmddkblbeoaa.rk
