/-
  Names for the nodes of the code of some functions (projections of their bodies), the step of each node, and the facts of types that they use.
-/
import Derived.Test.YtfccmddkblbeoaaKp
namespace Go.Proofs.Ytfccmddkblbeoaa.rk
open Go.GE
set_option maxRecDepth 100000
variable (E : Ev) (cx : Cx) (st : St) (f nt b : Nat) (ro : Option Nat)
noncomputable def n3_0 : Code := bodyOf Try.f3
noncomputable def n3_1 : Code := cl n3_0
noncomputable def q3_1 : List Oper := opsOf n3_1
noncomputable def n3_2 : Code := cr n3_0
noncomputable def n3_3 : Code := cl n3_2
noncomputable def n3_4 : Code := cl n3_3
noncomputable def q3_4 : List Oper := opsOf n3_4
noncomputable def n3_5 : Code := cr n3_3
noncomputable def n3_6 : Code := cl n3_5
noncomputable def n3_7 : Code := cl n3_6
noncomputable def q3_7 : List Oper := opsOf n3_7
noncomputable def n3_8 : Code := cr n3_6
noncomputable def n3_9 : Code := cr n3_5
noncomputable def n3_10 : Code := cr n3_2
noncomputable def n3_11 : Code := cl n3_10
noncomputable def q3_11 : List Oper := opsOf n3_11
noncomputable def n3_12 : Code := cr n3_10
noncomputable def n3_13 : Code := cl n3_12
noncomputable def q3_13 : List Oper := opsOf n3_13
noncomputable def n3_14 : Code := cr n3_12
noncomputable def n3_15 : Code := cl n3_14
noncomputable def q3_15 : List Oper := opsOf n3_15
noncomputable def n3_16 : Code := cr n3_14
noncomputable def n3_17 : Code := cl n3_16
noncomputable def q3_17 : List Oper := opsOf n3_17
noncomputable def n3_18 : Code := cr n3_16
noncomputable def n3_19 : Code := cl n3_18
noncomputable def q3_19 : List Oper := opsOf n3_19
noncomputable def n3_20 : Code := cr n3_18
noncomputable def n3_21 : Code := cl n3_20
noncomputable def q3_21 : List Oper := opsOf n3_21
noncomputable def n3_22 : Code := cr n3_20
noncomputable def n3_23 : Code := cl n3_22
noncomputable def q3_23 : List Oper := opsOf n3_23
noncomputable def n3_24 : Code := cr n3_22
theorem body3 : Try.f3.body = some n3_0 := by kernel_rfl
theorem run3 (E : Ev) (args : List Value) (h : List Blk) (hl : args.length ≤ 93) : runB Try.prog E 3 args h = endS Try.prog [.tmp 4] h.length (codeB Try.prog E ⟨3, 93, h.length, none⟩ n3_0 ⟨enumT 0 args, h, []⟩) := GE.run_step Try.func3 body3 (by kernel_rfl) (by decide) (by kernel_rfl) hl
theorem n3_1s : codeB Try.prog E ⟨f, 93, b, ro⟩ n3_1 st = plainS (runOps Try.prog E b q3_1 (ops [false] Try.f3) st) := GE.region_step (id := 0) (GE.reg_of (by kernel_rfl)) (by kernel_rfl)
theorem n3_4s : codeB Try.prog E ⟨f, 93, b, ro⟩ n3_4 st = plainS (runOps Try.prog E b q3_4 (ops [true, false, false] Try.f3) st) := GE.region_step (id := 1) (GE.reg_of (by kernel_rfl)) (by kernel_rfl)
theorem n3_7s : codeB Try.prog E ⟨f, 93, b, ro⟩ n3_7 st = plainS (runOps Try.prog E b q3_7 (ops [true, false, true, false, false] Try.f3) st) := GE.region_step (id := 2) (GE.reg_of (by kernel_rfl)) (by kernel_rfl)
theorem n3_8s : codeB Try.prog LL ⟨3, 93, b, ro⟩ n3_8 st = normS b ⟨[4], []⟩ .ret st := GE.ret_step (by kernel_rfl) (by kernel_rfl)
theorem n3_6s : codeB Try.prog E cx n3_6 st = thenS (codeB Try.prog E cx n3_7 st) (codeB Try.prog E cx n3_8) := GE.seq_step (by kernel_rfl)
theorem n3_9s : codeB Try.prog E cx n3_9 st = some (.normal, st) := GE.skip_step (by kernel_rfl)
theorem n3_5s : codeB Try.prog E cx n3_5 st = condS (codeB Try.prog E cx n3_6) (codeB Try.prog E cx n3_9) (lk st.σ 21) st := GE.cond_step (c := .tmp 21) (by kernel_rfl)
theorem n3_3s : codeB Try.prog E cx n3_3 st = thenS (codeB Try.prog E cx n3_4 st) (codeB Try.prog E cx n3_5) := GE.seq_step (by kernel_rfl)
theorem n3_11s : codeB Try.prog E ⟨f, 93, b, ro⟩ n3_11 st = plainS (runOps Try.prog E b q3_11 (ops [true, true, false] Try.f3) st) := GE.region_step (id := 3) (GE.reg_of (by kernel_rfl)) (by kernel_rfl)
theorem n3_13s : codeB Try.prog E ⟨f, 93, b, ro⟩ n3_13 st = plainS (runOps Try.prog E b q3_13 (ops [true, true, true, false] Try.f3) st) := GE.region_step (id := 4) (GE.reg_of (by kernel_rfl)) (by kernel_rfl)
theorem n3_15s : codeB Try.prog E ⟨f, 93, b, ro⟩ n3_15 st = plainS (runOps Try.prog E b q3_15 (ops [true, true, true, true, false] Try.f3) st) := GE.region_step (id := 5) (GE.reg_of (by kernel_rfl)) (by kernel_rfl)
theorem n3_17s : codeB Try.prog E ⟨f, 93, b, ro⟩ n3_17 st = plainS (runOps Try.prog E b q3_17 (ops [true, true, true, true, true, false] Try.f3) st) := GE.region_step (id := 6) (GE.reg_of (by kernel_rfl)) (by kernel_rfl)
theorem n3_19s : codeB Try.prog E ⟨f, 93, b, ro⟩ n3_19 st = plainS (runOps Try.prog E b q3_19 (ops [true, true, true, true, true, true, false] Try.f3) st) := GE.region_step (id := 7) (GE.reg_of (by kernel_rfl)) (by kernel_rfl)
theorem n3_21s : codeB Try.prog E ⟨f, 93, b, ro⟩ n3_21 st = plainS (runOps Try.prog E b q3_21 (ops [true, true, true, true, true, true, true, false] Try.f3) st) := GE.region_step (id := 8) (GE.reg_of (by kernel_rfl)) (by kernel_rfl)
theorem q3_23g3 : gd q3_23 3 = some 60 := by kernel_rfl
theorem q3_23g8 : gd q3_23 8 = some 65 := by kernel_rfl
theorem q3_23g13 : gd q3_23 13 = some 70 := by kernel_rfl
theorem q3_23g18 : gd q3_23 18 = some 75 := by kernel_rfl
theorem q3_23g23 : gd q3_23 23 = some 80 := by kernel_rfl
theorem q3_23g28 : gd q3_23 28 = some 85 := by kernel_rfl
theorem q3_23g33 : gd q3_23 33 = some 90 := by kernel_rfl
theorem n3_23s : codeB Try.prog E ⟨f, 93, b, ro⟩ n3_23 st = plainS (runOps Try.prog E b q3_23 (ops [true, true, true, true, true, true, true, true, false] Try.f3) st) := GE.region_step (id := 9) (GE.reg_of (by kernel_rfl)) (by kernel_rfl)
theorem n3_24s : codeB Try.prog LL ⟨3, 93, b, ro⟩ n3_24 st = normS b ⟨[4], []⟩ .ret st := GE.ret_step (by kernel_rfl) (by kernel_rfl)
theorem n3_22s : codeB Try.prog E cx n3_22 st = thenS (codeB Try.prog E cx n3_23 st) (codeB Try.prog E cx n3_24) := GE.seq_step (by kernel_rfl)
theorem n3_20s : codeB Try.prog E cx n3_20 st = thenS (codeB Try.prog E cx n3_21 st) (codeB Try.prog E cx n3_22) := GE.seq_step (by kernel_rfl)
theorem n3_18s : codeB Try.prog E cx n3_18 st = thenS (codeB Try.prog E cx n3_19 st) (codeB Try.prog E cx n3_20) := GE.seq_step (by kernel_rfl)
theorem n3_16s : codeB Try.prog E cx n3_16 st = thenS (codeB Try.prog E cx n3_17 st) (codeB Try.prog E cx n3_18) := GE.seq_step (by kernel_rfl)
theorem n3_14s : codeB Try.prog E cx n3_14 st = thenS (codeB Try.prog E cx n3_15 st) (codeB Try.prog E cx n3_16) := GE.seq_step (by kernel_rfl)
theorem n3_12s : codeB Try.prog E cx n3_12 st = thenS (codeB Try.prog E cx n3_13 st) (codeB Try.prog E cx n3_14) := GE.seq_step (by kernel_rfl)
theorem n3_10s : codeB Try.prog E cx n3_10 st = thenS (codeB Try.prog E cx n3_11 st) (codeB Try.prog E cx n3_12) := GE.seq_step (by kernel_rfl)
theorem n3_2s : codeB Try.prog E cx n3_2 st = thenS (codeB Try.prog E cx n3_3 st) (codeB Try.prog E cx n3_10) := GE.seq_step (by kernel_rfl)
theorem n3_0s : codeB Try.prog E cx n3_0 st = thenS (codeB Try.prog E cx n3_1 st) (codeB Try.prog E cx n3_2) := GE.seq_step (by kernel_rfl)
noncomputable def n15_0 : Code := bodyOf Try.f15
noncomputable def n15_1 : Code := cl n15_0
noncomputable def q15_1 : List Oper := opsOf n15_1
noncomputable def n15_2 : Code := cr n15_0
noncomputable def n15_3 : Code := cl n15_2
noncomputable def n15_4 : Code := cl n15_3
noncomputable def q15_4 : List Oper := opsOf n15_4
noncomputable def n15_5 : Code := cr n15_3
noncomputable def n15_6 : Code := cl n15_5
noncomputable def q15_6 : List Oper := opsOf n15_6
noncomputable def n15_7 : Code := cr n15_5
noncomputable def n15_8 : Code := cl n15_7
noncomputable def n15_9 : Code := cl n15_8
noncomputable def q15_9 : List Oper := opsOf n15_9
noncomputable def n15_10 : Code := cr n15_8
noncomputable def n15_11 : Code := cr n15_7
noncomputable def n15_12 : Code := cr n15_2
noncomputable def n15_13 : Code := cl n15_12
noncomputable def q15_13 : List Oper := opsOf n15_13
noncomputable def n15_14 : Code := cr n15_12
noncomputable def n15_15 : Code := cl n15_14
noncomputable def q15_15 : List Oper := opsOf n15_15
noncomputable def n15_16 : Code := cr n15_14
noncomputable def n15_17 : Code := cl n15_16
noncomputable def q15_17 : List Oper := opsOf n15_17
noncomputable def n15_18 : Code := cr n15_16
theorem body15 : Try.f15.body = some n15_0 := by kernel_rfl
theorem run15 (E : Ev) (args : List Value) (h : List Blk) (hl : args.length ≤ 14) : runB Try.prog E 15 args h = endS Try.prog [.tmp 2, .tmp 3] h.length (codeB Try.prog E ⟨15, 14, h.length, none⟩ n15_0 ⟨enumT 0 args, h, []⟩) := GE.run_step Try.func15 body15 (by kernel_rfl) (by decide) (by kernel_rfl) hl
theorem n15_1s : codeB Try.prog E ⟨f, 14, b, ro⟩ n15_1 st = plainS (runOps Try.prog E b q15_1 (ops [false] Try.f15) st) := GE.region_step (id := 0) (GE.reg_of (by kernel_rfl)) (by kernel_rfl)
theorem n15_4s : codeB Try.prog E ⟨f, 14, b, ro⟩ n15_4 st = plainS (runOps Try.prog E b q15_4 (ops [true, false, false] Try.f15) st) := GE.region_step (id := 1) (GE.reg_of (by kernel_rfl)) (by kernel_rfl)
theorem n15_6s : codeB Try.prog E ⟨f, 14, b, ro⟩ n15_6 st = plainS (runOps Try.prog E b q15_6 (ops [true, false, true, false] Try.f15) st) := GE.region_step (id := 2) (GE.reg_of (by kernel_rfl)) (by kernel_rfl)
theorem n15_9s : codeB Try.prog E ⟨f, 14, b, ro⟩ n15_9 st = plainS (runOps Try.prog E b q15_9 (ops [true, false, true, true, false, false] Try.f15) st) := GE.region_step (id := 3) (GE.reg_of (by kernel_rfl)) (by kernel_rfl)
theorem n15_10s : codeB Try.prog LL ⟨15, 14, b, ro⟩ n15_10 st = normS b ⟨[2, 3], [⟨2, 0, 1, true⟩]⟩ .ret st := GE.ret_step (by kernel_rfl) (by kernel_rfl)
theorem n15_8s : codeB Try.prog E cx n15_8 st = thenS (codeB Try.prog E cx n15_9 st) (codeB Try.prog E cx n15_10) := GE.seq_step (by kernel_rfl)
theorem n15_11s : codeB Try.prog E cx n15_11 st = some (.normal, st) := GE.skip_step (by kernel_rfl)
theorem n15_7s : codeB Try.prog E cx n15_7 st = condS (codeB Try.prog E cx n15_8) (codeB Try.prog E cx n15_11) (lk st.σ 9) st := GE.cond_step (c := .tmp 9) (by kernel_rfl)
theorem n15_5s : codeB Try.prog E cx n15_5 st = thenS (codeB Try.prog E cx n15_6 st) (codeB Try.prog E cx n15_7) := GE.seq_step (by kernel_rfl)
theorem n15_3s : codeB Try.prog E cx n15_3 st = thenS (codeB Try.prog E cx n15_4 st) (codeB Try.prog E cx n15_5) := GE.seq_step (by kernel_rfl)
theorem n15_13s : codeB Try.prog E ⟨f, 14, b, ro⟩ n15_13 st = plainS (runOps Try.prog E b q15_13 (ops [true, true, false] Try.f15) st) := GE.region_step (id := 4) (GE.reg_of (by kernel_rfl)) (by kernel_rfl)
theorem n15_15s : codeB Try.prog E ⟨f, 14, b, ro⟩ n15_15 st = plainS (runOps Try.prog E b q15_15 (ops [true, true, true, false] Try.f15) st) := GE.region_step (id := 5) (GE.reg_of (by kernel_rfl)) (by kernel_rfl)
theorem n15_17s : codeB Try.prog E ⟨f, 14, b, ro⟩ n15_17 st = plainS (runOps Try.prog E b q15_17 (ops [true, true, true, true, false] Try.f15) st) := GE.region_step (id := 6) (GE.reg_of (by kernel_rfl)) (by kernel_rfl)
theorem n15_18s : codeB Try.prog LL ⟨15, 14, b, ro⟩ n15_18 st = normS b ⟨[2, 3], [⟨2, 0, 1, true⟩]⟩ .ret st := GE.ret_step (by kernel_rfl) (by kernel_rfl)
theorem n15_16s : codeB Try.prog E cx n15_16 st = thenS (codeB Try.prog E cx n15_17 st) (codeB Try.prog E cx n15_18) := GE.seq_step (by kernel_rfl)
theorem n15_14s : codeB Try.prog E cx n15_14 st = thenS (codeB Try.prog E cx n15_15 st) (codeB Try.prog E cx n15_16) := GE.seq_step (by kernel_rfl)
theorem n15_12s : codeB Try.prog E cx n15_12 st = thenS (codeB Try.prog E cx n15_13 st) (codeB Try.prog E cx n15_14) := GE.seq_step (by kernel_rfl)
theorem n15_2s : codeB Try.prog E cx n15_2 st = thenS (codeB Try.prog E cx n15_3 st) (codeB Try.prog E cx n15_12) := GE.seq_step (by kernel_rfl)
theorem n15_0s : codeB Try.prog E cx n15_0 st = thenS (codeB Try.prog E cx n15_1 st) (codeB Try.prog E cx n15_2) := GE.seq_step (by kernel_rfl)
noncomputable def n16_0 : Code := bodyOf Try.f16
noncomputable def n16_1 : Code := cl n16_0
noncomputable def q16_1 : List Oper := opsOf n16_1
noncomputable def n16_2 : Code := cr n16_0
noncomputable def n16_3 : Code := cl n16_2
noncomputable def q16_3 : List Oper := opsOf n16_3
noncomputable def n16_4 : Code := cr n16_2
noncomputable def n16_5 : Code := cl n16_4
noncomputable def n16_6 : Code := cl n16_5
noncomputable def q16_6 : List Oper := opsOf n16_6
noncomputable def n16_7 : Code := cr n16_5
noncomputable def n16_8 : Code := cl n16_7
noncomputable def n16_9 : Code := cl n16_8
noncomputable def q16_9 : List Oper := opsOf n16_9
noncomputable def n16_10 : Code := cr n16_8
noncomputable def n16_11 : Code := cr n16_7
noncomputable def n16_12 : Code := cr n16_4
noncomputable def n16_13 : Code := cl n16_12
noncomputable def q16_13 : List Oper := opsOf n16_13
noncomputable def n16_14 : Code := cr n16_12
noncomputable def n16_15 : Code := cl n16_14
noncomputable def q16_15 : List Oper := opsOf n16_15
noncomputable def n16_16 : Code := cr n16_14
noncomputable def n16_17 : Code := cl n16_16
noncomputable def n16_18 : Code := cl n16_17
noncomputable def n16_19 : Code := cl n16_18
noncomputable def n16_20 : Code := cl n16_19
noncomputable def n16_21 : Code := cl n16_20
noncomputable def q16_21 : List Oper := opsOf n16_21
noncomputable def n16_22 : Code := cr n16_20
noncomputable def n16_23 : Code := cl n16_22
noncomputable def n16_24 : Code := cr n16_22
noncomputable def n16_25 : Code := cr n16_19
noncomputable def n16_26 : Code := cl n16_25
noncomputable def n16_27 : Code := cl n16_26
noncomputable def q16_27 : List Oper := opsOf n16_27
noncomputable def n16_28 : Code := cr n16_26
noncomputable def n16_29 : Code := cl n16_28
noncomputable def n16_30 : Code := cl n16_29
noncomputable def n16_31 : Code := cl n16_30
noncomputable def n16_32 : Code := cl n16_31
noncomputable def q16_32 : List Oper := opsOf n16_32
noncomputable def n16_33 : Code := cr n16_31
noncomputable def n16_34 : Code := cl n16_33
noncomputable def n16_35 : Code := cr n16_33
noncomputable def n16_36 : Code := cr n16_30
noncomputable def n16_37 : Code := cl n16_36
noncomputable def n16_38 : Code := cl n16_37
noncomputable def n16_39 : Code := cl n16_38
noncomputable def q16_39 : List Oper := opsOf n16_39
noncomputable def n16_40 : Code := cr n16_38
noncomputable def n16_41 : Code := cl n16_40
noncomputable def n16_42 : Code := cl n16_41
noncomputable def q16_42 : List Oper := opsOf n16_42
noncomputable def n16_43 : Code := cr n16_41
noncomputable def n16_44 : Code := cl n16_43
noncomputable def n16_45 : Code := cl n16_44
noncomputable def n16_46 : Code := cl n16_45
noncomputable def n16_47 : Code := cl n16_46
noncomputable def q16_47 : List Oper := opsOf n16_47
noncomputable def n16_48 : Code := cr n16_46
noncomputable def n16_49 : Code := cl n16_48
noncomputable def n16_50 : Code := cr n16_48
noncomputable def n16_51 : Code := cr n16_45
noncomputable def n16_52 : Code := cl n16_51
noncomputable def n16_53 : Code := cl n16_52
noncomputable def q16_53 : List Oper := opsOf n16_53
noncomputable def n16_54 : Code := cr n16_51
noncomputable def q16_54 : List Oper := opsOf n16_54
noncomputable def n16_55 : Code := cr n16_40
noncomputable def n16_56 : Code := cl n16_55
noncomputable def q16_56 : List Oper := opsOf n16_56
noncomputable def n16_57 : Code := cr n16_55
noncomputable def n16_58 : Code := cl n16_57
noncomputable def n16_59 : Code := cl n16_58
noncomputable def q16_59 : List Oper := opsOf n16_59
noncomputable def n16_60 : Code := cr n16_58
noncomputable def n16_61 : Code := cr n16_57
noncomputable def n16_62 : Code := cr n16_36
noncomputable def q16_62 : List Oper := opsOf n16_62
noncomputable def n16_63 : Code := cr n16_16
noncomputable def n16_64 : Code := cl n16_63
noncomputable def q16_64 : List Oper := opsOf n16_64
noncomputable def n16_65 : Code := cr n16_63
theorem body16 : Try.f16.body = some n16_0 := by kernel_rfl
theorem run16 (E : Ev) (args : List Value) (h : List Blk) (hl : args.length ≤ 63) : runB Try.prog E 16 args h = endS Try.prog [.tmp 2, .tmp 3] h.length (codeB Try.prog E ⟨16, 63, h.length, none⟩ n16_0 ⟨enumT 0 args, h, []⟩) := GE.run_step Try.func16 body16 (by kernel_rfl) (by decide) (by kernel_rfl) hl
theorem n16_1s : codeB Try.prog E ⟨f, 63, b, ro⟩ n16_1 st = plainS (runOps Try.prog E b q16_1 (ops [false] Try.f16) st) := GE.region_step (id := 0) (GE.reg_of (by kernel_rfl)) (by kernel_rfl)
theorem n16_3s : codeB Try.prog E ⟨f, 63, b, ro⟩ n16_3 st = plainS (runOps Try.prog E b q16_3 (ops [true, false] Try.f16) st) := GE.region_step (id := 1) (GE.reg_of (by kernel_rfl)) (by kernel_rfl)
theorem n16_6s : codeB Try.prog E ⟨f, 63, b, ro⟩ n16_6 st = plainS (runOps Try.prog E b q16_6 (ops [true, true, false, false] Try.f16) st) := GE.region_step (id := 2) (GE.reg_of (by kernel_rfl)) (by kernel_rfl)
theorem n16_9s : codeB Try.prog E ⟨f, 63, b, ro⟩ n16_9 st = plainS (runOps Try.prog E b q16_9 (ops [true, true, false, true, false, false] Try.f16) st) := GE.region_step (id := 3) (GE.reg_of (by kernel_rfl)) (by kernel_rfl)
theorem n16_10s : codeB Try.prog LL ⟨16, 63, b, ro⟩ n16_10 st = normS b ⟨[2, 3], [⟨2, 0, 1, true⟩]⟩ .ret st := GE.ret_step (by kernel_rfl) (by kernel_rfl)
theorem n16_8s : codeB Try.prog E cx n16_8 st = thenS (codeB Try.prog E cx n16_9 st) (codeB Try.prog E cx n16_10) := GE.seq_step (by kernel_rfl)
theorem n16_11s : codeB Try.prog E cx n16_11 st = some (.normal, st) := GE.skip_step (by kernel_rfl)
theorem n16_7s : codeB Try.prog E cx n16_7 st = condS (codeB Try.prog E cx n16_8) (codeB Try.prog E cx n16_11) (lk st.σ 13) st := GE.cond_step (c := .tmp 13) (by kernel_rfl)
theorem n16_5s : codeB Try.prog E cx n16_5 st = thenS (codeB Try.prog E cx n16_6 st) (codeB Try.prog E cx n16_7) := GE.seq_step (by kernel_rfl)
theorem n16_13s : codeB Try.prog E ⟨f, 63, b, ro⟩ n16_13 st = plainS (runOps Try.prog E b q16_13 (ops [true, true, true, false] Try.f16) st) := GE.region_step (id := 4) (GE.reg_of (by kernel_rfl)) (by kernel_rfl)
theorem n16_15s : codeB Try.prog E ⟨f, 63, b, ro⟩ n16_15 st = plainS (runOps Try.prog E b q16_15 (ops [true, true, true, true, false] Try.f16) st) := GE.region_step (id := 5) (GE.reg_of (by kernel_rfl)) (by kernel_rfl)
theorem n16_21s : codeB Try.prog E ⟨f, 63, b, ro⟩ n16_21 st = plainS (runOps Try.prog E b q16_21 (ops [true, true, true, true, true, false, false, false, false, false] Try.f16) st) := GE.region_step (id := 6) (GE.reg_of (by kernel_rfl)) (by kernel_rfl)
theorem n16_23s : codeB Try.prog E cx n16_23 st = some (.normal, st) := GE.skip_step (by kernel_rfl)
theorem n16_24s : codeB Try.prog LL ⟨16, 63, b, ro⟩ n16_24 st = normS b ⟨[5], [⟨5, 0, 1, true⟩]⟩ (.exit 0) st := GE.exit_step (by kernel_rfl) (by kernel_rfl)
theorem n16_22s : codeB Try.prog E cx n16_22 st = condS (codeB Try.prog E cx n16_23) (codeB Try.prog E cx n16_24) (lk st.σ 22) st := GE.cond_step (c := .tmp 22) (by kernel_rfl)
theorem n16_20s : codeB Try.prog E cx n16_20 st = thenS (codeB Try.prog E cx n16_21 st) (codeB Try.prog E cx n16_22) := GE.seq_step (by kernel_rfl)
theorem n16_27s : codeB Try.prog E ⟨f, 63, b, ro⟩ n16_27 st = plainS (runOps Try.prog E b q16_27 (ops [true, true, true, true, true, false, false, false, true, false, false] Try.f16) st) := GE.region_step (id := 7) (GE.reg_of (by kernel_rfl)) (by kernel_rfl)
theorem n16_32s : codeB Try.prog E ⟨f, 63, b, ro⟩ n16_32 st = plainS (runOps Try.prog E b q16_32 (ops [true, true, true, true, true, false, false, false, true, false, true, false, false, false, false] Try.f16) st) := GE.region_step (id := 8) (GE.reg_of (by kernel_rfl)) (by kernel_rfl)
theorem n16_34s : codeB Try.prog E cx n16_34 st = some (.normal, st) := GE.skip_step (by kernel_rfl)
theorem n16_35s : codeB Try.prog LL ⟨16, 63, b, ro⟩ n16_35 st = normS b ⟨[0, 5, 6], [⟨0, 0, 2, true⟩, ⟨5, 0, 1, true⟩, ⟨6, 0, 1, true⟩]⟩ (.exit 2) st := GE.exit_step (by kernel_rfl) (by kernel_rfl)
theorem n16_33s : codeB Try.prog E cx n16_33 st = condS (codeB Try.prog E cx n16_34) (codeB Try.prog E cx n16_35) (lk st.σ 26) st := GE.cond_step (c := .tmp 26) (by kernel_rfl)
theorem n16_31s : codeB Try.prog E cx n16_31 st = thenS (codeB Try.prog E cx n16_32 st) (codeB Try.prog E cx n16_33) := GE.seq_step (by kernel_rfl)
theorem n16_39s : codeB Try.prog E ⟨f, 63, b, ro⟩ n16_39 st = plainS (runOps Try.prog E b q16_39 (ops [true, true, true, true, true, false, false, false, true, false, true, false, false, true, false, false, false] Try.f16) st) := GE.region_step (id := 10) (GE.reg_of (by kernel_rfl)) (by kernel_rfl)
theorem n16_42s : codeB Try.prog E ⟨f, 63, b, ro⟩ n16_42 st = plainS (runOps Try.prog E b q16_42 (ops [true, true, true, true, true, false, false, false, true, false, true, false, false, true, false, false, true, false, false] Try.f16) st) := GE.region_step (id := 11) (GE.reg_of (by kernel_rfl)) (by kernel_rfl)
theorem n16_47s : codeB Try.prog E ⟨f, 63, b, ro⟩ n16_47 st = plainS (runOps Try.prog E b q16_47 (ops [true, true, true, true, true, false, false, false, true, false, true, false, false, true, false, false, true, false, true, false, false, false, false] Try.f16) st) := GE.region_step (id := 12) (GE.reg_of (by kernel_rfl)) (by kernel_rfl)
theorem n16_49s : codeB Try.prog E cx n16_49 st = some (.normal, st) := GE.skip_step (by kernel_rfl)
theorem n16_50s : codeB Try.prog LL ⟨16, 63, b, ro⟩ n16_50 st = normS b ⟨[8, 7, 0, 5, 6], [⟨0, 0, 2, true⟩, ⟨5, 0, 1, true⟩, ⟨6, 0, 1, true⟩]⟩ (.exit 4) st := GE.exit_step (by kernel_rfl) (by kernel_rfl)
theorem n16_48s : codeB Try.prog E cx n16_48 st = condS (codeB Try.prog E cx n16_49) (codeB Try.prog E cx n16_50) (lk st.σ 37) st := GE.cond_step (c := .tmp 37) (by kernel_rfl)
theorem n16_46s : codeB Try.prog E cx n16_46 st = thenS (codeB Try.prog E cx n16_47 st) (codeB Try.prog E cx n16_48) := GE.seq_step (by kernel_rfl)
theorem q16_53g1 : gd q16_53 1 = some 41 := by kernel_rfl
theorem q16_53g6 : gd q16_53 6 = some 46 := by kernel_rfl
theorem n16_53s : codeB Try.prog E ⟨f, 63, b, ro⟩ n16_53 st = plainS (runOps Try.prog E b q16_53 (ops [true, true, true, true, true, false, false, false, true, false, true, false, false, true, false, false, true, false, true, false, false, true, false, false] Try.f16) st) := GE.region_step (id := 14) (GE.reg_of (by kernel_rfl)) (by kernel_rfl)
theorem n16_52s : codeB Try.prog E cx n16_52 st = blockS 5 (codeB Try.prog E cx n16_53 st) st := GE.block_step (by kernel_rfl)
theorem n16_54s : codeB Try.prog E ⟨f, 63, b, ro⟩ n16_54 st = plainS (runOps Try.prog E b q16_54 (ops [true, true, true, true, true, false, false, false, true, false, true, false, false, true, false, false, true, false, true, false, false, true, true] Try.f16) st) := GE.region_step (id := 13) (GE.reg_of (by kernel_rfl)) (by kernel_rfl)
theorem n16_51s : codeB Try.prog E cx n16_51 st = thenS (codeB Try.prog E cx n16_52 st) (codeB Try.prog E cx n16_54) := GE.seq_step (by kernel_rfl)
theorem n16_45s : codeB Try.prog E cx n16_45 st = thenS (codeB Try.prog E cx n16_46 st) (codeB Try.prog E cx n16_51) := GE.seq_step (by kernel_rfl)
theorem n16_44k : LL.kp (⟨16, 63, b, ro⟩ : Cx).fn (4 * rid n16_45 + 3) = some ⟨[8, 9, 7, 0, 5, 6], [⟨0, 0, 2, true⟩, ⟨5, 0, 1, true⟩, ⟨6, 0, 1, true⟩]⟩ := by kernel_rfl
theorem n16_44s : codeB Try.prog LL ⟨16, 63, b, ro⟩ n16_44 st = headS b ⟨[8, 9, 7, 0, 5, 6], [⟨0, 0, 2, true⟩, ⟨5, 0, 1, true⟩, ⟨6, 0, 1, true⟩]⟩ st (lpB Try.prog LL ⟨16, 63, b, ro⟩ n16_44 n16_45) := GE.lpB_step (by kernel_rfl) (n16_44k b ro)
theorem n16_44g : LL.code ⟨16, 63, b, ro⟩ n16_44 st = headS b ⟨[8, 9, 7, 0, 5, 6], [⟨0, 0, 2, true⟩, ⟨5, 0, 1, true⟩, ⟨6, 0, 1, true⟩]⟩ st (lpB Try.prog LL ⟨16, 63, b, ro⟩ n16_44 n16_45) := GE.lpB_again (by kernel_rfl) (n16_44k b ro)
theorem n16_43s : codeB Try.prog E cx n16_43 st = blockS 4 (codeB Try.prog E cx n16_44 st) st := GE.block_step (by kernel_rfl)
theorem n16_41s : codeB Try.prog E cx n16_41 st = thenS (codeB Try.prog E cx n16_42 st) (codeB Try.prog E cx n16_43) := GE.seq_step (by kernel_rfl)
theorem n16_56s : codeB Try.prog E ⟨f, 63, b, ro⟩ n16_56 st = plainS (runOps Try.prog E b q16_56 (ops [true, true, true, true, true, false, false, false, true, false, true, false, false, true, false, false, true, true, false] Try.f16) st) := GE.region_step (id := 15) (GE.reg_of (by kernel_rfl)) (by kernel_rfl)
theorem n16_59s : codeB Try.prog E ⟨f, 63, b, ro⟩ n16_59 st = plainS (runOps Try.prog E b q16_59 (ops [true, true, true, true, true, false, false, false, true, false, true, false, false, true, false, false, true, true, true, false, false] Try.f16) st) := GE.region_step (id := 16) (GE.reg_of (by kernel_rfl)) (by kernel_rfl)
theorem n16_60s : codeB Try.prog LL ⟨16, 63, b, ro⟩ n16_60 st = normS b ⟨[0, 5, 6], [⟨0, 0, 2, true⟩, ⟨5, 0, 1, true⟩, ⟨6, 0, 1, true⟩]⟩ (.exit 2) st := GE.exit_step (by kernel_rfl) (by kernel_rfl)
theorem n16_58s : codeB Try.prog E cx n16_58 st = thenS (codeB Try.prog E cx n16_59 st) (codeB Try.prog E cx n16_60) := GE.seq_step (by kernel_rfl)
theorem n16_61s : codeB Try.prog E cx n16_61 st = some (.normal, st) := GE.skip_step (by kernel_rfl)
theorem n16_57s : codeB Try.prog E cx n16_57 st = condS (codeB Try.prog E cx n16_58) (codeB Try.prog E cx n16_61) (lk st.σ 54) st := GE.cond_step (c := .tmp 54) (by kernel_rfl)
theorem n16_55s : codeB Try.prog E cx n16_55 st = thenS (codeB Try.prog E cx n16_56 st) (codeB Try.prog E cx n16_57) := GE.seq_step (by kernel_rfl)
theorem n16_40s : codeB Try.prog E cx n16_40 st = thenS (codeB Try.prog E cx n16_41 st) (codeB Try.prog E cx n16_55) := GE.seq_step (by kernel_rfl)
theorem n16_38s : codeB Try.prog E cx n16_38 st = thenS (codeB Try.prog E cx n16_39 st) (codeB Try.prog E cx n16_40) := GE.seq_step (by kernel_rfl)
theorem n16_37s : codeB Try.prog E cx n16_37 st = blockS 3 (codeB Try.prog E cx n16_38 st) st := GE.block_step (by kernel_rfl)
theorem n16_62s : codeB Try.prog E ⟨f, 63, b, ro⟩ n16_62 st = plainS (runOps Try.prog E b q16_62 (ops [true, true, true, true, true, false, false, false, true, false, true, false, false, true, true] Try.f16) st) := GE.region_step (id := 9) (GE.reg_of (by kernel_rfl)) (by kernel_rfl)
theorem n16_36s : codeB Try.prog E cx n16_36 st = thenS (codeB Try.prog E cx n16_37 st) (codeB Try.prog E cx n16_62) := GE.seq_step (by kernel_rfl)
theorem n16_30s : codeB Try.prog E cx n16_30 st = thenS (codeB Try.prog E cx n16_31 st) (codeB Try.prog E cx n16_36) := GE.seq_step (by kernel_rfl)
theorem n16_29k : LL.kp (⟨16, 63, b, ro⟩ : Cx).fn (4 * rid n16_30 + 3) = some ⟨[7, 0, 5, 6], [⟨0, 0, 2, true⟩, ⟨5, 0, 1, true⟩, ⟨6, 0, 1, true⟩]⟩ := by kernel_rfl
theorem n16_29s : codeB Try.prog LL ⟨16, 63, b, ro⟩ n16_29 st = headS b ⟨[7, 0, 5, 6], [⟨0, 0, 2, true⟩, ⟨5, 0, 1, true⟩, ⟨6, 0, 1, true⟩]⟩ st (lpB Try.prog LL ⟨16, 63, b, ro⟩ n16_29 n16_30) := GE.lpB_step (by kernel_rfl) (n16_29k b ro)
theorem n16_29g : LL.code ⟨16, 63, b, ro⟩ n16_29 st = headS b ⟨[7, 0, 5, 6], [⟨0, 0, 2, true⟩, ⟨5, 0, 1, true⟩, ⟨6, 0, 1, true⟩]⟩ st (lpB Try.prog LL ⟨16, 63, b, ro⟩ n16_29 n16_30) := GE.lpB_again (by kernel_rfl) (n16_29k b ro)
theorem n16_28s : codeB Try.prog E cx n16_28 st = blockS 2 (codeB Try.prog E cx n16_29 st) st := GE.block_step (by kernel_rfl)
theorem n16_26s : codeB Try.prog E cx n16_26 st = thenS (codeB Try.prog E cx n16_27 st) (codeB Try.prog E cx n16_28) := GE.seq_step (by kernel_rfl)
theorem n16_25s : codeB Try.prog E cx n16_25 st = blockS 1 (codeB Try.prog E cx n16_26 st) st := GE.block_step (by kernel_rfl)
theorem n16_19s : codeB Try.prog E cx n16_19 st = thenS (codeB Try.prog E cx n16_20 st) (codeB Try.prog E cx n16_25) := GE.seq_step (by kernel_rfl)
theorem n16_18k : LL.kp (⟨16, 63, b, ro⟩ : Cx).fn (4 * rid n16_19 + 3) = some ⟨[0, 5, 6], [⟨0, 0, 2, true⟩, ⟨5, 0, 1, true⟩, ⟨6, 0, 1, true⟩]⟩ := by kernel_rfl
theorem n16_18s : codeB Try.prog LL ⟨16, 63, b, ro⟩ n16_18 st = headS b ⟨[0, 5, 6], [⟨0, 0, 2, true⟩, ⟨5, 0, 1, true⟩, ⟨6, 0, 1, true⟩]⟩ st (lpB Try.prog LL ⟨16, 63, b, ro⟩ n16_18 n16_19) := GE.lpB_step (by kernel_rfl) (n16_18k b ro)
theorem n16_18g : LL.code ⟨16, 63, b, ro⟩ n16_18 st = headS b ⟨[0, 5, 6], [⟨0, 0, 2, true⟩, ⟨5, 0, 1, true⟩, ⟨6, 0, 1, true⟩]⟩ st (lpB Try.prog LL ⟨16, 63, b, ro⟩ n16_18 n16_19) := GE.lpB_again (by kernel_rfl) (n16_18k b ro)
theorem n16_17s : codeB Try.prog E cx n16_17 st = blockS 0 (codeB Try.prog E cx n16_18 st) st := GE.block_step (by kernel_rfl)
theorem n16_64s : codeB Try.prog E ⟨f, 63, b, ro⟩ n16_64 st = plainS (runOps Try.prog E b q16_64 (ops [true, true, true, true, true, true, false] Try.f16) st) := GE.region_step (id := 17) (GE.reg_of (by kernel_rfl)) (by kernel_rfl)
theorem n16_65s : codeB Try.prog LL ⟨16, 63, b, ro⟩ n16_65 st = normS b ⟨[2, 3], [⟨2, 0, 1, true⟩]⟩ .ret st := GE.ret_step (by kernel_rfl) (by kernel_rfl)
theorem n16_63s : codeB Try.prog E cx n16_63 st = thenS (codeB Try.prog E cx n16_64 st) (codeB Try.prog E cx n16_65) := GE.seq_step (by kernel_rfl)
theorem n16_16s : codeB Try.prog E cx n16_16 st = thenS (codeB Try.prog E cx n16_17 st) (codeB Try.prog E cx n16_63) := GE.seq_step (by kernel_rfl)
theorem n16_14s : codeB Try.prog E cx n16_14 st = thenS (codeB Try.prog E cx n16_15 st) (codeB Try.prog E cx n16_16) := GE.seq_step (by kernel_rfl)
theorem n16_12s : codeB Try.prog E cx n16_12 st = thenS (codeB Try.prog E cx n16_13 st) (codeB Try.prog E cx n16_14) := GE.seq_step (by kernel_rfl)
theorem n16_4s : codeB Try.prog E cx n16_4 st = thenS (codeB Try.prog E cx n16_5 st) (codeB Try.prog E cx n16_12) := GE.seq_step (by kernel_rfl)
theorem n16_2s : codeB Try.prog E cx n16_2 st = thenS (codeB Try.prog E cx n16_3 st) (codeB Try.prog E cx n16_4) := GE.seq_step (by kernel_rfl)
theorem n16_0s : codeB Try.prog E cx n16_0 st = thenS (codeB Try.prog E cx n16_1 st) (codeB Try.prog E cx n16_2) := GE.seq_step (by kernel_rfl)
noncomputable def n17_0 : Code := bodyOf Try.f17
noncomputable def n17_1 : Code := cl n17_0
noncomputable def q17_1 : List Oper := opsOf n17_1
noncomputable def n17_2 : Code := cr n17_0
noncomputable def n17_3 : Code := cl n17_2
noncomputable def n17_4 : Code := cl n17_3
noncomputable def q17_4 : List Oper := opsOf n17_4
noncomputable def n17_5 : Code := cr n17_3
noncomputable def n17_6 : Code := cl n17_5
noncomputable def q17_6 : List Oper := opsOf n17_6
noncomputable def n17_7 : Code := cr n17_5
noncomputable def n17_8 : Code := cl n17_7
noncomputable def n17_9 : Code := cl n17_8
noncomputable def q17_9 : List Oper := opsOf n17_9
noncomputable def n17_10 : Code := cr n17_8
noncomputable def n17_11 : Code := cr n17_7
noncomputable def n17_12 : Code := cr n17_2
noncomputable def n17_13 : Code := cl n17_12
noncomputable def q17_13 : List Oper := opsOf n17_13
noncomputable def n17_14 : Code := cr n17_12
noncomputable def n17_15 : Code := cl n17_14
noncomputable def n17_16 : Code := cl n17_15
noncomputable def q17_16 : List Oper := opsOf n17_16
noncomputable def n17_17 : Code := cr n17_15
noncomputable def n17_18 : Code := cl n17_17
noncomputable def n17_19 : Code := cl n17_18
noncomputable def n17_20 : Code := cl n17_19
noncomputable def q17_20 : List Oper := opsOf n17_20
noncomputable def n17_21 : Code := cr n17_19
noncomputable def n17_22 : Code := cl n17_21
noncomputable def n17_23 : Code := cl n17_22
noncomputable def n17_24 : Code := cr n17_22
noncomputable def n17_25 : Code := cr n17_21
noncomputable def n17_26 : Code := cl n17_25
noncomputable def n17_27 : Code := cl n17_26
noncomputable def n17_28 : Code := cl n17_27
noncomputable def q17_28 : List Oper := opsOf n17_28
noncomputable def n17_29 : Code := cr n17_27
noncomputable def q17_29 : List Oper := opsOf n17_29
noncomputable def n17_30 : Code := cr n17_25
noncomputable def q17_30 : List Oper := opsOf n17_30
noncomputable def n17_31 : Code := cr n17_14
noncomputable def n17_32 : Code := cl n17_31
noncomputable def q17_32 : List Oper := opsOf n17_32
noncomputable def n17_33 : Code := cr n17_31
theorem body17 : Try.f17.body = some n17_0 := by kernel_rfl
theorem run17 (E : Ev) (args : List Value) (h : List Blk) (hl : args.length ≤ 25) : runB Try.prog E 17 args h = endS Try.prog [.tmp 2, .tmp 3] h.length (codeB Try.prog E ⟨17, 25, h.length, none⟩ n17_0 ⟨enumT 0 args, h, []⟩) := GE.run_step Try.func17 body17 (by kernel_rfl) (by decide) (by kernel_rfl) hl
theorem n17_1s : codeB Try.prog E ⟨f, 25, b, ro⟩ n17_1 st = plainS (runOps Try.prog E b q17_1 (ops [false] Try.f17) st) := GE.region_step (id := 0) (GE.reg_of (by kernel_rfl)) (by kernel_rfl)
theorem n17_4s : codeB Try.prog E ⟨f, 25, b, ro⟩ n17_4 st = plainS (runOps Try.prog E b q17_4 (ops [true, false, false] Try.f17) st) := GE.region_step (id := 1) (GE.reg_of (by kernel_rfl)) (by kernel_rfl)
theorem n17_6s : codeB Try.prog E ⟨f, 25, b, ro⟩ n17_6 st = plainS (runOps Try.prog E b q17_6 (ops [true, false, true, false] Try.f17) st) := GE.region_step (id := 2) (GE.reg_of (by kernel_rfl)) (by kernel_rfl)
theorem n17_9s : codeB Try.prog E ⟨f, 25, b, ro⟩ n17_9 st = plainS (runOps Try.prog E b q17_9 (ops [true, false, true, true, false, false] Try.f17) st) := GE.region_step (id := 3) (GE.reg_of (by kernel_rfl)) (by kernel_rfl)
theorem n17_10s : codeB Try.prog LL ⟨17, 25, b, ro⟩ n17_10 st = normS b ⟨[2, 3], [⟨2, 0, 2, true⟩]⟩ .ret st := GE.ret_step (by kernel_rfl) (by kernel_rfl)
theorem n17_8s : codeB Try.prog E cx n17_8 st = thenS (codeB Try.prog E cx n17_9 st) (codeB Try.prog E cx n17_10) := GE.seq_step (by kernel_rfl)
theorem n17_11s : codeB Try.prog E cx n17_11 st = some (.normal, st) := GE.skip_step (by kernel_rfl)
theorem n17_7s : codeB Try.prog E cx n17_7 st = condS (codeB Try.prog E cx n17_8) (codeB Try.prog E cx n17_11) (lk st.σ 10) st := GE.cond_step (c := .tmp 10) (by kernel_rfl)
theorem n17_5s : codeB Try.prog E cx n17_5 st = thenS (codeB Try.prog E cx n17_6 st) (codeB Try.prog E cx n17_7) := GE.seq_step (by kernel_rfl)
theorem n17_3s : codeB Try.prog E cx n17_3 st = thenS (codeB Try.prog E cx n17_4 st) (codeB Try.prog E cx n17_5) := GE.seq_step (by kernel_rfl)
theorem n17_13s : codeB Try.prog E ⟨f, 25, b, ro⟩ n17_13 st = plainS (runOps Try.prog E b q17_13 (ops [true, true, false] Try.f17) st) := GE.region_step (id := 4) (GE.reg_of (by kernel_rfl)) (by kernel_rfl)
theorem n17_16s : codeB Try.prog E ⟨f, 25, b, ro⟩ n17_16 st = plainS (runOps Try.prog E b q17_16 (ops [true, true, true, false, false] Try.f17) st) := GE.region_step (id := 5) (GE.reg_of (by kernel_rfl)) (by kernel_rfl)
theorem n17_20s : codeB Try.prog E ⟨f, 25, b, ro⟩ n17_20 st = plainS (runOps Try.prog E b q17_20 (ops [true, true, true, false, true, false, false, false] Try.f17) st) := GE.region_step (id := 6) (GE.reg_of (by kernel_rfl)) (by kernel_rfl)
theorem n17_23s : codeB Try.prog E cx n17_23 st = some (.normal, st) := GE.skip_step (by kernel_rfl)
theorem n17_24s : codeB Try.prog LL ⟨17, 25, b, ro⟩ n17_24 st = normS b ⟨[5], [⟨5, 0, 2, true⟩]⟩ (.exit 0) st := GE.exit_step (by kernel_rfl) (by kernel_rfl)
theorem n17_22s : codeB Try.prog E cx n17_22 st = condS (codeB Try.prog E cx n17_23) (codeB Try.prog E cx n17_24) (lk st.σ 15) st := GE.cond_step (c := .tmp 15) (by kernel_rfl)
theorem n17_28s : codeB Try.prog E ⟨f, 25, b, ro⟩ n17_28 st = plainS (runOps Try.prog E b q17_28 (ops [true, true, true, false, true, false, false, true, true, false, false, false] Try.f17) st) := GE.region_step (id := 7) (GE.reg_of (by kernel_rfl)) (by kernel_rfl)
theorem n17_29s : codeB Try.prog E ⟨f, 25, b, ro⟩ n17_29 st = plainS (runOps Try.prog E b q17_29 (ops [true, true, true, false, true, false, false, true, true, false, false, true] Try.f17) st) := GE.region_step (id := 8) (GE.reg_of (by kernel_rfl)) (by kernel_rfl)
theorem n17_27s : codeB Try.prog E cx n17_27 st = thenS (codeB Try.prog E cx n17_28 st) (codeB Try.prog E cx n17_29) := GE.seq_step (by kernel_rfl)
theorem n17_26s : codeB Try.prog E cx n17_26 st = blockS 1 (codeB Try.prog E cx n17_27 st) st := GE.block_step (by kernel_rfl)
theorem n17_30s : codeB Try.prog E ⟨f, 25, b, ro⟩ n17_30 st = plainS (runOps Try.prog E b q17_30 (ops [true, true, true, false, true, false, false, true, true, true] Try.f17) st) := GE.region_step (id := 9) (GE.reg_of (by kernel_rfl)) (by kernel_rfl)
theorem n17_25s : codeB Try.prog E cx n17_25 st = thenS (codeB Try.prog E cx n17_26 st) (codeB Try.prog E cx n17_30) := GE.seq_step (by kernel_rfl)
theorem n17_21s : codeB Try.prog E cx n17_21 st = thenS (codeB Try.prog E cx n17_22 st) (codeB Try.prog E cx n17_25) := GE.seq_step (by kernel_rfl)
theorem n17_19s : codeB Try.prog E cx n17_19 st = thenS (codeB Try.prog E cx n17_20 st) (codeB Try.prog E cx n17_21) := GE.seq_step (by kernel_rfl)
theorem n17_18k : LL.kp (⟨17, 25, b, ro⟩ : Cx).fn (4 * rid n17_19 + 3) = some ⟨[0, 5, 13, 14], [⟨0, 0, 2, true⟩, ⟨5, 0, 2, true⟩]⟩ := by kernel_rfl
theorem n17_18s : codeB Try.prog LL ⟨17, 25, b, ro⟩ n17_18 st = headS b ⟨[0, 5, 13, 14], [⟨0, 0, 2, true⟩, ⟨5, 0, 2, true⟩]⟩ st (lpB Try.prog LL ⟨17, 25, b, ro⟩ n17_18 n17_19) := GE.lpB_step (by kernel_rfl) (n17_18k b ro)
theorem n17_18g : LL.code ⟨17, 25, b, ro⟩ n17_18 st = headS b ⟨[0, 5, 13, 14], [⟨0, 0, 2, true⟩, ⟨5, 0, 2, true⟩]⟩ st (lpB Try.prog LL ⟨17, 25, b, ro⟩ n17_18 n17_19) := GE.lpB_again (by kernel_rfl) (n17_18k b ro)
theorem n17_17s : codeB Try.prog E cx n17_17 st = blockS 0 (codeB Try.prog E cx n17_18 st) st := GE.block_step (by kernel_rfl)
theorem n17_15s : codeB Try.prog E cx n17_15 st = thenS (codeB Try.prog E cx n17_16 st) (codeB Try.prog E cx n17_17) := GE.seq_step (by kernel_rfl)
theorem n17_32s : codeB Try.prog E ⟨f, 25, b, ro⟩ n17_32 st = plainS (runOps Try.prog E b q17_32 (ops [true, true, true, true, false] Try.f17) st) := GE.region_step (id := 10) (GE.reg_of (by kernel_rfl)) (by kernel_rfl)
theorem n17_33s : codeB Try.prog LL ⟨17, 25, b, ro⟩ n17_33 st = normS b ⟨[2, 3], [⟨2, 0, 2, true⟩]⟩ .ret st := GE.ret_step (by kernel_rfl) (by kernel_rfl)
theorem n17_31s : codeB Try.prog E cx n17_31 st = thenS (codeB Try.prog E cx n17_32 st) (codeB Try.prog E cx n17_33) := GE.seq_step (by kernel_rfl)
theorem n17_14s : codeB Try.prog E cx n17_14 st = thenS (codeB Try.prog E cx n17_15 st) (codeB Try.prog E cx n17_31) := GE.seq_step (by kernel_rfl)
theorem n17_12s : codeB Try.prog E cx n17_12 st = thenS (codeB Try.prog E cx n17_13 st) (codeB Try.prog E cx n17_14) := GE.seq_step (by kernel_rfl)
theorem n17_2s : codeB Try.prog E cx n17_2 st = thenS (codeB Try.prog E cx n17_3 st) (codeB Try.prog E cx n17_12) := GE.seq_step (by kernel_rfl)
theorem n17_0s : codeB Try.prog E cx n17_0 st = thenS (codeB Try.prog E cx n17_1 st) (codeB Try.prog E cx n17_2) := GE.seq_step (by kernel_rfl)
noncomputable def n18_0 : Code := bodyOf Try.f18
noncomputable def n18_1 : Code := cl n18_0
noncomputable def q18_1 : List Oper := opsOf n18_1
noncomputable def n18_2 : Code := cr n18_0
noncomputable def n18_3 : Code := cl n18_2
noncomputable def q18_3 : List Oper := opsOf n18_3
noncomputable def n18_4 : Code := cr n18_2
noncomputable def n18_5 : Code := cl n18_4
noncomputable def n18_6 : Code := cl n18_5
noncomputable def q18_6 : List Oper := opsOf n18_6
noncomputable def n18_7 : Code := cr n18_5
noncomputable def n18_8 : Code := cl n18_7
noncomputable def n18_9 : Code := cl n18_8
noncomputable def q18_9 : List Oper := opsOf n18_9
noncomputable def n18_10 : Code := cr n18_8
noncomputable def n18_11 : Code := cr n18_7
noncomputable def n18_12 : Code := cr n18_4
noncomputable def n18_13 : Code := cl n18_12
noncomputable def q18_13 : List Oper := opsOf n18_13
noncomputable def n18_14 : Code := cr n18_12
noncomputable def n18_15 : Code := cl n18_14
noncomputable def n18_16 : Code := cl n18_15
noncomputable def q18_16 : List Oper := opsOf n18_16
noncomputable def n18_17 : Code := cr n18_15
noncomputable def n18_18 : Code := cl n18_17
noncomputable def n18_19 : Code := cl n18_18
noncomputable def n18_20 : Code := cl n18_19
noncomputable def n18_21 : Code := cl n18_20
noncomputable def q18_21 : List Oper := opsOf n18_21
noncomputable def n18_22 : Code := cr n18_20
noncomputable def n18_23 : Code := cl n18_22
noncomputable def n18_24 : Code := cr n18_22
noncomputable def n18_25 : Code := cr n18_19
noncomputable def n18_26 : Code := cl n18_25
noncomputable def n18_27 : Code := cl n18_26
noncomputable def n18_28 : Code := cl n18_27
noncomputable def q18_28 : List Oper := opsOf n18_28
noncomputable def n18_29 : Code := cr n18_27
noncomputable def n18_30 : Code := cl n18_29
noncomputable def n18_31 : Code := cl n18_30
noncomputable def q18_31 : List Oper := opsOf n18_31
noncomputable def n18_32 : Code := cr n18_30
noncomputable def n18_33 : Code := cl n18_32
noncomputable def n18_34 : Code := cl n18_33
noncomputable def n18_35 : Code := cl n18_34
noncomputable def n18_36 : Code := cl n18_35
noncomputable def q18_36 : List Oper := opsOf n18_36
noncomputable def n18_37 : Code := cr n18_35
noncomputable def n18_38 : Code := cl n18_37
noncomputable def n18_39 : Code := cr n18_37
noncomputable def n18_40 : Code := cr n18_34
noncomputable def n18_41 : Code := cl n18_40
noncomputable def n18_42 : Code := cl n18_41
noncomputable def n18_43 : Code := cl n18_42
noncomputable def n18_44 : Code := cl n18_43
noncomputable def q18_44 : List Oper := opsOf n18_44
noncomputable def n18_45 : Code := cr n18_43
noncomputable def n18_46 : Code := cl n18_45
noncomputable def q18_46 : List Oper := opsOf n18_46
noncomputable def n18_47 : Code := cr n18_45
noncomputable def n18_48 : Code := cr n18_42
noncomputable def n18_49 : Code := cl n18_48
noncomputable def q18_49 : List Oper := opsOf n18_49
noncomputable def n18_50 : Code := cr n18_48
noncomputable def n18_51 : Code := cl n18_50
noncomputable def q18_51 : List Oper := opsOf n18_51
noncomputable def n18_52 : Code := cr n18_50
noncomputable def n18_53 : Code := cr n18_40
noncomputable def q18_53 : List Oper := opsOf n18_53
noncomputable def n18_54 : Code := cr n18_29
noncomputable def q18_54 : List Oper := opsOf n18_54
noncomputable def n18_55 : Code := cr n18_25
noncomputable def q18_55 : List Oper := opsOf n18_55
noncomputable def n18_56 : Code := cr n18_14
noncomputable def n18_57 : Code := cl n18_56
noncomputable def q18_57 : List Oper := opsOf n18_57
noncomputable def n18_58 : Code := cr n18_56
theorem body18 : Try.f18.body = some n18_0 := by kernel_rfl
theorem run18 (E : Ev) (args : List Value) (h : List Blk) (hl : args.length ≤ 50) : runB Try.prog E 18 args h = endS Try.prog [.tmp 2, .tmp 3] h.length (codeB Try.prog E ⟨18, 50, h.length, none⟩ n18_0 ⟨enumT 0 args, h, []⟩) := GE.run_step Try.func18 body18 (by kernel_rfl) (by decide) (by kernel_rfl) hl
theorem n18_1s : codeB Try.prog E ⟨f, 50, b, ro⟩ n18_1 st = plainS (runOps Try.prog E b q18_1 (ops [false] Try.f18) st) := GE.region_step (id := 0) (GE.reg_of (by kernel_rfl)) (by kernel_rfl)
theorem n18_3s : codeB Try.prog E ⟨f, 50, b, ro⟩ n18_3 st = plainS (runOps Try.prog E b q18_3 (ops [true, false] Try.f18) st) := GE.region_step (id := 1) (GE.reg_of (by kernel_rfl)) (by kernel_rfl)
theorem n18_6s : codeB Try.prog E ⟨f, 50, b, ro⟩ n18_6 st = plainS (runOps Try.prog E b q18_6 (ops [true, true, false, false] Try.f18) st) := GE.region_step (id := 2) (GE.reg_of (by kernel_rfl)) (by kernel_rfl)
theorem n18_9s : codeB Try.prog E ⟨f, 50, b, ro⟩ n18_9 st = plainS (runOps Try.prog E b q18_9 (ops [true, true, false, true, false, false] Try.f18) st) := GE.region_step (id := 3) (GE.reg_of (by kernel_rfl)) (by kernel_rfl)
theorem n18_10s : codeB Try.prog LL ⟨18, 50, b, ro⟩ n18_10 st = normS b ⟨[2, 3], [⟨2, 0, 2, true⟩]⟩ .ret st := GE.ret_step (by kernel_rfl) (by kernel_rfl)
theorem n18_8s : codeB Try.prog E cx n18_8 st = thenS (codeB Try.prog E cx n18_9 st) (codeB Try.prog E cx n18_10) := GE.seq_step (by kernel_rfl)
theorem n18_11s : codeB Try.prog E cx n18_11 st = some (.normal, st) := GE.skip_step (by kernel_rfl)
theorem n18_7s : codeB Try.prog E cx n18_7 st = condS (codeB Try.prog E cx n18_8) (codeB Try.prog E cx n18_11) (lk st.σ 12) st := GE.cond_step (c := .tmp 12) (by kernel_rfl)
theorem n18_5s : codeB Try.prog E cx n18_5 st = thenS (codeB Try.prog E cx n18_6 st) (codeB Try.prog E cx n18_7) := GE.seq_step (by kernel_rfl)
theorem n18_13s : codeB Try.prog E ⟨f, 50, b, ro⟩ n18_13 st = plainS (runOps Try.prog E b q18_13 (ops [true, true, true, false] Try.f18) st) := GE.region_step (id := 4) (GE.reg_of (by kernel_rfl)) (by kernel_rfl)
theorem n18_16s : codeB Try.prog E ⟨f, 50, b, ro⟩ n18_16 st = plainS (runOps Try.prog E b q18_16 (ops [true, true, true, true, false, false] Try.f18) st) := GE.region_step (id := 5) (GE.reg_of (by kernel_rfl)) (by kernel_rfl)
theorem n18_21s : codeB Try.prog E ⟨f, 50, b, ro⟩ n18_21 st = plainS (runOps Try.prog E b q18_21 (ops [true, true, true, true, false, true, false, false, false, false] Try.f18) st) := GE.region_step (id := 6) (GE.reg_of (by kernel_rfl)) (by kernel_rfl)
theorem n18_23s : codeB Try.prog E cx n18_23 st = some (.normal, st) := GE.skip_step (by kernel_rfl)
theorem n18_24s : codeB Try.prog LL ⟨18, 50, b, ro⟩ n18_24 st = normS b ⟨[5], [⟨5, 0, 2, true⟩]⟩ (.exit 0) st := GE.exit_step (by kernel_rfl) (by kernel_rfl)
theorem n18_22s : codeB Try.prog E cx n18_22 st = condS (codeB Try.prog E cx n18_23) (codeB Try.prog E cx n18_24) (lk st.σ 17) st := GE.cond_step (c := .tmp 17) (by kernel_rfl)
theorem n18_20s : codeB Try.prog E cx n18_20 st = thenS (codeB Try.prog E cx n18_21 st) (codeB Try.prog E cx n18_22) := GE.seq_step (by kernel_rfl)
theorem n18_28s : codeB Try.prog E ⟨f, 50, b, ro⟩ n18_28 st = plainS (runOps Try.prog E b q18_28 (ops [true, true, true, true, false, true, false, false, true, false, false, false] Try.f18) st) := GE.region_step (id := 8) (GE.reg_of (by kernel_rfl)) (by kernel_rfl)
theorem n18_31s : codeB Try.prog E ⟨f, 50, b, ro⟩ n18_31 st = plainS (runOps Try.prog E b q18_31 (ops [true, true, true, true, false, true, false, false, true, false, false, true, false, false] Try.f18) st) := GE.region_step (id := 9) (GE.reg_of (by kernel_rfl)) (by kernel_rfl)
theorem n18_36s : codeB Try.prog E ⟨f, 50, b, ro⟩ n18_36 st = plainS (runOps Try.prog E b q18_36 (ops [true, true, true, true, false, true, false, false, true, false, false, true, false, true, false, false, false, false] Try.f18) st) := GE.region_step (id := 10) (GE.reg_of (by kernel_rfl)) (by kernel_rfl)
theorem n18_38s : codeB Try.prog E cx n18_38 st = some (.normal, st) := GE.skip_step (by kernel_rfl)
theorem n18_39s : codeB Try.prog LL ⟨18, 50, b, ro⟩ n18_39 st = normS b ⟨[7, 0, 5, 6], [⟨0, 0, 2, true⟩, ⟨5, 0, 2, true⟩]⟩ (.exit 2) st := GE.exit_step (by kernel_rfl) (by kernel_rfl)
theorem n18_37s : codeB Try.prog E cx n18_37 st = condS (codeB Try.prog E cx n18_38) (codeB Try.prog E cx n18_39) (lk st.σ 26) st := GE.cond_step (c := .tmp 26) (by kernel_rfl)
theorem n18_35s : codeB Try.prog E cx n18_35 st = thenS (codeB Try.prog E cx n18_36 st) (codeB Try.prog E cx n18_37) := GE.seq_step (by kernel_rfl)
theorem n18_44s : codeB Try.prog E ⟨f, 50, b, ro⟩ n18_44 st = plainS (runOps Try.prog E b q18_44 (ops [true, true, true, true, false, true, false, false, true, false, false, true, false, true, false, false, true, false, false, false, false] Try.f18) st) := GE.region_step (id := 12) (GE.reg_of (by kernel_rfl)) (by kernel_rfl)
theorem n18_46s : codeB Try.prog E ⟨f, 50, b, ro⟩ n18_46 st = plainS (runOps Try.prog E b q18_46 (ops [true, true, true, true, false, true, false, false, true, false, false, true, false, true, false, false, true, false, false, false, true, false] Try.f18) st) := GE.region_step (id := 13) (GE.reg_of (by kernel_rfl)) (by kernel_rfl)
theorem n18_47s : codeB Try.prog E cx n18_47 st = some (.normal, st) := GE.skip_step (by kernel_rfl)
theorem n18_45s : codeB Try.prog E cx n18_45 st = condS (codeB Try.prog E cx n18_46) (codeB Try.prog E cx n18_47) (lk st.σ 32) st := GE.cond_step (c := .tmp 32) (by kernel_rfl)
theorem n18_43s : codeB Try.prog E cx n18_43 st = thenS (codeB Try.prog E cx n18_44 st) (codeB Try.prog E cx n18_45) := GE.seq_step (by kernel_rfl)
theorem n18_49s : codeB Try.prog E ⟨f, 50, b, ro⟩ n18_49 st = plainS (runOps Try.prog E b q18_49 (ops [true, true, true, true, false, true, false, false, true, false, false, true, false, true, false, false, true, false, false, true, false] Try.f18) st) := GE.region_step (id := 14) (GE.reg_of (by kernel_rfl)) (by kernel_rfl)
theorem n18_51s : codeB Try.prog E ⟨f, 50, b, ro⟩ n18_51 st = plainS (runOps Try.prog E b q18_51 (ops [true, true, true, true, false, true, false, false, true, false, false, true, false, true, false, false, true, false, false, true, true, false] Try.f18) st) := GE.region_step (id := 15) (GE.reg_of (by kernel_rfl)) (by kernel_rfl)
theorem n18_52s : codeB Try.prog E cx n18_52 st = some (.normal, st) := GE.skip_step (by kernel_rfl)
theorem n18_50s : codeB Try.prog E cx n18_50 st = condS (codeB Try.prog E cx n18_51) (codeB Try.prog E cx n18_52) (lk st.σ 40) st := GE.cond_step (c := .tmp 40) (by kernel_rfl)
theorem n18_48s : codeB Try.prog E cx n18_48 st = thenS (codeB Try.prog E cx n18_49 st) (codeB Try.prog E cx n18_50) := GE.seq_step (by kernel_rfl)
theorem n18_42s : codeB Try.prog E cx n18_42 st = thenS (codeB Try.prog E cx n18_43 st) (codeB Try.prog E cx n18_48) := GE.seq_step (by kernel_rfl)
theorem n18_41s : codeB Try.prog E cx n18_41 st = blockS 3 (codeB Try.prog E cx n18_42 st) st := GE.block_step (by kernel_rfl)
theorem n18_53s : codeB Try.prog E ⟨f, 50, b, ro⟩ n18_53 st = plainS (runOps Try.prog E b q18_53 (ops [true, true, true, true, false, true, false, false, true, false, false, true, false, true, false, false, true, true] Try.f18) st) := GE.region_step (id := 11) (GE.reg_of (by kernel_rfl)) (by kernel_rfl)
theorem n18_40s : codeB Try.prog E cx n18_40 st = thenS (codeB Try.prog E cx n18_41 st) (codeB Try.prog E cx n18_53) := GE.seq_step (by kernel_rfl)
theorem n18_34s : codeB Try.prog E cx n18_34 st = thenS (codeB Try.prog E cx n18_35 st) (codeB Try.prog E cx n18_40) := GE.seq_step (by kernel_rfl)
theorem n18_33k : LL.kp (⟨18, 50, b, ro⟩ : Cx).fn (4 * rid n18_34 + 3) = some ⟨[7, 8, 0, 5, 6], [⟨0, 0, 2, true⟩, ⟨5, 0, 2, true⟩]⟩ := by kernel_rfl
theorem n18_33s : codeB Try.prog LL ⟨18, 50, b, ro⟩ n18_33 st = headS b ⟨[7, 8, 0, 5, 6], [⟨0, 0, 2, true⟩, ⟨5, 0, 2, true⟩]⟩ st (lpB Try.prog LL ⟨18, 50, b, ro⟩ n18_33 n18_34) := GE.lpB_step (by kernel_rfl) (n18_33k b ro)
theorem n18_33g : LL.code ⟨18, 50, b, ro⟩ n18_33 st = headS b ⟨[7, 8, 0, 5, 6], [⟨0, 0, 2, true⟩, ⟨5, 0, 2, true⟩]⟩ st (lpB Try.prog LL ⟨18, 50, b, ro⟩ n18_33 n18_34) := GE.lpB_again (by kernel_rfl) (n18_33k b ro)
theorem n18_32s : codeB Try.prog E cx n18_32 st = blockS 2 (codeB Try.prog E cx n18_33 st) st := GE.block_step (by kernel_rfl)
theorem n18_30s : codeB Try.prog E cx n18_30 st = thenS (codeB Try.prog E cx n18_31 st) (codeB Try.prog E cx n18_32) := GE.seq_step (by kernel_rfl)
theorem n18_54s : codeB Try.prog E ⟨f, 50, b, ro⟩ n18_54 st = plainS (runOps Try.prog E b q18_54 (ops [true, true, true, true, false, true, false, false, true, false, false, true, true] Try.f18) st) := GE.region_step (id := 16) (GE.reg_of (by kernel_rfl)) (by kernel_rfl)
theorem n18_29s : codeB Try.prog E cx n18_29 st = thenS (codeB Try.prog E cx n18_30 st) (codeB Try.prog E cx n18_54) := GE.seq_step (by kernel_rfl)
theorem n18_27s : codeB Try.prog E cx n18_27 st = thenS (codeB Try.prog E cx n18_28 st) (codeB Try.prog E cx n18_29) := GE.seq_step (by kernel_rfl)
theorem n18_26s : codeB Try.prog E cx n18_26 st = blockS 1 (codeB Try.prog E cx n18_27 st) st := GE.block_step (by kernel_rfl)
theorem n18_55s : codeB Try.prog E ⟨f, 50, b, ro⟩ n18_55 st = plainS (runOps Try.prog E b q18_55 (ops [true, true, true, true, false, true, false, false, true, true] Try.f18) st) := GE.region_step (id := 7) (GE.reg_of (by kernel_rfl)) (by kernel_rfl)
theorem n18_25s : codeB Try.prog E cx n18_25 st = thenS (codeB Try.prog E cx n18_26 st) (codeB Try.prog E cx n18_55) := GE.seq_step (by kernel_rfl)
theorem n18_19s : codeB Try.prog E cx n18_19 st = thenS (codeB Try.prog E cx n18_20 st) (codeB Try.prog E cx n18_25) := GE.seq_step (by kernel_rfl)
theorem n18_18k : LL.kp (⟨18, 50, b, ro⟩ : Cx).fn (4 * rid n18_19 + 3) = some ⟨[0, 5, 6], [⟨0, 0, 2, true⟩, ⟨5, 0, 2, true⟩]⟩ := by kernel_rfl
theorem n18_18s : codeB Try.prog LL ⟨18, 50, b, ro⟩ n18_18 st = headS b ⟨[0, 5, 6], [⟨0, 0, 2, true⟩, ⟨5, 0, 2, true⟩]⟩ st (lpB Try.prog LL ⟨18, 50, b, ro⟩ n18_18 n18_19) := GE.lpB_step (by kernel_rfl) (n18_18k b ro)
theorem n18_18g : LL.code ⟨18, 50, b, ro⟩ n18_18 st = headS b ⟨[0, 5, 6], [⟨0, 0, 2, true⟩, ⟨5, 0, 2, true⟩]⟩ st (lpB Try.prog LL ⟨18, 50, b, ro⟩ n18_18 n18_19) := GE.lpB_again (by kernel_rfl) (n18_18k b ro)
theorem n18_17s : codeB Try.prog E cx n18_17 st = blockS 0 (codeB Try.prog E cx n18_18 st) st := GE.block_step (by kernel_rfl)
theorem n18_15s : codeB Try.prog E cx n18_15 st = thenS (codeB Try.prog E cx n18_16 st) (codeB Try.prog E cx n18_17) := GE.seq_step (by kernel_rfl)
theorem n18_57s : codeB Try.prog E ⟨f, 50, b, ro⟩ n18_57 st = plainS (runOps Try.prog E b q18_57 (ops [true, true, true, true, true, false] Try.f18) st) := GE.region_step (id := 17) (GE.reg_of (by kernel_rfl)) (by kernel_rfl)
theorem n18_58s : codeB Try.prog LL ⟨18, 50, b, ro⟩ n18_58 st = normS b ⟨[2, 3], [⟨2, 0, 2, true⟩]⟩ .ret st := GE.ret_step (by kernel_rfl) (by kernel_rfl)
theorem n18_56s : codeB Try.prog E cx n18_56 st = thenS (codeB Try.prog E cx n18_57 st) (codeB Try.prog E cx n18_58) := GE.seq_step (by kernel_rfl)
theorem n18_14s : codeB Try.prog E cx n18_14 st = thenS (codeB Try.prog E cx n18_15 st) (codeB Try.prog E cx n18_56) := GE.seq_step (by kernel_rfl)
theorem n18_12s : codeB Try.prog E cx n18_12 st = thenS (codeB Try.prog E cx n18_13 st) (codeB Try.prog E cx n18_14) := GE.seq_step (by kernel_rfl)
theorem n18_4s : codeB Try.prog E cx n18_4 st = thenS (codeB Try.prog E cx n18_5 st) (codeB Try.prog E cx n18_12) := GE.seq_step (by kernel_rfl)
theorem n18_2s : codeB Try.prog E cx n18_2 st = thenS (codeB Try.prog E cx n18_3 st) (codeB Try.prog E cx n18_4) := GE.seq_step (by kernel_rfl)
theorem n18_0s : codeB Try.prog E cx n18_0 st = thenS (codeB Try.prog E cx n18_1 st) (codeB Try.prog E cx n18_2) := GE.seq_step (by kernel_rfl)
noncomputable def n19_0 : Code := bodyOf Try.f19
noncomputable def n19_1 : Code := cl n19_0
noncomputable def q19_1 : List Oper := opsOf n19_1
noncomputable def n19_2 : Code := cr n19_0
noncomputable def n19_3 : Code := cl n19_2
noncomputable def q19_3 : List Oper := opsOf n19_3
noncomputable def n19_4 : Code := cr n19_2
noncomputable def n19_5 : Code := cl n19_4
noncomputable def n19_6 : Code := cl n19_5
noncomputable def n19_7 : Code := cl n19_6
noncomputable def q19_7 : List Oper := opsOf n19_7
noncomputable def n19_8 : Code := cr n19_6
noncomputable def n19_9 : Code := cl n19_8
noncomputable def n19_10 : Code := cl n19_9
noncomputable def q19_10 : List Oper := opsOf n19_10
noncomputable def n19_11 : Code := cr n19_9
noncomputable def n19_12 : Code := cr n19_8
noncomputable def n19_13 : Code := cl n19_12
noncomputable def q19_13 : List Oper := opsOf n19_13
noncomputable def n19_14 : Code := cr n19_12
noncomputable def n19_15 : Code := cl n19_14
noncomputable def n19_16 : Code := cl n19_15
noncomputable def q19_16 : List Oper := opsOf n19_16
noncomputable def n19_17 : Code := cr n19_15
noncomputable def n19_18 : Code := cr n19_14
noncomputable def n19_19 : Code := cr n19_4
noncomputable def n19_20 : Code := cl n19_19
noncomputable def n19_21 : Code := cl n19_20
noncomputable def q19_21 : List Oper := opsOf n19_21
noncomputable def n19_22 : Code := cr n19_20
noncomputable def n19_23 : Code := cl n19_22
noncomputable def n19_24 : Code := cl n19_23
noncomputable def n19_25 : Code := cl n19_24
noncomputable def q19_25 : List Oper := opsOf n19_25
noncomputable def n19_26 : Code := cr n19_24
noncomputable def n19_27 : Code := cl n19_26
noncomputable def n19_28 : Code := cl n19_27
noncomputable def n19_29 : Code := cr n19_27
noncomputable def n19_30 : Code := cr n19_26
noncomputable def n19_31 : Code := cl n19_30
noncomputable def n19_32 : Code := cl n19_31
noncomputable def n19_33 : Code := cl n19_32
noncomputable def q19_33 : List Oper := opsOf n19_33
noncomputable def n19_34 : Code := cr n19_32
noncomputable def n19_35 : Code := cl n19_34
noncomputable def n19_36 : Code := cl n19_35
noncomputable def q19_36 : List Oper := opsOf n19_36
noncomputable def n19_37 : Code := cr n19_35
noncomputable def n19_38 : Code := cl n19_37
noncomputable def q19_38 : List Oper := opsOf n19_38
noncomputable def n19_39 : Code := cr n19_37
noncomputable def n19_40 : Code := cr n19_34
noncomputable def n19_41 : Code := cl n19_40
noncomputable def q19_41 : List Oper := opsOf n19_41
noncomputable def n19_42 : Code := cr n19_40
noncomputable def n19_43 : Code := cl n19_42
noncomputable def q19_43 : List Oper := opsOf n19_43
noncomputable def n19_44 : Code := cr n19_42
noncomputable def n19_45 : Code := cr n19_30
noncomputable def q19_45 : List Oper := opsOf n19_45
noncomputable def n19_46 : Code := cr n19_19
noncomputable def n19_47 : Code := cl n19_46
noncomputable def q19_47 : List Oper := opsOf n19_47
noncomputable def n19_48 : Code := cr n19_46
theorem body19 : Try.f19.body = some n19_0 := by kernel_rfl
theorem run19 (E : Ev) (args : List Value) (h : List Blk) (hl : args.length ≤ 51) : runB Try.prog E 19 args h = endS Try.prog [.tmp 4, .tmp 5, .tmp 6] h.length (codeB Try.prog E ⟨19, 51, h.length, none⟩ n19_0 ⟨enumT 0 args, h, []⟩) := GE.run_step Try.func19 body19 (by kernel_rfl) (by decide) (by kernel_rfl) hl
theorem n19_1s : codeB Try.prog E ⟨f, 51, b, ro⟩ n19_1 st = plainS (runOps Try.prog E b q19_1 (ops [false] Try.f19) st) := GE.region_step (id := 0) (GE.reg_of (by kernel_rfl)) (by kernel_rfl)
theorem n19_3s : codeB Try.prog E ⟨f, 51, b, ro⟩ n19_3 st = plainS (runOps Try.prog E b q19_3 (ops [true, false] Try.f19) st) := GE.region_step (id := 1) (GE.reg_of (by kernel_rfl)) (by kernel_rfl)
theorem n19_7s : codeB Try.prog E ⟨f, 51, b, ro⟩ n19_7 st = plainS (runOps Try.prog E b q19_7 (ops [true, true, false, false, false] Try.f19) st) := GE.region_step (id := 2) (GE.reg_of (by kernel_rfl)) (by kernel_rfl)
theorem n19_10s : codeB Try.prog E ⟨f, 51, b, ro⟩ n19_10 st = plainS (runOps Try.prog E b q19_10 (ops [true, true, false, false, true, false, false] Try.f19) st) := GE.region_step (id := 3) (GE.reg_of (by kernel_rfl)) (by kernel_rfl)
theorem n19_11s : codeB Try.prog LL ⟨19, 51, b, ro⟩ n19_11 st = normS b ⟨[4, 5, 6], [⟨4, 0, 1, true⟩, ⟨5, 0, 1, true⟩]⟩ .ret st := GE.ret_step (by kernel_rfl) (by kernel_rfl)
theorem n19_9s : codeB Try.prog E cx n19_9 st = thenS (codeB Try.prog E cx n19_10 st) (codeB Try.prog E cx n19_11) := GE.seq_step (by kernel_rfl)
theorem n19_13s : codeB Try.prog E ⟨f, 51, b, ro⟩ n19_13 st = plainS (runOps Try.prog E b q19_13 (ops [true, true, false, false, true, true, false] Try.f19) st) := GE.region_step (id := 4) (GE.reg_of (by kernel_rfl)) (by kernel_rfl)
theorem n19_16s : codeB Try.prog E ⟨f, 51, b, ro⟩ n19_16 st = plainS (runOps Try.prog E b q19_16 (ops [true, true, false, false, true, true, true, false, false] Try.f19) st) := GE.region_step (id := 5) (GE.reg_of (by kernel_rfl)) (by kernel_rfl)
theorem n19_17s : codeB Try.prog LL ⟨19, 51, b, ro⟩ n19_17 st = normS b ⟨[4, 5, 6], [⟨4, 0, 1, true⟩, ⟨5, 0, 1, true⟩]⟩ .ret st := GE.ret_step (by kernel_rfl) (by kernel_rfl)
theorem n19_15s : codeB Try.prog E cx n19_15 st = thenS (codeB Try.prog E cx n19_16 st) (codeB Try.prog E cx n19_17) := GE.seq_step (by kernel_rfl)
theorem n19_18s : codeB Try.prog E cx n19_18 st = some (.normal, st) := GE.skip_step (by kernel_rfl)
theorem n19_14s : codeB Try.prog E cx n19_14 st = condS (codeB Try.prog E cx n19_15) (codeB Try.prog E cx n19_18) (lk st.σ 19) st := GE.cond_step (c := .tmp 19) (by kernel_rfl)
theorem n19_12s : codeB Try.prog E cx n19_12 st = thenS (codeB Try.prog E cx n19_13 st) (codeB Try.prog E cx n19_14) := GE.seq_step (by kernel_rfl)
theorem n19_8s : codeB Try.prog E cx n19_8 st = condS (codeB Try.prog E cx n19_9) (codeB Try.prog E cx n19_12) (lk st.σ 15) st := GE.cond_step (c := .tmp 15) (by kernel_rfl)
theorem n19_6s : codeB Try.prog E cx n19_6 st = thenS (codeB Try.prog E cx n19_7 st) (codeB Try.prog E cx n19_8) := GE.seq_step (by kernel_rfl)
theorem n19_5s : codeB Try.prog E cx n19_5 st = blockS 0 (codeB Try.prog E cx n19_6 st) st := GE.block_step (by kernel_rfl)
theorem n19_21s : codeB Try.prog E ⟨f, 51, b, ro⟩ n19_21 st = plainS (runOps Try.prog E b q19_21 (ops [true, true, true, false, false] Try.f19) st) := GE.region_step (id := 6) (GE.reg_of (by kernel_rfl)) (by kernel_rfl)
theorem n19_25s : codeB Try.prog E ⟨f, 51, b, ro⟩ n19_25 st = plainS (runOps Try.prog E b q19_25 (ops [true, true, true, false, true, false, false, false] Try.f19) st) := GE.region_step (id := 7) (GE.reg_of (by kernel_rfl)) (by kernel_rfl)
theorem n19_28s : codeB Try.prog E cx n19_28 st = some (.normal, st) := GE.skip_step (by kernel_rfl)
theorem n19_29s : codeB Try.prog LL ⟨19, 51, b, ro⟩ n19_29 st = normS b ⟨[4, 5], [⟨4, 0, 1, true⟩, ⟨5, 0, 1, true⟩]⟩ (.exit 1) st := GE.exit_step (by kernel_rfl) (by kernel_rfl)
theorem n19_27s : codeB Try.prog E cx n19_27 st = condS (codeB Try.prog E cx n19_28) (codeB Try.prog E cx n19_29) (lk st.σ 28) st := GE.cond_step (c := .tmp 28) (by kernel_rfl)
theorem n19_33s : codeB Try.prog E ⟨f, 51, b, ro⟩ n19_33 st = plainS (runOps Try.prog E b q19_33 (ops [true, true, true, false, true, false, false, true, true, false, false, false] Try.f19) st) := GE.region_step (id := 8) (GE.reg_of (by kernel_rfl)) (by kernel_rfl)
theorem n19_36s : codeB Try.prog E ⟨f, 51, b, ro⟩ n19_36 st = plainS (runOps Try.prog E b q19_36 (ops [true, true, true, false, true, false, false, true, true, false, false, true, false, false] Try.f19) st) := GE.region_step (id := 9) (GE.reg_of (by kernel_rfl)) (by kernel_rfl)
theorem n19_38s : codeB Try.prog E ⟨f, 51, b, ro⟩ n19_38 st = plainS (runOps Try.prog E b q19_38 (ops [true, true, true, false, true, false, false, true, true, false, false, true, false, true, false] Try.f19) st) := GE.region_step (id := 10) (GE.reg_of (by kernel_rfl)) (by kernel_rfl)
theorem n19_39s : codeB Try.prog E cx n19_39 st = some (.normal, st) := GE.skip_step (by kernel_rfl)
theorem n19_37s : codeB Try.prog E cx n19_37 st = condS (codeB Try.prog E cx n19_38) (codeB Try.prog E cx n19_39) (lk st.σ 35) st := GE.cond_step (c := .tmp 35) (by kernel_rfl)
theorem n19_35s : codeB Try.prog E cx n19_35 st = thenS (codeB Try.prog E cx n19_36 st) (codeB Try.prog E cx n19_37) := GE.seq_step (by kernel_rfl)
theorem n19_41s : codeB Try.prog E ⟨f, 51, b, ro⟩ n19_41 st = plainS (runOps Try.prog E b q19_41 (ops [true, true, true, false, true, false, false, true, true, false, false, true, true, false] Try.f19) st) := GE.region_step (id := 11) (GE.reg_of (by kernel_rfl)) (by kernel_rfl)
theorem n19_43s : codeB Try.prog E ⟨f, 51, b, ro⟩ n19_43 st = plainS (runOps Try.prog E b q19_43 (ops [true, true, true, false, true, false, false, true, true, false, false, true, true, true, false] Try.f19) st) := GE.region_step (id := 12) (GE.reg_of (by kernel_rfl)) (by kernel_rfl)
theorem n19_44s : codeB Try.prog E cx n19_44 st = some (.normal, st) := GE.skip_step (by kernel_rfl)
theorem n19_42s : codeB Try.prog E cx n19_42 st = condS (codeB Try.prog E cx n19_43) (codeB Try.prog E cx n19_44) (lk st.σ 43) st := GE.cond_step (c := .tmp 43) (by kernel_rfl)
theorem n19_40s : codeB Try.prog E cx n19_40 st = thenS (codeB Try.prog E cx n19_41 st) (codeB Try.prog E cx n19_42) := GE.seq_step (by kernel_rfl)
theorem n19_34s : codeB Try.prog E cx n19_34 st = thenS (codeB Try.prog E cx n19_35 st) (codeB Try.prog E cx n19_40) := GE.seq_step (by kernel_rfl)
theorem n19_32s : codeB Try.prog E cx n19_32 st = thenS (codeB Try.prog E cx n19_33 st) (codeB Try.prog E cx n19_34) := GE.seq_step (by kernel_rfl)
theorem n19_31s : codeB Try.prog E cx n19_31 st = blockS 2 (codeB Try.prog E cx n19_32 st) st := GE.block_step (by kernel_rfl)
theorem n19_45s : codeB Try.prog E ⟨f, 51, b, ro⟩ n19_45 st = plainS (runOps Try.prog E b q19_45 (ops [true, true, true, false, true, false, false, true, true, true] Try.f19) st) := GE.region_step (id := 13) (GE.reg_of (by kernel_rfl)) (by kernel_rfl)
theorem n19_30s : codeB Try.prog E cx n19_30 st = thenS (codeB Try.prog E cx n19_31 st) (codeB Try.prog E cx n19_45) := GE.seq_step (by kernel_rfl)
theorem n19_26s : codeB Try.prog E cx n19_26 st = thenS (codeB Try.prog E cx n19_27 st) (codeB Try.prog E cx n19_30) := GE.seq_step (by kernel_rfl)
theorem n19_24s : codeB Try.prog E cx n19_24 st = thenS (codeB Try.prog E cx n19_25 st) (codeB Try.prog E cx n19_26) := GE.seq_step (by kernel_rfl)
theorem n19_23k : LL.kp (⟨19, 51, b, ro⟩ : Cx).fn (4 * rid n19_24 + 3) = some ⟨[1, 4, 5, 25, 26, 27], [⟨4, 0, 1, true⟩, ⟨5, 0, 1, true⟩, ⟨25, 0, 2, true⟩]⟩ := by kernel_rfl
theorem n19_23s : codeB Try.prog LL ⟨19, 51, b, ro⟩ n19_23 st = headS b ⟨[1, 4, 5, 25, 26, 27], [⟨4, 0, 1, true⟩, ⟨5, 0, 1, true⟩, ⟨25, 0, 2, true⟩]⟩ st (lpB Try.prog LL ⟨19, 51, b, ro⟩ n19_23 n19_24) := GE.lpB_step (by kernel_rfl) (n19_23k b ro)
theorem n19_23g : LL.code ⟨19, 51, b, ro⟩ n19_23 st = headS b ⟨[1, 4, 5, 25, 26, 27], [⟨4, 0, 1, true⟩, ⟨5, 0, 1, true⟩, ⟨25, 0, 2, true⟩]⟩ st (lpB Try.prog LL ⟨19, 51, b, ro⟩ n19_23 n19_24) := GE.lpB_again (by kernel_rfl) (n19_23k b ro)
theorem n19_22s : codeB Try.prog E cx n19_22 st = blockS 1 (codeB Try.prog E cx n19_23 st) st := GE.block_step (by kernel_rfl)
theorem n19_20s : codeB Try.prog E cx n19_20 st = thenS (codeB Try.prog E cx n19_21 st) (codeB Try.prog E cx n19_22) := GE.seq_step (by kernel_rfl)
theorem n19_47s : codeB Try.prog E ⟨f, 51, b, ro⟩ n19_47 st = plainS (runOps Try.prog E b q19_47 (ops [true, true, true, true, false] Try.f19) st) := GE.region_step (id := 14) (GE.reg_of (by kernel_rfl)) (by kernel_rfl)
theorem n19_48s : codeB Try.prog LL ⟨19, 51, b, ro⟩ n19_48 st = normS b ⟨[4, 5, 6], [⟨4, 0, 1, true⟩, ⟨5, 0, 1, true⟩]⟩ .ret st := GE.ret_step (by kernel_rfl) (by kernel_rfl)
theorem n19_46s : codeB Try.prog E cx n19_46 st = thenS (codeB Try.prog E cx n19_47 st) (codeB Try.prog E cx n19_48) := GE.seq_step (by kernel_rfl)
theorem n19_19s : codeB Try.prog E cx n19_19 st = thenS (codeB Try.prog E cx n19_20 st) (codeB Try.prog E cx n19_46) := GE.seq_step (by kernel_rfl)
theorem n19_4s : codeB Try.prog E cx n19_4 st = thenS (codeB Try.prog E cx n19_5 st) (codeB Try.prog E cx n19_19) := GE.seq_step (by kernel_rfl)
theorem n19_2s : codeB Try.prog E cx n19_2 st = thenS (codeB Try.prog E cx n19_3 st) (codeB Try.prog E cx n19_4) := GE.seq_step (by kernel_rfl)
theorem n19_0s : codeB Try.prog E cx n19_0 st = thenS (codeB Try.prog E cx n19_1 st) (codeB Try.prog E cx n19_2) := GE.seq_step (by kernel_rfl)
noncomputable def n20_0 : Code := bodyOf Try.f20
noncomputable def n20_1 : Code := cl n20_0
noncomputable def q20_1 : List Oper := opsOf n20_1
noncomputable def n20_2 : Code := cr n20_0
noncomputable def n20_3 : Code := cl n20_2
noncomputable def q20_3 : List Oper := opsOf n20_3
noncomputable def n20_4 : Code := cr n20_2
noncomputable def n20_5 : Code := cl n20_4
noncomputable def n20_6 : Code := cl n20_5
noncomputable def q20_6 : List Oper := opsOf n20_6
noncomputable def n20_7 : Code := cr n20_5
noncomputable def n20_8 : Code := cl n20_7
noncomputable def q20_8 : List Oper := opsOf n20_8
noncomputable def n20_9 : Code := cr n20_7
noncomputable def n20_10 : Code := cr n20_4
noncomputable def n20_11 : Code := cl n20_10
noncomputable def n20_12 : Code := cl n20_11
noncomputable def q20_12 : List Oper := opsOf n20_12
noncomputable def n20_13 : Code := cr n20_11
noncomputable def n20_14 : Code := cl n20_13
noncomputable def n20_15 : Code := cl n20_14
noncomputable def q20_15 : List Oper := opsOf n20_15
noncomputable def n20_16 : Code := cr n20_14
noncomputable def n20_17 : Code := cr n20_13
noncomputable def n20_18 : Code := cr n20_10
noncomputable def n20_19 : Code := cl n20_18
noncomputable def q20_19 : List Oper := opsOf n20_19
noncomputable def n20_20 : Code := cr n20_18
noncomputable def n20_21 : Code := cl n20_20
noncomputable def n20_22 : Code := cl n20_21
noncomputable def q20_22 : List Oper := opsOf n20_22
noncomputable def n20_23 : Code := cr n20_21
noncomputable def n20_24 : Code := cl n20_23
noncomputable def n20_25 : Code := cl n20_24
noncomputable def n20_26 : Code := cl n20_25
noncomputable def n20_27 : Code := cl n20_26
noncomputable def q20_27 : List Oper := opsOf n20_27
noncomputable def n20_28 : Code := cr n20_26
noncomputable def n20_29 : Code := cl n20_28
noncomputable def n20_30 : Code := cr n20_28
noncomputable def n20_31 : Code := cr n20_25
noncomputable def n20_32 : Code := cl n20_31
noncomputable def n20_33 : Code := cl n20_32
noncomputable def n20_34 : Code := cl n20_33
noncomputable def n20_35 : Code := cl n20_34
noncomputable def q20_35 : List Oper := opsOf n20_35
noncomputable def n20_36 : Code := cr n20_34
noncomputable def n20_37 : Code := cl n20_36
noncomputable def q20_37 : List Oper := opsOf n20_37
noncomputable def n20_38 : Code := cr n20_36
noncomputable def n20_39 : Code := cr n20_33
noncomputable def n20_40 : Code := cl n20_39
noncomputable def q20_40 : List Oper := opsOf n20_40
noncomputable def n20_41 : Code := cr n20_39
noncomputable def n20_42 : Code := cl n20_41
noncomputable def q20_42 : List Oper := opsOf n20_42
noncomputable def n20_43 : Code := cr n20_41
noncomputable def n20_44 : Code := cr n20_31
noncomputable def q20_44 : List Oper := opsOf n20_44
noncomputable def n20_45 : Code := cr n20_20
noncomputable def n20_46 : Code := cl n20_45
noncomputable def q20_46 : List Oper := opsOf n20_46
noncomputable def n20_47 : Code := cr n20_45
theorem body20 : Try.f20.body = some n20_0 := by kernel_rfl
theorem run20 (E : Ev) (args : List Value) (h : List Blk) (hl : args.length ≤ 59) : runB Try.prog E 20 args h = endS Try.prog [.tmp 4, .tmp 5, .tmp 6] h.length (codeB Try.prog E ⟨20, 59, h.length, none⟩ n20_0 ⟨enumT 0 args, h, []⟩) := GE.run_step Try.func20 body20 (by kernel_rfl) (by decide) (by kernel_rfl) hl
theorem n20_1s : codeB Try.prog E ⟨f, 59, b, ro⟩ n20_1 st = plainS (runOps Try.prog E b q20_1 (ops [false] Try.f20) st) := GE.region_step (id := 0) (GE.reg_of (by kernel_rfl)) (by kernel_rfl)
theorem n20_3s : codeB Try.prog E ⟨f, 59, b, ro⟩ n20_3 st = plainS (runOps Try.prog E b q20_3 (ops [true, false] Try.f20) st) := GE.region_step (id := 1) (GE.reg_of (by kernel_rfl)) (by kernel_rfl)
theorem q20_6g2 : gd q20_6 2 = some 19 := by kernel_rfl
theorem n20_6s : codeB Try.prog E ⟨f, 59, b, ro⟩ n20_6 st = plainS (runOps Try.prog E b q20_6 (ops [true, true, false, false] Try.f20) st) := GE.region_step (id := 2) (GE.reg_of (by kernel_rfl)) (by kernel_rfl)
theorem n20_8s : codeB Try.prog E ⟨f, 59, b, ro⟩ n20_8 st = plainS (runOps Try.prog E b q20_8 (ops [true, true, false, true, false] Try.f20) st) := GE.region_step (id := 3) (GE.reg_of (by kernel_rfl)) (by kernel_rfl)
theorem n20_9s : codeB Try.prog E cx n20_9 st = some (.normal, st) := GE.skip_step (by kernel_rfl)
theorem n20_7s : codeB Try.prog E cx n20_7 st = condS (codeB Try.prog E cx n20_8) (codeB Try.prog E cx n20_9) (lk st.σ 25) st := GE.cond_step (c := .tmp 25) (by kernel_rfl)
theorem n20_5s : codeB Try.prog E cx n20_5 st = thenS (codeB Try.prog E cx n20_6 st) (codeB Try.prog E cx n20_7) := GE.seq_step (by kernel_rfl)
theorem n20_12s : codeB Try.prog E ⟨f, 59, b, ro⟩ n20_12 st = plainS (runOps Try.prog E b q20_12 (ops [true, true, true, false, false] Try.f20) st) := GE.region_step (id := 4) (GE.reg_of (by kernel_rfl)) (by kernel_rfl)
theorem n20_15s : codeB Try.prog E ⟨f, 59, b, ro⟩ n20_15 st = plainS (runOps Try.prog E b q20_15 (ops [true, true, true, false, true, false, false] Try.f20) st) := GE.region_step (id := 5) (GE.reg_of (by kernel_rfl)) (by kernel_rfl)
theorem n20_16s : codeB Try.prog LL ⟨20, 59, b, ro⟩ n20_16 st = normS b ⟨[4, 5, 6], [⟨4, 0, 1, true⟩, ⟨5, 0, 1, true⟩]⟩ .ret st := GE.ret_step (by kernel_rfl) (by kernel_rfl)
theorem n20_14s : codeB Try.prog E cx n20_14 st = thenS (codeB Try.prog E cx n20_15 st) (codeB Try.prog E cx n20_16) := GE.seq_step (by kernel_rfl)
theorem n20_17s : codeB Try.prog E cx n20_17 st = some (.normal, st) := GE.skip_step (by kernel_rfl)
theorem n20_13s : codeB Try.prog E cx n20_13 st = condS (codeB Try.prog E cx n20_14) (codeB Try.prog E cx n20_17) (lk st.σ 27) st := GE.cond_step (c := .tmp 27) (by kernel_rfl)
theorem n20_11s : codeB Try.prog E cx n20_11 st = thenS (codeB Try.prog E cx n20_12 st) (codeB Try.prog E cx n20_13) := GE.seq_step (by kernel_rfl)
theorem n20_19s : codeB Try.prog E ⟨f, 59, b, ro⟩ n20_19 st = plainS (runOps Try.prog E b q20_19 (ops [true, true, true, true, false] Try.f20) st) := GE.region_step (id := 6) (GE.reg_of (by kernel_rfl)) (by kernel_rfl)
theorem n20_22s : codeB Try.prog E ⟨f, 59, b, ro⟩ n20_22 st = plainS (runOps Try.prog E b q20_22 (ops [true, true, true, true, true, false, false] Try.f20) st) := GE.region_step (id := 7) (GE.reg_of (by kernel_rfl)) (by kernel_rfl)
theorem n20_27s : codeB Try.prog E ⟨f, 59, b, ro⟩ n20_27 st = plainS (runOps Try.prog E b q20_27 (ops [true, true, true, true, true, false, true, false, false, false, false] Try.f20) st) := GE.region_step (id := 8) (GE.reg_of (by kernel_rfl)) (by kernel_rfl)
theorem n20_29s : codeB Try.prog E cx n20_29 st = some (.normal, st) := GE.skip_step (by kernel_rfl)
theorem n20_30s : codeB Try.prog LL ⟨20, 59, b, ro⟩ n20_30 st = normS b ⟨[9, 10], [⟨9, 0, 1, true⟩, ⟨10, 0, 1, true⟩]⟩ (.exit 0) st := GE.exit_step (by kernel_rfl) (by kernel_rfl)
theorem n20_28s : codeB Try.prog E cx n20_28 st = condS (codeB Try.prog E cx n20_29) (codeB Try.prog E cx n20_30) (lk st.σ 32) st := GE.cond_step (c := .tmp 32) (by kernel_rfl)
theorem n20_26s : codeB Try.prog E cx n20_26 st = thenS (codeB Try.prog E cx n20_27 st) (codeB Try.prog E cx n20_28) := GE.seq_step (by kernel_rfl)
theorem n20_35s : codeB Try.prog E ⟨f, 59, b, ro⟩ n20_35 st = plainS (runOps Try.prog E b q20_35 (ops [true, true, true, true, true, false, true, false, false, true, false, false, false, false] Try.f20) st) := GE.region_step (id := 10) (GE.reg_of (by kernel_rfl)) (by kernel_rfl)
theorem n20_37s : codeB Try.prog E ⟨f, 59, b, ro⟩ n20_37 st = plainS (runOps Try.prog E b q20_37 (ops [true, true, true, true, true, false, true, false, false, true, false, false, false, true, false] Try.f20) st) := GE.region_step (id := 11) (GE.reg_of (by kernel_rfl)) (by kernel_rfl)
theorem n20_38s : codeB Try.prog E cx n20_38 st = some (.normal, st) := GE.skip_step (by kernel_rfl)
theorem n20_36s : codeB Try.prog E cx n20_36 st = condS (codeB Try.prog E cx n20_37) (codeB Try.prog E cx n20_38) (lk st.σ 41) st := GE.cond_step (c := .tmp 41) (by kernel_rfl)
theorem n20_34s : codeB Try.prog E cx n20_34 st = thenS (codeB Try.prog E cx n20_35 st) (codeB Try.prog E cx n20_36) := GE.seq_step (by kernel_rfl)
theorem n20_40s : codeB Try.prog E ⟨f, 59, b, ro⟩ n20_40 st = plainS (runOps Try.prog E b q20_40 (ops [true, true, true, true, true, false, true, false, false, true, false, false, true, false] Try.f20) st) := GE.region_step (id := 12) (GE.reg_of (by kernel_rfl)) (by kernel_rfl)
theorem n20_42s : codeB Try.prog E ⟨f, 59, b, ro⟩ n20_42 st = plainS (runOps Try.prog E b q20_42 (ops [true, true, true, true, true, false, true, false, false, true, false, false, true, true, false] Try.f20) st) := GE.region_step (id := 13) (GE.reg_of (by kernel_rfl)) (by kernel_rfl)
theorem n20_43s : codeB Try.prog E cx n20_43 st = some (.normal, st) := GE.skip_step (by kernel_rfl)
theorem n20_41s : codeB Try.prog E cx n20_41 st = condS (codeB Try.prog E cx n20_42) (codeB Try.prog E cx n20_43) (lk st.σ 52) st := GE.cond_step (c := .tmp 52) (by kernel_rfl)
theorem n20_39s : codeB Try.prog E cx n20_39 st = thenS (codeB Try.prog E cx n20_40 st) (codeB Try.prog E cx n20_41) := GE.seq_step (by kernel_rfl)
theorem n20_33s : codeB Try.prog E cx n20_33 st = thenS (codeB Try.prog E cx n20_34 st) (codeB Try.prog E cx n20_39) := GE.seq_step (by kernel_rfl)
theorem n20_32s : codeB Try.prog E cx n20_32 st = blockS 1 (codeB Try.prog E cx n20_33 st) st := GE.block_step (by kernel_rfl)
theorem n20_44s : codeB Try.prog E ⟨f, 59, b, ro⟩ n20_44 st = plainS (runOps Try.prog E b q20_44 (ops [true, true, true, true, true, false, true, false, false, true, true] Try.f20) st) := GE.region_step (id := 9) (GE.reg_of (by kernel_rfl)) (by kernel_rfl)
theorem n20_31s : codeB Try.prog E cx n20_31 st = thenS (codeB Try.prog E cx n20_32 st) (codeB Try.prog E cx n20_44) := GE.seq_step (by kernel_rfl)
theorem n20_25s : codeB Try.prog E cx n20_25 st = thenS (codeB Try.prog E cx n20_26 st) (codeB Try.prog E cx n20_31) := GE.seq_step (by kernel_rfl)
theorem n20_24k : LL.kp (⟨20, 59, b, ro⟩ : Cx).fn (4 * rid n20_25 + 3) = some ⟨[0, 1, 7, 9, 10, 11], [⟨0, 0, 2, true⟩, ⟨7, 0, 2, true⟩, ⟨9, 0, 1, true⟩, ⟨10, 0, 1, true⟩]⟩ := by kernel_rfl
theorem n20_24s : codeB Try.prog LL ⟨20, 59, b, ro⟩ n20_24 st = headS b ⟨[0, 1, 7, 9, 10, 11], [⟨0, 0, 2, true⟩, ⟨7, 0, 2, true⟩, ⟨9, 0, 1, true⟩, ⟨10, 0, 1, true⟩]⟩ st (lpB Try.prog LL ⟨20, 59, b, ro⟩ n20_24 n20_25) := GE.lpB_step (by kernel_rfl) (n20_24k b ro)
theorem n20_24g : LL.code ⟨20, 59, b, ro⟩ n20_24 st = headS b ⟨[0, 1, 7, 9, 10, 11], [⟨0, 0, 2, true⟩, ⟨7, 0, 2, true⟩, ⟨9, 0, 1, true⟩, ⟨10, 0, 1, true⟩]⟩ st (lpB Try.prog LL ⟨20, 59, b, ro⟩ n20_24 n20_25) := GE.lpB_again (by kernel_rfl) (n20_24k b ro)
theorem n20_23s : codeB Try.prog E cx n20_23 st = blockS 0 (codeB Try.prog E cx n20_24 st) st := GE.block_step (by kernel_rfl)
theorem n20_21s : codeB Try.prog E cx n20_21 st = thenS (codeB Try.prog E cx n20_22 st) (codeB Try.prog E cx n20_23) := GE.seq_step (by kernel_rfl)
theorem n20_46s : codeB Try.prog E ⟨f, 59, b, ro⟩ n20_46 st = plainS (runOps Try.prog E b q20_46 (ops [true, true, true, true, true, true, false] Try.f20) st) := GE.region_step (id := 14) (GE.reg_of (by kernel_rfl)) (by kernel_rfl)
theorem n20_47s : codeB Try.prog LL ⟨20, 59, b, ro⟩ n20_47 st = normS b ⟨[4, 5, 6], [⟨4, 0, 1, true⟩, ⟨5, 0, 1, true⟩]⟩ .ret st := GE.ret_step (by kernel_rfl) (by kernel_rfl)
theorem n20_45s : codeB Try.prog E cx n20_45 st = thenS (codeB Try.prog E cx n20_46 st) (codeB Try.prog E cx n20_47) := GE.seq_step (by kernel_rfl)
theorem n20_20s : codeB Try.prog E cx n20_20 st = thenS (codeB Try.prog E cx n20_21 st) (codeB Try.prog E cx n20_45) := GE.seq_step (by kernel_rfl)
theorem n20_18s : codeB Try.prog E cx n20_18 st = thenS (codeB Try.prog E cx n20_19 st) (codeB Try.prog E cx n20_20) := GE.seq_step (by kernel_rfl)
theorem n20_10s : codeB Try.prog E cx n20_10 st = thenS (codeB Try.prog E cx n20_11 st) (codeB Try.prog E cx n20_18) := GE.seq_step (by kernel_rfl)
theorem n20_4s : codeB Try.prog E cx n20_4 st = thenS (codeB Try.prog E cx n20_5 st) (codeB Try.prog E cx n20_10) := GE.seq_step (by kernel_rfl)
theorem n20_2s : codeB Try.prog E cx n20_2 st = thenS (codeB Try.prog E cx n20_3 st) (codeB Try.prog E cx n20_4) := GE.seq_step (by kernel_rfl)
theorem n20_0s : codeB Try.prog E cx n20_0 st = thenS (codeB Try.prog E cx n20_1 st) (codeB Try.prog E cx n20_2) := GE.seq_step (by kernel_rfl)
noncomputable def n21_0 : Code := bodyOf Try.f21
noncomputable def n21_1 : Code := cl n21_0
noncomputable def q21_1 : List Oper := opsOf n21_1
noncomputable def n21_2 : Code := cr n21_0
noncomputable def n21_3 : Code := cl n21_2
noncomputable def n21_4 : Code := cl n21_3
noncomputable def q21_4 : List Oper := opsOf n21_4
noncomputable def n21_5 : Code := cr n21_3
noncomputable def n21_6 : Code := cl n21_5
noncomputable def n21_7 : Code := cl n21_6
noncomputable def q21_7 : List Oper := opsOf n21_7
noncomputable def n21_8 : Code := cr n21_6
noncomputable def n21_9 : Code := cr n21_5
noncomputable def n21_10 : Code := cr n21_2
noncomputable def n21_11 : Code := cl n21_10
noncomputable def n21_12 : Code := cl n21_11
noncomputable def q21_12 : List Oper := opsOf n21_12
noncomputable def n21_13 : Code := cr n21_11
noncomputable def n21_14 : Code := cl n21_13
noncomputable def n21_15 : Code := cl n21_14
noncomputable def n21_16 : Code := cl n21_15
noncomputable def n21_17 : Code := cl n21_16
noncomputable def q21_17 : List Oper := opsOf n21_17
noncomputable def n21_18 : Code := cr n21_16
noncomputable def n21_19 : Code := cl n21_18
noncomputable def n21_20 : Code := cr n21_18
noncomputable def n21_21 : Code := cr n21_15
noncomputable def n21_22 : Code := cl n21_21
noncomputable def n21_23 : Code := cl n21_22
noncomputable def n21_24 : Code := cl n21_23
noncomputable def q21_24 : List Oper := opsOf n21_24
noncomputable def n21_25 : Code := cr n21_23
noncomputable def n21_26 : Code := cl n21_25
noncomputable def n21_27 : Code := cl n21_26
noncomputable def q21_27 : List Oper := opsOf n21_27
noncomputable def n21_28 : Code := cr n21_26
noncomputable def n21_29 : Code := cr n21_25
noncomputable def n21_30 : Code := cr n21_21
noncomputable def q21_30 : List Oper := opsOf n21_30
noncomputable def n21_31 : Code := cr n21_10
noncomputable def n21_32 : Code := cl n21_31
noncomputable def q21_32 : List Oper := opsOf n21_32
noncomputable def n21_33 : Code := cr n21_31
theorem body21 : Try.f21.body = some n21_0 := by kernel_rfl
theorem run21 (E : Ev) (args : List Value) (h : List Blk) (hl : args.length ≤ 26) : runB Try.prog E 21 args h = endS Try.prog [.tmp 4] h.length (codeB Try.prog E ⟨21, 26, h.length, none⟩ n21_0 ⟨enumT 0 args, h, []⟩) := GE.run_step Try.func21 body21 (by kernel_rfl) (by decide) (by kernel_rfl) hl
theorem n21_1s : codeB Try.prog E ⟨f, 26, b, ro⟩ n21_1 st = plainS (runOps Try.prog E b q21_1 (ops [false] Try.f21) st) := GE.region_step (id := 0) (GE.reg_of (by kernel_rfl)) (by kernel_rfl)
theorem n21_4s : codeB Try.prog E ⟨f, 26, b, ro⟩ n21_4 st = plainS (runOps Try.prog E b q21_4 (ops [true, false, false] Try.f21) st) := GE.region_step (id := 1) (GE.reg_of (by kernel_rfl)) (by kernel_rfl)
theorem n21_7s : codeB Try.prog E ⟨f, 26, b, ro⟩ n21_7 st = plainS (runOps Try.prog E b q21_7 (ops [true, false, true, false, false] Try.f21) st) := GE.region_step (id := 2) (GE.reg_of (by kernel_rfl)) (by kernel_rfl)
theorem n21_8s : codeB Try.prog LL ⟨21, 26, b, ro⟩ n21_8 st = normS b ⟨[4], []⟩ .ret st := GE.ret_step (by kernel_rfl) (by kernel_rfl)
theorem n21_6s : codeB Try.prog E cx n21_6 st = thenS (codeB Try.prog E cx n21_7 st) (codeB Try.prog E cx n21_8) := GE.seq_step (by kernel_rfl)
theorem n21_9s : codeB Try.prog E cx n21_9 st = some (.normal, st) := GE.skip_step (by kernel_rfl)
theorem n21_5s : codeB Try.prog E cx n21_5 st = condS (codeB Try.prog E cx n21_6) (codeB Try.prog E cx n21_9) (lk st.σ 10) st := GE.cond_step (c := .tmp 10) (by kernel_rfl)
theorem n21_3s : codeB Try.prog E cx n21_3 st = thenS (codeB Try.prog E cx n21_4 st) (codeB Try.prog E cx n21_5) := GE.seq_step (by kernel_rfl)
theorem n21_12s : codeB Try.prog E ⟨f, 26, b, ro⟩ n21_12 st = plainS (runOps Try.prog E b q21_12 (ops [true, true, false, false] Try.f21) st) := GE.region_step (id := 3) (GE.reg_of (by kernel_rfl)) (by kernel_rfl)
theorem n21_17s : codeB Try.prog E ⟨f, 26, b, ro⟩ n21_17 st = plainS (runOps Try.prog E b q21_17 (ops [true, true, false, true, false, false, false, false] Try.f21) st) := GE.region_step (id := 4) (GE.reg_of (by kernel_rfl)) (by kernel_rfl)
theorem n21_19s : codeB Try.prog E cx n21_19 st = some (.normal, st) := GE.skip_step (by kernel_rfl)
theorem n21_20s : codeB Try.prog LL ⟨21, 26, b, ro⟩ n21_20 st = normS b ⟨[], []⟩ (.exit 0) st := GE.exit_step (by kernel_rfl) (by kernel_rfl)
theorem n21_18s : codeB Try.prog E cx n21_18 st = condS (codeB Try.prog E cx n21_19) (codeB Try.prog E cx n21_20) (lk st.σ 14) st := GE.cond_step (c := .tmp 14) (by kernel_rfl)
theorem n21_16s : codeB Try.prog E cx n21_16 st = thenS (codeB Try.prog E cx n21_17 st) (codeB Try.prog E cx n21_18) := GE.seq_step (by kernel_rfl)
theorem n21_24s : codeB Try.prog E ⟨f, 26, b, ro⟩ n21_24 st = drawS [0, 0, 3, 7, 0, 0, 48, 112, 255] (runOpsF Try.prog E b q21_24 (ops [true, true, false, true, false, false, true, false, false, false] Try.f21) st) := GE.draw_step (id := 6) (GE.reg_of (by kernel_rfl)) (by kernel_rfl) (by kernel_rfl) (by kernel_rfl)
theorem n21_27s : codeB Try.prog E ⟨f, 26, b, ro⟩ n21_27 st = plainS (runOps Try.prog E b q21_27 (ops [true, true, false, true, false, false, true, false, false, true, false, false] Try.f21) st) := GE.region_step (id := 7) (GE.reg_of (by kernel_rfl)) (by kernel_rfl)
theorem n21_28s : codeB Try.prog LL ⟨21, 26, b, ro⟩ n21_28 st = normS b ⟨[4], []⟩ .ret st := GE.ret_step (by kernel_rfl) (by kernel_rfl)
theorem n21_26s : codeB Try.prog E cx n21_26 st = thenS (codeB Try.prog E cx n21_27 st) (codeB Try.prog E cx n21_28) := GE.seq_step (by kernel_rfl)
theorem n21_29s : codeB Try.prog E cx n21_29 st = some (.normal, st) := GE.skip_step (by kernel_rfl)
theorem n21_25s : codeB Try.prog E cx n21_25 st = condS (codeB Try.prog E cx n21_26) (codeB Try.prog E cx n21_29) (lk st.σ 25) st := GE.cond_step (c := .tmp 25) (by kernel_rfl)
theorem n21_23s : codeB Try.prog E cx n21_23 st = thenS (codeB Try.prog E cx n21_24 st) (codeB Try.prog E cx n21_25) := GE.seq_step (by kernel_rfl)
theorem n21_22s : codeB Try.prog E cx n21_22 st = blockS 1 (codeB Try.prog E cx n21_23 st) st := GE.block_step (by kernel_rfl)
theorem n21_30s : codeB Try.prog E ⟨f, 26, b, ro⟩ n21_30 st = plainS (runOps Try.prog E b q21_30 (ops [true, true, false, true, false, false, true, true] Try.f21) st) := GE.region_step (id := 5) (GE.reg_of (by kernel_rfl)) (by kernel_rfl)
theorem n21_21s : codeB Try.prog E cx n21_21 st = thenS (codeB Try.prog E cx n21_22 st) (codeB Try.prog E cx n21_30) := GE.seq_step (by kernel_rfl)
theorem n21_15s : codeB Try.prog E cx n21_15 st = thenS (codeB Try.prog E cx n21_16 st) (codeB Try.prog E cx n21_21) := GE.seq_step (by kernel_rfl)
theorem n21_14k : LL.kp (⟨21, 26, b, ro⟩ : Cx).fn (4 * rid n21_15 + 3) = some ⟨[0, 1, 5], [⟨0, 0, 1, true⟩, ⟨1, 0, 1, true⟩]⟩ := by kernel_rfl
theorem n21_14s : codeB Try.prog LL ⟨21, 26, b, ro⟩ n21_14 st = headS b ⟨[0, 1, 5], [⟨0, 0, 1, true⟩, ⟨1, 0, 1, true⟩]⟩ st (lpB Try.prog LL ⟨21, 26, b, ro⟩ n21_14 n21_15) := GE.lpB_step (by kernel_rfl) (n21_14k b ro)
theorem n21_14g : LL.code ⟨21, 26, b, ro⟩ n21_14 st = headS b ⟨[0, 1, 5], [⟨0, 0, 1, true⟩, ⟨1, 0, 1, true⟩]⟩ st (lpB Try.prog LL ⟨21, 26, b, ro⟩ n21_14 n21_15) := GE.lpB_again (by kernel_rfl) (n21_14k b ro)
theorem n21_13s : codeB Try.prog E cx n21_13 st = blockS 0 (codeB Try.prog E cx n21_14 st) st := GE.block_step (by kernel_rfl)
theorem n21_11s : codeB Try.prog E cx n21_11 st = thenS (codeB Try.prog E cx n21_12 st) (codeB Try.prog E cx n21_13) := GE.seq_step (by kernel_rfl)
theorem n21_32s : codeB Try.prog E ⟨f, 26, b, ro⟩ n21_32 st = plainS (runOps Try.prog E b q21_32 (ops [true, true, true, false] Try.f21) st) := GE.region_step (id := 8) (GE.reg_of (by kernel_rfl)) (by kernel_rfl)
theorem n21_33s : codeB Try.prog LL ⟨21, 26, b, ro⟩ n21_33 st = normS b ⟨[4], []⟩ .ret st := GE.ret_step (by kernel_rfl) (by kernel_rfl)
theorem n21_31s : codeB Try.prog E cx n21_31 st = thenS (codeB Try.prog E cx n21_32 st) (codeB Try.prog E cx n21_33) := GE.seq_step (by kernel_rfl)
theorem n21_10s : codeB Try.prog E cx n21_10 st = thenS (codeB Try.prog E cx n21_11 st) (codeB Try.prog E cx n21_31) := GE.seq_step (by kernel_rfl)
theorem n21_2s : codeB Try.prog E cx n21_2 st = thenS (codeB Try.prog E cx n21_3 st) (codeB Try.prog E cx n21_10) := GE.seq_step (by kernel_rfl)
theorem n21_0s : codeB Try.prog E cx n21_0 st = thenS (codeB Try.prog E cx n21_1 st) (codeB Try.prog E cx n21_2) := GE.seq_step (by kernel_rfl)
noncomputable def n22_0 : Code := bodyOf Try.f22
noncomputable def n22_1 : Code := cl n22_0
noncomputable def q22_1 : List Oper := opsOf n22_1
noncomputable def n22_2 : Code := cr n22_0
noncomputable def n22_3 : Code := cl n22_2
noncomputable def n22_4 : Code := cl n22_3
noncomputable def q22_4 : List Oper := opsOf n22_4
noncomputable def n22_5 : Code := cr n22_3
noncomputable def n22_6 : Code := cl n22_5
noncomputable def n22_7 : Code := cl n22_6
noncomputable def q22_7 : List Oper := opsOf n22_7
noncomputable def n22_8 : Code := cr n22_6
noncomputable def n22_9 : Code := cr n22_5
noncomputable def n22_10 : Code := cr n22_2
noncomputable def n22_11 : Code := cl n22_10
noncomputable def n22_12 : Code := cl n22_11
noncomputable def q22_12 : List Oper := opsOf n22_12
noncomputable def n22_13 : Code := cr n22_11
noncomputable def n22_14 : Code := cl n22_13
noncomputable def n22_15 : Code := cl n22_14
noncomputable def n22_16 : Code := cl n22_15
noncomputable def n22_17 : Code := cl n22_16
noncomputable def q22_17 : List Oper := opsOf n22_17
noncomputable def n22_18 : Code := cr n22_16
noncomputable def n22_19 : Code := cl n22_18
noncomputable def n22_20 : Code := cr n22_18
noncomputable def n22_21 : Code := cr n22_15
noncomputable def n22_22 : Code := cl n22_21
noncomputable def n22_23 : Code := cl n22_22
noncomputable def n22_24 : Code := cl n22_23
noncomputable def q22_24 : List Oper := opsOf n22_24
noncomputable def n22_25 : Code := cr n22_23
noncomputable def n22_26 : Code := cl n22_25
noncomputable def n22_27 : Code := cl n22_26
noncomputable def q22_27 : List Oper := opsOf n22_27
noncomputable def n22_28 : Code := cr n22_26
noncomputable def n22_29 : Code := cr n22_25
noncomputable def n22_30 : Code := cr n22_21
noncomputable def q22_30 : List Oper := opsOf n22_30
noncomputable def n22_31 : Code := cr n22_10
noncomputable def n22_32 : Code := cl n22_31
noncomputable def q22_32 : List Oper := opsOf n22_32
noncomputable def n22_33 : Code := cr n22_31
theorem body22 : Try.f22.body = some n22_0 := by kernel_rfl
theorem run22 (E : Ev) (args : List Value) (h : List Blk) (hl : args.length ≤ 26) : runB Try.prog E 22 args h = endS Try.prog [.tmp 4] h.length (codeB Try.prog E ⟨22, 26, h.length, none⟩ n22_0 ⟨enumT 0 args, h, []⟩) := GE.run_step Try.func22 body22 (by kernel_rfl) (by decide) (by kernel_rfl) hl
theorem n22_1s : codeB Try.prog E ⟨f, 26, b, ro⟩ n22_1 st = plainS (runOps Try.prog E b q22_1 (ops [false] Try.f22) st) := GE.region_step (id := 0) (GE.reg_of (by kernel_rfl)) (by kernel_rfl)
theorem n22_4s : codeB Try.prog E ⟨f, 26, b, ro⟩ n22_4 st = plainS (runOps Try.prog E b q22_4 (ops [true, false, false] Try.f22) st) := GE.region_step (id := 1) (GE.reg_of (by kernel_rfl)) (by kernel_rfl)
theorem n22_7s : codeB Try.prog E ⟨f, 26, b, ro⟩ n22_7 st = plainS (runOps Try.prog E b q22_7 (ops [true, false, true, false, false] Try.f22) st) := GE.region_step (id := 2) (GE.reg_of (by kernel_rfl)) (by kernel_rfl)
theorem n22_8s : codeB Try.prog LL ⟨22, 26, b, ro⟩ n22_8 st = normS b ⟨[4], []⟩ .ret st := GE.ret_step (by kernel_rfl) (by kernel_rfl)
theorem n22_6s : codeB Try.prog E cx n22_6 st = thenS (codeB Try.prog E cx n22_7 st) (codeB Try.prog E cx n22_8) := GE.seq_step (by kernel_rfl)
theorem n22_9s : codeB Try.prog E cx n22_9 st = some (.normal, st) := GE.skip_step (by kernel_rfl)
theorem n22_5s : codeB Try.prog E cx n22_5 st = condS (codeB Try.prog E cx n22_6) (codeB Try.prog E cx n22_9) (lk st.σ 10) st := GE.cond_step (c := .tmp 10) (by kernel_rfl)
theorem n22_3s : codeB Try.prog E cx n22_3 st = thenS (codeB Try.prog E cx n22_4 st) (codeB Try.prog E cx n22_5) := GE.seq_step (by kernel_rfl)
theorem n22_12s : codeB Try.prog E ⟨f, 26, b, ro⟩ n22_12 st = plainS (runOps Try.prog E b q22_12 (ops [true, true, false, false] Try.f22) st) := GE.region_step (id := 3) (GE.reg_of (by kernel_rfl)) (by kernel_rfl)
theorem n22_17s : codeB Try.prog E ⟨f, 26, b, ro⟩ n22_17 st = plainS (runOps Try.prog E b q22_17 (ops [true, true, false, true, false, false, false, false] Try.f22) st) := GE.region_step (id := 4) (GE.reg_of (by kernel_rfl)) (by kernel_rfl)
theorem n22_19s : codeB Try.prog E cx n22_19 st = some (.normal, st) := GE.skip_step (by kernel_rfl)
theorem n22_20s : codeB Try.prog LL ⟨22, 26, b, ro⟩ n22_20 st = normS b ⟨[], []⟩ (.exit 0) st := GE.exit_step (by kernel_rfl) (by kernel_rfl)
theorem n22_18s : codeB Try.prog E cx n22_18 st = condS (codeB Try.prog E cx n22_19) (codeB Try.prog E cx n22_20) (lk st.σ 14) st := GE.cond_step (c := .tmp 14) (by kernel_rfl)
theorem n22_16s : codeB Try.prog E cx n22_16 st = thenS (codeB Try.prog E cx n22_17 st) (codeB Try.prog E cx n22_18) := GE.seq_step (by kernel_rfl)
theorem n22_24s : codeB Try.prog E ⟨f, 26, b, ro⟩ n22_24 st = drawS [0, 0, 3, 7, 0, 0, 48, 112, 255] (runOpsF Try.prog E b q22_24 (ops [true, true, false, true, false, false, true, false, false, false] Try.f22) st) := GE.draw_step (id := 6) (GE.reg_of (by kernel_rfl)) (by kernel_rfl) (by kernel_rfl) (by kernel_rfl)
theorem n22_27s : codeB Try.prog E ⟨f, 26, b, ro⟩ n22_27 st = plainS (runOps Try.prog E b q22_27 (ops [true, true, false, true, false, false, true, false, false, true, false, false] Try.f22) st) := GE.region_step (id := 7) (GE.reg_of (by kernel_rfl)) (by kernel_rfl)
theorem n22_28s : codeB Try.prog LL ⟨22, 26, b, ro⟩ n22_28 st = normS b ⟨[4], []⟩ .ret st := GE.ret_step (by kernel_rfl) (by kernel_rfl)
theorem n22_26s : codeB Try.prog E cx n22_26 st = thenS (codeB Try.prog E cx n22_27 st) (codeB Try.prog E cx n22_28) := GE.seq_step (by kernel_rfl)
theorem n22_29s : codeB Try.prog E cx n22_29 st = some (.normal, st) := GE.skip_step (by kernel_rfl)
theorem n22_25s : codeB Try.prog E cx n22_25 st = condS (codeB Try.prog E cx n22_26) (codeB Try.prog E cx n22_29) (lk st.σ 25) st := GE.cond_step (c := .tmp 25) (by kernel_rfl)
theorem n22_23s : codeB Try.prog E cx n22_23 st = thenS (codeB Try.prog E cx n22_24 st) (codeB Try.prog E cx n22_25) := GE.seq_step (by kernel_rfl)
theorem n22_22s : codeB Try.prog E cx n22_22 st = blockS 1 (codeB Try.prog E cx n22_23 st) st := GE.block_step (by kernel_rfl)
theorem n22_30s : codeB Try.prog E ⟨f, 26, b, ro⟩ n22_30 st = plainS (runOps Try.prog E b q22_30 (ops [true, true, false, true, false, false, true, true] Try.f22) st) := GE.region_step (id := 5) (GE.reg_of (by kernel_rfl)) (by kernel_rfl)
theorem n22_21s : codeB Try.prog E cx n22_21 st = thenS (codeB Try.prog E cx n22_22 st) (codeB Try.prog E cx n22_30) := GE.seq_step (by kernel_rfl)
theorem n22_15s : codeB Try.prog E cx n22_15 st = thenS (codeB Try.prog E cx n22_16 st) (codeB Try.prog E cx n22_21) := GE.seq_step (by kernel_rfl)
theorem n22_14k : LL.kp (⟨22, 26, b, ro⟩ : Cx).fn (4 * rid n22_15 + 3) = some ⟨[0, 1, 5], [⟨0, 0, 2, true⟩, ⟨1, 0, 2, true⟩]⟩ := by kernel_rfl
theorem n22_14s : codeB Try.prog LL ⟨22, 26, b, ro⟩ n22_14 st = headS b ⟨[0, 1, 5], [⟨0, 0, 2, true⟩, ⟨1, 0, 2, true⟩]⟩ st (lpB Try.prog LL ⟨22, 26, b, ro⟩ n22_14 n22_15) := GE.lpB_step (by kernel_rfl) (n22_14k b ro)
theorem n22_14g : LL.code ⟨22, 26, b, ro⟩ n22_14 st = headS b ⟨[0, 1, 5], [⟨0, 0, 2, true⟩, ⟨1, 0, 2, true⟩]⟩ st (lpB Try.prog LL ⟨22, 26, b, ro⟩ n22_14 n22_15) := GE.lpB_again (by kernel_rfl) (n22_14k b ro)
theorem n22_13s : codeB Try.prog E cx n22_13 st = blockS 0 (codeB Try.prog E cx n22_14 st) st := GE.block_step (by kernel_rfl)
theorem n22_11s : codeB Try.prog E cx n22_11 st = thenS (codeB Try.prog E cx n22_12 st) (codeB Try.prog E cx n22_13) := GE.seq_step (by kernel_rfl)
theorem n22_32s : codeB Try.prog E ⟨f, 26, b, ro⟩ n22_32 st = plainS (runOps Try.prog E b q22_32 (ops [true, true, true, false] Try.f22) st) := GE.region_step (id := 8) (GE.reg_of (by kernel_rfl)) (by kernel_rfl)
theorem n22_33s : codeB Try.prog LL ⟨22, 26, b, ro⟩ n22_33 st = normS b ⟨[4], []⟩ .ret st := GE.ret_step (by kernel_rfl) (by kernel_rfl)
theorem n22_31s : codeB Try.prog E cx n22_31 st = thenS (codeB Try.prog E cx n22_32 st) (codeB Try.prog E cx n22_33) := GE.seq_step (by kernel_rfl)
theorem n22_10s : codeB Try.prog E cx n22_10 st = thenS (codeB Try.prog E cx n22_11 st) (codeB Try.prog E cx n22_31) := GE.seq_step (by kernel_rfl)
theorem n22_2s : codeB Try.prog E cx n22_2 st = thenS (codeB Try.prog E cx n22_3 st) (codeB Try.prog E cx n22_10) := GE.seq_step (by kernel_rfl)
theorem n22_0s : codeB Try.prog E cx n22_0 st = thenS (codeB Try.prog E cx n22_1 st) (codeB Try.prog E cx n22_2) := GE.seq_step (by kernel_rfl)
noncomputable def n45_0 : Code := bodyOf Try.f45
noncomputable def n45_1 : Code := cl n45_0
noncomputable def q45_1 : List Oper := opsOf n45_1
noncomputable def n45_2 : Code := cr n45_0
noncomputable def n45_3 : Code := cl n45_2
noncomputable def n45_4 : Code := cl n45_3
noncomputable def n45_5 : Code := cl n45_4
noncomputable def q45_5 : List Oper := opsOf n45_5
noncomputable def n45_6 : Code := cr n45_4
noncomputable def n45_7 : Code := cl n45_6
noncomputable def n45_8 : Code := cl n45_7
noncomputable def q45_8 : List Oper := opsOf n45_8
noncomputable def n45_9 : Code := cr n45_7
noncomputable def n45_10 : Code := cr n45_6
noncomputable def n45_11 : Code := cl n45_10
noncomputable def q45_11 : List Oper := opsOf n45_11
noncomputable def n45_12 : Code := cr n45_10
noncomputable def n45_13 : Code := cl n45_12
noncomputable def n45_14 : Code := cl n45_13
noncomputable def q45_14 : List Oper := opsOf n45_14
noncomputable def n45_15 : Code := cr n45_13
noncomputable def n45_16 : Code := cr n45_12
noncomputable def n45_17 : Code := cl n45_16
noncomputable def q45_17 : List Oper := opsOf n45_17
noncomputable def n45_18 : Code := cr n45_16
noncomputable def n45_19 : Code := cl n45_18
noncomputable def n45_20 : Code := cl n45_19
noncomputable def q45_20 : List Oper := opsOf n45_20
noncomputable def n45_21 : Code := cr n45_19
noncomputable def n45_22 : Code := cr n45_18
noncomputable def n45_23 : Code := cr n45_2
noncomputable def n45_24 : Code := cl n45_23
noncomputable def q45_24 : List Oper := opsOf n45_24
noncomputable def n45_25 : Code := cr n45_23
theorem body45 : Try.f45.body = some n45_0 := by kernel_rfl
theorem run45 (E : Ev) (args : List Value) (h : List Blk) (hl : args.length ≤ 14) : runB Try.prog E 45 args h = endS Try.prog [.tmp 2] h.length (codeB Try.prog E ⟨45, 14, h.length, none⟩ n45_0 ⟨enumT 0 args, h, []⟩) := GE.run_step Try.func45 body45 (by kernel_rfl) (by decide) (by kernel_rfl) hl
theorem n45_1s : codeB Try.prog E ⟨f, 14, b, ro⟩ n45_1 st = plainS (runOps Try.prog E b q45_1 (ops [false] Try.f45) st) := GE.region_step (id := 0) (GE.reg_of (by kernel_rfl)) (by kernel_rfl)
theorem n45_5s : codeB Try.prog E ⟨f, 14, b, ro⟩ n45_5 st = plainS (runOps Try.prog E b q45_5 (ops [true, false, false, false] Try.f45) st) := GE.region_step (id := 1) (GE.reg_of (by kernel_rfl)) (by kernel_rfl)
theorem n45_8s : codeB Try.prog E ⟨f, 14, b, ro⟩ n45_8 st = plainS (runOps Try.prog E b q45_8 (ops [true, false, false, true, false, false] Try.f45) st) := GE.region_step (id := 2) (GE.reg_of (by kernel_rfl)) (by kernel_rfl)
theorem n45_9s : codeB Try.prog LL ⟨45, 14, b, ro⟩ n45_9 st = normS b ⟨[2], []⟩ .ret st := GE.ret_step (by kernel_rfl) (by kernel_rfl)
theorem n45_7s : codeB Try.prog E cx n45_7 st = thenS (codeB Try.prog E cx n45_8 st) (codeB Try.prog E cx n45_9) := GE.seq_step (by kernel_rfl)
theorem n45_11s : codeB Try.prog E ⟨f, 14, b, ro⟩ n45_11 st = plainS (runOps Try.prog E b q45_11 (ops [true, false, false, true, true, false] Try.f45) st) := GE.region_step (id := 3) (GE.reg_of (by kernel_rfl)) (by kernel_rfl)
theorem n45_14s : codeB Try.prog E ⟨f, 14, b, ro⟩ n45_14 st = plainS (runOps Try.prog E b q45_14 (ops [true, false, false, true, true, true, false, false] Try.f45) st) := GE.region_step (id := 4) (GE.reg_of (by kernel_rfl)) (by kernel_rfl)
theorem n45_15s : codeB Try.prog LL ⟨45, 14, b, ro⟩ n45_15 st = normS b ⟨[2], []⟩ .ret st := GE.ret_step (by kernel_rfl) (by kernel_rfl)
theorem n45_13s : codeB Try.prog E cx n45_13 st = thenS (codeB Try.prog E cx n45_14 st) (codeB Try.prog E cx n45_15) := GE.seq_step (by kernel_rfl)
theorem n45_17s : codeB Try.prog E ⟨f, 14, b, ro⟩ n45_17 st = plainS (runOps Try.prog E b q45_17 (ops [true, false, false, true, true, true, true, false] Try.f45) st) := GE.region_step (id := 5) (GE.reg_of (by kernel_rfl)) (by kernel_rfl)
theorem n45_20s : codeB Try.prog E ⟨f, 14, b, ro⟩ n45_20 st = plainS (runOps Try.prog E b q45_20 (ops [true, false, false, true, true, true, true, true, false, false] Try.f45) st) := GE.region_step (id := 6) (GE.reg_of (by kernel_rfl)) (by kernel_rfl)
theorem n45_21s : codeB Try.prog LL ⟨45, 14, b, ro⟩ n45_21 st = normS b ⟨[2], []⟩ .ret st := GE.ret_step (by kernel_rfl) (by kernel_rfl)
theorem n45_19s : codeB Try.prog E cx n45_19 st = thenS (codeB Try.prog E cx n45_20 st) (codeB Try.prog E cx n45_21) := GE.seq_step (by kernel_rfl)
theorem n45_22s : codeB Try.prog E cx n45_22 st = some (.normal, st) := GE.skip_step (by kernel_rfl)
theorem n45_18s : codeB Try.prog E cx n45_18 st = condS (codeB Try.prog E cx n45_19) (codeB Try.prog E cx n45_22) (lk st.σ 11) st := GE.cond_step (c := .tmp 11) (by kernel_rfl)
theorem n45_16s : codeB Try.prog E cx n45_16 st = thenS (codeB Try.prog E cx n45_17 st) (codeB Try.prog E cx n45_18) := GE.seq_step (by kernel_rfl)
theorem n45_12s : codeB Try.prog E cx n45_12 st = condS (codeB Try.prog E cx n45_13) (codeB Try.prog E cx n45_16) (lk st.σ 7) st := GE.cond_step (c := .tmp 7) (by kernel_rfl)
theorem n45_10s : codeB Try.prog E cx n45_10 st = thenS (codeB Try.prog E cx n45_11 st) (codeB Try.prog E cx n45_12) := GE.seq_step (by kernel_rfl)
theorem n45_6s : codeB Try.prog E cx n45_6 st = condS (codeB Try.prog E cx n45_7) (codeB Try.prog E cx n45_10) (lk st.σ 3) st := GE.cond_step (c := .tmp 3) (by kernel_rfl)
theorem n45_4s : codeB Try.prog E cx n45_4 st = thenS (codeB Try.prog E cx n45_5 st) (codeB Try.prog E cx n45_6) := GE.seq_step (by kernel_rfl)
theorem n45_3s : codeB Try.prog E cx n45_3 st = blockS 0 (codeB Try.prog E cx n45_4 st) st := GE.block_step (by kernel_rfl)
theorem n45_24s : codeB Try.prog E ⟨f, 14, b, ro⟩ n45_24 st = plainS (runOps Try.prog E b q45_24 (ops [true, true, false] Try.f45) st) := GE.region_step (id := 7) (GE.reg_of (by kernel_rfl)) (by kernel_rfl)
theorem n45_25s : codeB Try.prog LL ⟨45, 14, b, ro⟩ n45_25 st = normS b ⟨[2], []⟩ .ret st := GE.ret_step (by kernel_rfl) (by kernel_rfl)
theorem n45_23s : codeB Try.prog E cx n45_23 st = thenS (codeB Try.prog E cx n45_24 st) (codeB Try.prog E cx n45_25) := GE.seq_step (by kernel_rfl)
theorem n45_2s : codeB Try.prog E cx n45_2 st = thenS (codeB Try.prog E cx n45_3 st) (codeB Try.prog E cx n45_23) := GE.seq_step (by kernel_rfl)
theorem n45_0s : codeB Try.prog E cx n45_0 st = thenS (codeB Try.prog E cx n45_1 st) (codeB Try.prog E cx n45_2) := GE.seq_step (by kernel_rfl)
noncomputable def n50_0 : Code := bodyOf Try.f50
noncomputable def n50_1 : Code := cl n50_0
noncomputable def q50_1 : List Oper := opsOf n50_1
noncomputable def n50_2 : Code := cr n50_0
noncomputable def n50_3 : Code := cl n50_2
noncomputable def n50_4 : Code := cl n50_3
noncomputable def q50_4 : List Oper := opsOf n50_4
noncomputable def n50_5 : Code := cr n50_3
noncomputable def n50_6 : Code := cl n50_5
noncomputable def n50_7 : Code := cl n50_6
noncomputable def q50_7 : List Oper := opsOf n50_7
noncomputable def n50_8 : Code := cr n50_6
noncomputable def n50_9 : Code := cr n50_5
noncomputable def n50_10 : Code := cr n50_2
noncomputable def n50_11 : Code := cl n50_10
noncomputable def n50_12 : Code := cl n50_11
noncomputable def q50_12 : List Oper := opsOf n50_12
noncomputable def n50_13 : Code := cr n50_11
noncomputable def n50_14 : Code := cl n50_13
noncomputable def n50_15 : Code := cl n50_14
noncomputable def q50_15 : List Oper := opsOf n50_15
noncomputable def n50_16 : Code := cr n50_14
noncomputable def n50_17 : Code := cr n50_13
noncomputable def n50_18 : Code := cr n50_10
noncomputable def n50_19 : Code := cl n50_18
noncomputable def n50_20 : Code := cl n50_19
noncomputable def q50_20 : List Oper := opsOf n50_20
noncomputable def n50_21 : Code := cr n50_19
noncomputable def n50_22 : Code := cl n50_21
noncomputable def n50_23 : Code := cl n50_22
noncomputable def n50_24 : Code := cl n50_23
noncomputable def n50_25 : Code := cl n50_24
noncomputable def q50_25 : List Oper := opsOf n50_25
noncomputable def n50_26 : Code := cr n50_24
noncomputable def n50_27 : Code := cl n50_26
noncomputable def n50_28 : Code := cr n50_26
noncomputable def n50_29 : Code := cr n50_23
noncomputable def n50_30 : Code := cl n50_29
noncomputable def n50_31 : Code := cl n50_30
noncomputable def n50_32 : Code := cl n50_31
noncomputable def q50_32 : List Oper := opsOf n50_32
noncomputable def n50_33 : Code := cr n50_31
noncomputable def n50_34 : Code := cl n50_33
noncomputable def n50_35 : Code := cl n50_34
noncomputable def q50_35 : List Oper := opsOf n50_35
noncomputable def n50_36 : Code := cr n50_34
noncomputable def n50_37 : Code := cr n50_33
noncomputable def n50_38 : Code := cr n50_29
noncomputable def q50_38 : List Oper := opsOf n50_38
noncomputable def n50_39 : Code := cr n50_18
noncomputable def n50_40 : Code := cl n50_39
noncomputable def q50_40 : List Oper := opsOf n50_40
noncomputable def n50_41 : Code := cr n50_39
theorem body50 : Try.f50.body = some n50_0 := by kernel_rfl
theorem run50 (E : Ev) (args : List Value) (h : List Blk) (hl : args.length ≤ 36) : runB Try.prog E 50 args h = endS Try.prog [.tmp 2] h.length (codeB Try.prog E ⟨50, 36, h.length, none⟩ n50_0 ⟨enumT 0 args, h, []⟩) := GE.run_step Try.func50 body50 (by kernel_rfl) (by decide) (by kernel_rfl) hl
theorem n50_1s : codeB Try.prog E ⟨f, 36, b, ro⟩ n50_1 st = plainS (runOps Try.prog E b q50_1 (ops [false] Try.f50) st) := GE.region_step (id := 0) (GE.reg_of (by kernel_rfl)) (by kernel_rfl)
theorem n50_4s : codeB Try.prog E ⟨f, 36, b, ro⟩ n50_4 st = plainS (runOps Try.prog E b q50_4 (ops [true, false, false] Try.f50) st) := GE.region_step (id := 1) (GE.reg_of (by kernel_rfl)) (by kernel_rfl)
theorem n50_7s : codeB Try.prog E ⟨f, 36, b, ro⟩ n50_7 st = plainS (runOps Try.prog E b q50_7 (ops [true, false, true, false, false] Try.f50) st) := GE.region_step (id := 2) (GE.reg_of (by kernel_rfl)) (by kernel_rfl)
theorem n50_8s : codeB Try.prog LL ⟨50, 36, b, ro⟩ n50_8 st = normS b ⟨[2], []⟩ .ret st := GE.ret_step (by kernel_rfl) (by kernel_rfl)
theorem n50_6s : codeB Try.prog E cx n50_6 st = thenS (codeB Try.prog E cx n50_7 st) (codeB Try.prog E cx n50_8) := GE.seq_step (by kernel_rfl)
theorem n50_9s : codeB Try.prog E cx n50_9 st = some (.normal, st) := GE.skip_step (by kernel_rfl)
theorem n50_5s : codeB Try.prog E cx n50_5 st = condS (codeB Try.prog E cx n50_6) (codeB Try.prog E cx n50_9) (lk st.σ 6) st := GE.cond_step (c := .tmp 6) (by kernel_rfl)
theorem n50_3s : codeB Try.prog E cx n50_3 st = thenS (codeB Try.prog E cx n50_4 st) (codeB Try.prog E cx n50_5) := GE.seq_step (by kernel_rfl)
theorem n50_12s : codeB Try.prog E ⟨f, 36, b, ro⟩ n50_12 st = plainS (runOps Try.prog E b q50_12 (ops [true, true, false, false] Try.f50) st) := GE.region_step (id := 3) (GE.reg_of (by kernel_rfl)) (by kernel_rfl)
theorem n50_15s : codeB Try.prog E ⟨f, 36, b, ro⟩ n50_15 st = plainS (runOps Try.prog E b q50_15 (ops [true, true, false, true, false, false] Try.f50) st) := GE.region_step (id := 4) (GE.reg_of (by kernel_rfl)) (by kernel_rfl)
theorem n50_16s : codeB Try.prog LL ⟨50, 36, b, ro⟩ n50_16 st = normS b ⟨[2], []⟩ .ret st := GE.ret_step (by kernel_rfl) (by kernel_rfl)
theorem n50_14s : codeB Try.prog E cx n50_14 st = thenS (codeB Try.prog E cx n50_15 st) (codeB Try.prog E cx n50_16) := GE.seq_step (by kernel_rfl)
theorem n50_17s : codeB Try.prog E cx n50_17 st = some (.normal, st) := GE.skip_step (by kernel_rfl)
theorem n50_13s : codeB Try.prog E cx n50_13 st = condS (codeB Try.prog E cx n50_14) (codeB Try.prog E cx n50_17) (lk st.σ 9) st := GE.cond_step (c := .tmp 9) (by kernel_rfl)
theorem n50_11s : codeB Try.prog E cx n50_11 st = thenS (codeB Try.prog E cx n50_12 st) (codeB Try.prog E cx n50_13) := GE.seq_step (by kernel_rfl)
theorem n50_20s : codeB Try.prog E ⟨f, 36, b, ro⟩ n50_20 st = plainS (runOps Try.prog E b q50_20 (ops [true, true, true, false, false] Try.f50) st) := GE.region_step (id := 5) (GE.reg_of (by kernel_rfl)) (by kernel_rfl)
theorem n50_25s : codeB Try.prog E ⟨f, 36, b, ro⟩ n50_25 st = plainS (runOps Try.prog E b q50_25 (ops [true, true, true, false, true, false, false, false, false] Try.f50) st) := GE.region_step (id := 6) (GE.reg_of (by kernel_rfl)) (by kernel_rfl)
theorem n50_27s : codeB Try.prog E cx n50_27 st = some (.normal, st) := GE.skip_step (by kernel_rfl)
theorem n50_28s : codeB Try.prog LL ⟨50, 36, b, ro⟩ n50_28 st = normS b ⟨[], []⟩ (.exit 0) st := GE.exit_step (by kernel_rfl) (by kernel_rfl)
theorem n50_26s : codeB Try.prog E cx n50_26 st = condS (codeB Try.prog E cx n50_27) (codeB Try.prog E cx n50_28) (lk st.σ 13) st := GE.cond_step (c := .tmp 13) (by kernel_rfl)
theorem n50_24s : codeB Try.prog E cx n50_24 st = thenS (codeB Try.prog E cx n50_25 st) (codeB Try.prog E cx n50_26) := GE.seq_step (by kernel_rfl)
theorem q50_32g12 : gd q50_32 12 = some 28 := by kernel_rfl
theorem n50_32s : codeB Try.prog E ⟨f, 36, b, ro⟩ n50_32 st = drawS [0, 0, 3, 7, 15, 0, 0, 96, 224, 480, 1023, 2047, 4095, 8191, 8191, 32767, 65535, 131071, 262143, 524287] (runOpsF Try.prog E b q50_32 (ops [true, true, true, false, true, false, false, true, false, false, false] Try.f50) st) := GE.draw_step (id := 8) (GE.reg_of (by kernel_rfl)) (by kernel_rfl) (by kernel_rfl) (by kernel_rfl)
theorem n50_35s : codeB Try.prog E ⟨f, 36, b, ro⟩ n50_35 st = plainS (runOps Try.prog E b q50_35 (ops [true, true, true, false, true, false, false, true, false, false, true, false, false] Try.f50) st) := GE.region_step (id := 9) (GE.reg_of (by kernel_rfl)) (by kernel_rfl)
theorem n50_36s : codeB Try.prog LL ⟨50, 36, b, ro⟩ n50_36 st = normS b ⟨[2], []⟩ .ret st := GE.ret_step (by kernel_rfl) (by kernel_rfl)
theorem n50_34s : codeB Try.prog E cx n50_34 st = thenS (codeB Try.prog E cx n50_35 st) (codeB Try.prog E cx n50_36) := GE.seq_step (by kernel_rfl)
theorem n50_37s : codeB Try.prog E cx n50_37 st = some (.normal, st) := GE.skip_step (by kernel_rfl)
theorem n50_33s : codeB Try.prog E cx n50_33 st = condS (codeB Try.prog E cx n50_34) (codeB Try.prog E cx n50_37) (lk st.σ 35) st := GE.cond_step (c := .tmp 35) (by kernel_rfl)
theorem n50_31s : codeB Try.prog E cx n50_31 st = thenS (codeB Try.prog E cx n50_32 st) (codeB Try.prog E cx n50_33) := GE.seq_step (by kernel_rfl)
theorem n50_30s : codeB Try.prog E cx n50_30 st = blockS 1 (codeB Try.prog E cx n50_31 st) st := GE.block_step (by kernel_rfl)
theorem n50_38s : codeB Try.prog E ⟨f, 36, b, ro⟩ n50_38 st = plainS (runOps Try.prog E b q50_38 (ops [true, true, true, false, true, false, false, true, true] Try.f50) st) := GE.region_step (id := 7) (GE.reg_of (by kernel_rfl)) (by kernel_rfl)
theorem n50_29s : codeB Try.prog E cx n50_29 st = thenS (codeB Try.prog E cx n50_30 st) (codeB Try.prog E cx n50_38) := GE.seq_step (by kernel_rfl)
theorem n50_23s : codeB Try.prog E cx n50_23 st = thenS (codeB Try.prog E cx n50_24 st) (codeB Try.prog E cx n50_29) := GE.seq_step (by kernel_rfl)
theorem n50_22k : LL.kp (⟨50, 36, b, ro⟩ : Cx).fn (4 * rid n50_23 + 3) = some ⟨[0, 3], [⟨0, 0, 2, true⟩]⟩ := by kernel_rfl
theorem n50_22s : codeB Try.prog LL ⟨50, 36, b, ro⟩ n50_22 st = headS b ⟨[0, 3], [⟨0, 0, 2, true⟩]⟩ st (lpB Try.prog LL ⟨50, 36, b, ro⟩ n50_22 n50_23) := GE.lpB_step (by kernel_rfl) (n50_22k b ro)
theorem n50_22g : LL.code ⟨50, 36, b, ro⟩ n50_22 st = headS b ⟨[0, 3], [⟨0, 0, 2, true⟩]⟩ st (lpB Try.prog LL ⟨50, 36, b, ro⟩ n50_22 n50_23) := GE.lpB_again (by kernel_rfl) (n50_22k b ro)
theorem n50_21s : codeB Try.prog E cx n50_21 st = blockS 0 (codeB Try.prog E cx n50_22 st) st := GE.block_step (by kernel_rfl)
theorem n50_19s : codeB Try.prog E cx n50_19 st = thenS (codeB Try.prog E cx n50_20 st) (codeB Try.prog E cx n50_21) := GE.seq_step (by kernel_rfl)
theorem n50_40s : codeB Try.prog E ⟨f, 36, b, ro⟩ n50_40 st = plainS (runOps Try.prog E b q50_40 (ops [true, true, true, true, false] Try.f50) st) := GE.region_step (id := 10) (GE.reg_of (by kernel_rfl)) (by kernel_rfl)
theorem n50_41s : codeB Try.prog LL ⟨50, 36, b, ro⟩ n50_41 st = normS b ⟨[2], []⟩ .ret st := GE.ret_step (by kernel_rfl) (by kernel_rfl)
theorem n50_39s : codeB Try.prog E cx n50_39 st = thenS (codeB Try.prog E cx n50_40 st) (codeB Try.prog E cx n50_41) := GE.seq_step (by kernel_rfl)
theorem n50_18s : codeB Try.prog E cx n50_18 st = thenS (codeB Try.prog E cx n50_19 st) (codeB Try.prog E cx n50_39) := GE.seq_step (by kernel_rfl)
theorem n50_10s : codeB Try.prog E cx n50_10 st = thenS (codeB Try.prog E cx n50_11 st) (codeB Try.prog E cx n50_18) := GE.seq_step (by kernel_rfl)
theorem n50_2s : codeB Try.prog E cx n50_2 st = thenS (codeB Try.prog E cx n50_3 st) (codeB Try.prog E cx n50_10) := GE.seq_step (by kernel_rfl)
theorem n50_0s : codeB Try.prog E cx n50_0 st = thenS (codeB Try.prog E cx n50_1 st) (codeB Try.prog E cx n50_2) := GE.seq_step (by kernel_rfl)
noncomputable def n52_0 : Code := bodyOf Try.f52
noncomputable def n52_1 : Code := cl n52_0
noncomputable def q52_1 : List Oper := opsOf n52_1
noncomputable def n52_2 : Code := cr n52_0
noncomputable def n52_3 : Code := cl n52_2
noncomputable def n52_4 : Code := cl n52_3
noncomputable def q52_4 : List Oper := opsOf n52_4
noncomputable def n52_5 : Code := cr n52_3
noncomputable def n52_6 : Code := cl n52_5
noncomputable def n52_7 : Code := cl n52_6
noncomputable def n52_8 : Code := cl n52_7
noncomputable def q52_8 : List Oper := opsOf n52_8
noncomputable def n52_9 : Code := cr n52_7
noncomputable def n52_10 : Code := cl n52_9
noncomputable def n52_11 : Code := cl n52_10
noncomputable def n52_12 : Code := cr n52_10
noncomputable def n52_13 : Code := cr n52_9
noncomputable def n52_14 : Code := cl n52_13
noncomputable def n52_15 : Code := cl n52_14
noncomputable def n52_16 : Code := cl n52_15
noncomputable def q52_16 : List Oper := opsOf n52_16
noncomputable def n52_17 : Code := cr n52_15
noncomputable def n52_18 : Code := cl n52_17
noncomputable def q52_18 : List Oper := opsOf n52_18
noncomputable def n52_19 : Code := cr n52_17
noncomputable def n52_20 : Code := cl n52_19
noncomputable def n52_21 : Code := cl n52_20
noncomputable def q52_21 : List Oper := opsOf n52_21
noncomputable def n52_22 : Code := cr n52_20
noncomputable def n52_23 : Code := cr n52_19
noncomputable def n52_24 : Code := cr n52_13
noncomputable def q52_24 : List Oper := opsOf n52_24
noncomputable def n52_25 : Code := cr n52_2
noncomputable def n52_26 : Code := cl n52_25
noncomputable def q52_26 : List Oper := opsOf n52_26
noncomputable def n52_27 : Code := cr n52_25
theorem body52 : Try.f52.body = some n52_0 := by kernel_rfl
theorem run52 (E : Ev) (args : List Value) (h : List Blk) (hl : args.length ≤ 33) : runB Try.prog E 52 args h = endS Try.prog [.tmp 6] h.length (codeB Try.prog E ⟨52, 33, h.length, none⟩ n52_0 ⟨enumT 0 args, h, []⟩) := GE.run_step Try.func52 body52 (by kernel_rfl) (by decide) (by kernel_rfl) hl
theorem n52_1s : codeB Try.prog E ⟨f, 33, b, ro⟩ n52_1 st = plainS (runOps Try.prog E b q52_1 (ops [false] Try.f52) st) := GE.region_step (id := 0) (GE.reg_of (by kernel_rfl)) (by kernel_rfl)
theorem n52_4s : codeB Try.prog E ⟨f, 33, b, ro⟩ n52_4 st = plainS (runOps Try.prog E b q52_4 (ops [true, false, false] Try.f52) st) := GE.region_step (id := 1) (GE.reg_of (by kernel_rfl)) (by kernel_rfl)
theorem n52_8s : codeB Try.prog E ⟨f, 33, b, ro⟩ n52_8 st = plainS (runOps Try.prog E b q52_8 (ops [true, false, true, false, false, false] Try.f52) st) := GE.region_step (id := 2) (GE.reg_of (by kernel_rfl)) (by kernel_rfl)
theorem n52_11s : codeB Try.prog E cx n52_11 st = some (.normal, st) := GE.skip_step (by kernel_rfl)
theorem n52_12s : codeB Try.prog LL ⟨52, 33, b, ro⟩ n52_12 st = normS b ⟨[0], [⟨0, 0, 1, true⟩]⟩ (.exit 0) st := GE.exit_step (by kernel_rfl) (by kernel_rfl)
theorem n52_10s : codeB Try.prog E cx n52_10 st = condS (codeB Try.prog E cx n52_11) (codeB Try.prog E cx n52_12) (lk st.σ 11) st := GE.cond_step (c := .tmp 11) (by kernel_rfl)
theorem n52_16s : codeB Try.prog E ⟨f, 33, b, ro⟩ n52_16 st = plainS (runOps Try.prog E b q52_16 (ops [true, false, true, false, false, true, true, false, false, false] Try.f52) st) := GE.region_step (id := 3) (GE.reg_of (by kernel_rfl)) (by kernel_rfl)
theorem n52_18s : codeB Try.prog E ⟨f, 33, b, ro⟩ n52_18 st = plainS (runOps Try.prog E b q52_18 (ops [true, false, true, false, false, true, true, false, false, true, false] Try.f52) st) := GE.region_step (id := 4) (GE.reg_of (by kernel_rfl)) (by kernel_rfl)
theorem n52_21s : codeB Try.prog E ⟨f, 33, b, ro⟩ n52_21 st = drawS [0, 0, 0, 4, 0, 16, 62, 0, 128, 510, 0, 0, 4094, 8191, 16383] (runOpsF Try.prog E b q52_21 (ops [true, false, true, false, false, true, true, false, false, true, true, false, false] Try.f52) st) := GE.draw_step (id := 5) (GE.reg_of (by kernel_rfl)) (by kernel_rfl) (by kernel_rfl) (by kernel_rfl)
theorem n52_22s : codeB Try.prog LL ⟨52, 33, b, ro⟩ n52_22 st = normS b ⟨[6], [⟨6, 0, 1, true⟩]⟩ .ret st := GE.ret_step (by kernel_rfl) (by kernel_rfl)
theorem n52_20s : codeB Try.prog E cx n52_20 st = thenS (codeB Try.prog E cx n52_21 st) (codeB Try.prog E cx n52_22) := GE.seq_step (by kernel_rfl)
theorem n52_23s : codeB Try.prog E cx n52_23 st = some (.normal, st) := GE.skip_step (by kernel_rfl)
theorem n52_19s : codeB Try.prog E cx n52_19 st = condS (codeB Try.prog E cx n52_20) (codeB Try.prog E cx n52_23) (lk st.σ 16) st := GE.cond_step (c := .tmp 16) (by kernel_rfl)
theorem n52_17s : codeB Try.prog E cx n52_17 st = thenS (codeB Try.prog E cx n52_18 st) (codeB Try.prog E cx n52_19) := GE.seq_step (by kernel_rfl)
theorem n52_15s : codeB Try.prog E cx n52_15 st = thenS (codeB Try.prog E cx n52_16 st) (codeB Try.prog E cx n52_17) := GE.seq_step (by kernel_rfl)
theorem n52_14s : codeB Try.prog E cx n52_14 st = blockS 1 (codeB Try.prog E cx n52_15 st) st := GE.block_step (by kernel_rfl)
theorem n52_24s : codeB Try.prog E ⟨f, 33, b, ro⟩ n52_24 st = plainS (runOps Try.prog E b q52_24 (ops [true, false, true, false, false, true, true, true] Try.f52) st) := GE.region_step (id := 6) (GE.reg_of (by kernel_rfl)) (by kernel_rfl)
theorem n52_13s : codeB Try.prog E cx n52_13 st = thenS (codeB Try.prog E cx n52_14 st) (codeB Try.prog E cx n52_24) := GE.seq_step (by kernel_rfl)
theorem n52_9s : codeB Try.prog E cx n52_9 st = thenS (codeB Try.prog E cx n52_10 st) (codeB Try.prog E cx n52_13) := GE.seq_step (by kernel_rfl)
theorem n52_7s : codeB Try.prog E cx n52_7 st = thenS (codeB Try.prog E cx n52_8 st) (codeB Try.prog E cx n52_9) := GE.seq_step (by kernel_rfl)
theorem n52_6k : LL.kp (⟨52, 33, b, ro⟩ : Cx).fn (4 * rid n52_7 + 3) = some ⟨[0, 1, 2, 3, 9, 10], [⟨0, 0, 1, true⟩]⟩ := by kernel_rfl
theorem n52_6s : codeB Try.prog LL ⟨52, 33, b, ro⟩ n52_6 st = headS b ⟨[0, 1, 2, 3, 9, 10], [⟨0, 0, 1, true⟩]⟩ st (lpB Try.prog LL ⟨52, 33, b, ro⟩ n52_6 n52_7) := GE.lpB_step (by kernel_rfl) (n52_6k b ro)
theorem n52_6g : LL.code ⟨52, 33, b, ro⟩ n52_6 st = headS b ⟨[0, 1, 2, 3, 9, 10], [⟨0, 0, 1, true⟩]⟩ st (lpB Try.prog LL ⟨52, 33, b, ro⟩ n52_6 n52_7) := GE.lpB_again (by kernel_rfl) (n52_6k b ro)
theorem n52_5s : codeB Try.prog E cx n52_5 st = blockS 0 (codeB Try.prog E cx n52_6 st) st := GE.block_step (by kernel_rfl)
theorem n52_3s : codeB Try.prog E cx n52_3 st = thenS (codeB Try.prog E cx n52_4 st) (codeB Try.prog E cx n52_5) := GE.seq_step (by kernel_rfl)
theorem n52_26s : codeB Try.prog E ⟨f, 33, b, ro⟩ n52_26 st = plainS (runOps Try.prog E b q52_26 (ops [true, true, false] Try.f52) st) := GE.region_step (id := 7) (GE.reg_of (by kernel_rfl)) (by kernel_rfl)
theorem n52_27s : codeB Try.prog LL ⟨52, 33, b, ro⟩ n52_27 st = normS b ⟨[6], [⟨6, 0, 1, true⟩]⟩ .ret st := GE.ret_step (by kernel_rfl) (by kernel_rfl)
theorem n52_25s : codeB Try.prog E cx n52_25 st = thenS (codeB Try.prog E cx n52_26 st) (codeB Try.prog E cx n52_27) := GE.seq_step (by kernel_rfl)
theorem n52_2s : codeB Try.prog E cx n52_2 st = thenS (codeB Try.prog E cx n52_3 st) (codeB Try.prog E cx n52_25) := GE.seq_step (by kernel_rfl)
theorem n52_0s : codeB Try.prog E cx n52_0 st = thenS (codeB Try.prog E cx n52_1 st) (codeB Try.prog E cx n52_2) := GE.seq_step (by kernel_rfl)
noncomputable def n53_0 : Code := bodyOf Try.f53
noncomputable def n53_1 : Code := cl n53_0
noncomputable def q53_1 : List Oper := opsOf n53_1
noncomputable def n53_2 : Code := cr n53_0
noncomputable def n53_3 : Code := cl n53_2
noncomputable def n53_4 : Code := cl n53_3
noncomputable def q53_4 : List Oper := opsOf n53_4
noncomputable def n53_5 : Code := cr n53_3
noncomputable def n53_6 : Code := cl n53_5
noncomputable def n53_7 : Code := cl n53_6
noncomputable def q53_7 : List Oper := opsOf n53_7
noncomputable def n53_8 : Code := cr n53_6
noncomputable def n53_9 : Code := cr n53_5
noncomputable def n53_10 : Code := cr n53_2
noncomputable def n53_11 : Code := cl n53_10
noncomputable def q53_11 : List Oper := opsOf n53_11
noncomputable def n53_12 : Code := cr n53_10
noncomputable def n53_13 : Code := cl n53_12
noncomputable def n53_14 : Code := cl n53_13
noncomputable def q53_14 : List Oper := opsOf n53_14
noncomputable def n53_15 : Code := cr n53_13
noncomputable def n53_16 : Code := cl n53_15
noncomputable def n53_17 : Code := cl n53_16
noncomputable def n53_18 : Code := cl n53_17
noncomputable def q53_18 : List Oper := opsOf n53_18
noncomputable def n53_19 : Code := cr n53_17
noncomputable def n53_20 : Code := cl n53_19
noncomputable def n53_21 : Code := cl n53_20
noncomputable def n53_22 : Code := cr n53_20
noncomputable def n53_23 : Code := cr n53_19
noncomputable def n53_24 : Code := cl n53_23
noncomputable def n53_25 : Code := cl n53_24
noncomputable def n53_26 : Code := cl n53_25
noncomputable def q53_26 : List Oper := opsOf n53_26
noncomputable def n53_27 : Code := cr n53_25
noncomputable def n53_28 : Code := cl n53_27
noncomputable def q53_28 : List Oper := opsOf n53_28
noncomputable def n53_29 : Code := cr n53_27
noncomputable def n53_30 : Code := cl n53_29
noncomputable def n53_31 : Code := cl n53_30
noncomputable def q53_31 : List Oper := opsOf n53_31
noncomputable def n53_32 : Code := cr n53_30
noncomputable def n53_33 : Code := cr n53_29
noncomputable def n53_34 : Code := cr n53_23
noncomputable def q53_34 : List Oper := opsOf n53_34
noncomputable def n53_35 : Code := cr n53_12
noncomputable def n53_36 : Code := cl n53_35
noncomputable def q53_36 : List Oper := opsOf n53_36
noncomputable def n53_37 : Code := cr n53_35
theorem body53 : Try.f53.body = some n53_0 := by kernel_rfl
theorem run53 (E : Ev) (args : List Value) (h : List Blk) (hl : args.length ≤ 30) : runB Try.prog E 53 args h = endS Try.prog [.tmp 6] h.length (codeB Try.prog E ⟨53, 30, h.length, none⟩ n53_0 ⟨enumT 0 args, h, []⟩) := GE.run_step Try.func53 body53 (by kernel_rfl) (by decide) (by kernel_rfl) hl
theorem n53_1s : codeB Try.prog E ⟨f, 30, b, ro⟩ n53_1 st = plainS (runOps Try.prog E b q53_1 (ops [false] Try.f53) st) := GE.region_step (id := 0) (GE.reg_of (by kernel_rfl)) (by kernel_rfl)
theorem n53_4s : codeB Try.prog E ⟨f, 30, b, ro⟩ n53_4 st = plainS (runOps Try.prog E b q53_4 (ops [true, false, false] Try.f53) st) := GE.region_step (id := 1) (GE.reg_of (by kernel_rfl)) (by kernel_rfl)
theorem n53_7s : codeB Try.prog E ⟨f, 30, b, ro⟩ n53_7 st = plainS (runOps Try.prog E b q53_7 (ops [true, false, true, false, false] Try.f53) st) := GE.region_step (id := 2) (GE.reg_of (by kernel_rfl)) (by kernel_rfl)
theorem n53_8s : codeB Try.prog LL ⟨53, 30, b, ro⟩ n53_8 st = normS b ⟨[6], []⟩ .ret st := GE.ret_step (by kernel_rfl) (by kernel_rfl)
theorem n53_6s : codeB Try.prog E cx n53_6 st = thenS (codeB Try.prog E cx n53_7 st) (codeB Try.prog E cx n53_8) := GE.seq_step (by kernel_rfl)
theorem n53_9s : codeB Try.prog E cx n53_9 st = some (.normal, st) := GE.skip_step (by kernel_rfl)
theorem n53_5s : codeB Try.prog E cx n53_5 st = condS (codeB Try.prog E cx n53_6) (codeB Try.prog E cx n53_9) (lk st.σ 11) st := GE.cond_step (c := .tmp 11) (by kernel_rfl)
theorem n53_3s : codeB Try.prog E cx n53_3 st = thenS (codeB Try.prog E cx n53_4 st) (codeB Try.prog E cx n53_5) := GE.seq_step (by kernel_rfl)
theorem n53_11s : codeB Try.prog E ⟨f, 30, b, ro⟩ n53_11 st = plainS (runOps Try.prog E b q53_11 (ops [true, true, false] Try.f53) st) := GE.region_step (id := 3) (GE.reg_of (by kernel_rfl)) (by kernel_rfl)
theorem n53_14s : codeB Try.prog E ⟨f, 30, b, ro⟩ n53_14 st = plainS (runOps Try.prog E b q53_14 (ops [true, true, true, false, false] Try.f53) st) := GE.region_step (id := 4) (GE.reg_of (by kernel_rfl)) (by kernel_rfl)
theorem n53_18s : codeB Try.prog E ⟨f, 30, b, ro⟩ n53_18 st = plainS (runOps Try.prog E b q53_18 (ops [true, true, true, false, true, false, false, false] Try.f53) st) := GE.region_step (id := 5) (GE.reg_of (by kernel_rfl)) (by kernel_rfl)
theorem n53_21s : codeB Try.prog E cx n53_21 st = some (.normal, st) := GE.skip_step (by kernel_rfl)
theorem n53_22s : codeB Try.prog LL ⟨53, 30, b, ro⟩ n53_22 st = normS b ⟨[], []⟩ (.exit 0) st := GE.exit_step (by kernel_rfl) (by kernel_rfl)
theorem n53_20s : codeB Try.prog E cx n53_20 st = condS (codeB Try.prog E cx n53_21) (codeB Try.prog E cx n53_22) (lk st.σ 17) st := GE.cond_step (c := .tmp 17) (by kernel_rfl)
theorem n53_26s : codeB Try.prog E ⟨f, 30, b, ro⟩ n53_26 st = plainS (runOps Try.prog E b q53_26 (ops [true, true, true, false, true, false, false, true, true, false, false, false] Try.f53) st) := GE.region_step (id := 6) (GE.reg_of (by kernel_rfl)) (by kernel_rfl)
theorem q53_28g4 : gd q53_28 4 = some 23 := by kernel_rfl
theorem n53_28s : codeB Try.prog E ⟨f, 30, b, ro⟩ n53_28 st = plainS (runOps Try.prog E b q53_28 (ops [true, true, true, false, true, false, false, true, true, false, false, true, false] Try.f53) st) := GE.region_step (id := 7) (GE.reg_of (by kernel_rfl)) (by kernel_rfl)
theorem n53_31s : codeB Try.prog E ⟨f, 30, b, ro⟩ n53_31 st = plainS (runOps Try.prog E b q53_31 (ops [true, true, true, false, true, false, false, true, true, false, false, true, true, false, false] Try.f53) st) := GE.region_step (id := 8) (GE.reg_of (by kernel_rfl)) (by kernel_rfl)
theorem n53_32s : codeB Try.prog LL ⟨53, 30, b, ro⟩ n53_32 st = normS b ⟨[6], []⟩ .ret st := GE.ret_step (by kernel_rfl) (by kernel_rfl)
theorem n53_30s : codeB Try.prog E cx n53_30 st = thenS (codeB Try.prog E cx n53_31 st) (codeB Try.prog E cx n53_32) := GE.seq_step (by kernel_rfl)
theorem n53_33s : codeB Try.prog E cx n53_33 st = some (.normal, st) := GE.skip_step (by kernel_rfl)
theorem n53_29s : codeB Try.prog E cx n53_29 st = condS (codeB Try.prog E cx n53_30) (codeB Try.prog E cx n53_33) (lk st.σ 28) st := GE.cond_step (c := .tmp 28) (by kernel_rfl)
theorem n53_27s : codeB Try.prog E cx n53_27 st = thenS (codeB Try.prog E cx n53_28 st) (codeB Try.prog E cx n53_29) := GE.seq_step (by kernel_rfl)
theorem n53_25s : codeB Try.prog E cx n53_25 st = thenS (codeB Try.prog E cx n53_26 st) (codeB Try.prog E cx n53_27) := GE.seq_step (by kernel_rfl)
theorem n53_24s : codeB Try.prog E cx n53_24 st = blockS 1 (codeB Try.prog E cx n53_25 st) st := GE.block_step (by kernel_rfl)
theorem n53_34s : codeB Try.prog E ⟨f, 30, b, ro⟩ n53_34 st = plainS (runOps Try.prog E b q53_34 (ops [true, true, true, false, true, false, false, true, true, true] Try.f53) st) := GE.region_step (id := 9) (GE.reg_of (by kernel_rfl)) (by kernel_rfl)
theorem n53_23s : codeB Try.prog E cx n53_23 st = thenS (codeB Try.prog E cx n53_24 st) (codeB Try.prog E cx n53_34) := GE.seq_step (by kernel_rfl)
theorem n53_19s : codeB Try.prog E cx n53_19 st = thenS (codeB Try.prog E cx n53_20 st) (codeB Try.prog E cx n53_23) := GE.seq_step (by kernel_rfl)
theorem n53_17s : codeB Try.prog E cx n53_17 st = thenS (codeB Try.prog E cx n53_18 st) (codeB Try.prog E cx n53_19) := GE.seq_step (by kernel_rfl)
theorem n53_16k : LL.kp (⟨53, 30, b, ro⟩ : Cx).fn (4 * rid n53_17 + 3) = some ⟨[1, 2, 7, 15, 16], []⟩ := by kernel_rfl
theorem n53_16s : codeB Try.prog LL ⟨53, 30, b, ro⟩ n53_16 st = headS b ⟨[1, 2, 7, 15, 16], []⟩ st (lpB Try.prog LL ⟨53, 30, b, ro⟩ n53_16 n53_17) := GE.lpB_step (by kernel_rfl) (n53_16k b ro)
theorem n53_16g : LL.code ⟨53, 30, b, ro⟩ n53_16 st = headS b ⟨[1, 2, 7, 15, 16], []⟩ st (lpB Try.prog LL ⟨53, 30, b, ro⟩ n53_16 n53_17) := GE.lpB_again (by kernel_rfl) (n53_16k b ro)
theorem n53_15s : codeB Try.prog E cx n53_15 st = blockS 0 (codeB Try.prog E cx n53_16 st) st := GE.block_step (by kernel_rfl)
theorem n53_13s : codeB Try.prog E cx n53_13 st = thenS (codeB Try.prog E cx n53_14 st) (codeB Try.prog E cx n53_15) := GE.seq_step (by kernel_rfl)
theorem n53_36s : codeB Try.prog E ⟨f, 30, b, ro⟩ n53_36 st = plainS (runOps Try.prog E b q53_36 (ops [true, true, true, true, false] Try.f53) st) := GE.region_step (id := 10) (GE.reg_of (by kernel_rfl)) (by kernel_rfl)
theorem n53_37s : codeB Try.prog LL ⟨53, 30, b, ro⟩ n53_37 st = normS b ⟨[6], []⟩ .ret st := GE.ret_step (by kernel_rfl) (by kernel_rfl)
theorem n53_35s : codeB Try.prog E cx n53_35 st = thenS (codeB Try.prog E cx n53_36 st) (codeB Try.prog E cx n53_37) := GE.seq_step (by kernel_rfl)
theorem n53_12s : codeB Try.prog E cx n53_12 st = thenS (codeB Try.prog E cx n53_13 st) (codeB Try.prog E cx n53_35) := GE.seq_step (by kernel_rfl)
theorem n53_10s : codeB Try.prog E cx n53_10 st = thenS (codeB Try.prog E cx n53_11 st) (codeB Try.prog E cx n53_12) := GE.seq_step (by kernel_rfl)
theorem n53_2s : codeB Try.prog E cx n53_2 st = thenS (codeB Try.prog E cx n53_3 st) (codeB Try.prog E cx n53_10) := GE.seq_step (by kernel_rfl)
theorem n53_0s : codeB Try.prog E cx n53_0 st = thenS (codeB Try.prog E cx n53_1 st) (codeB Try.prog E cx n53_2) := GE.seq_step (by kernel_rfl)
noncomputable def n54_0 : Code := bodyOf Try.f54
noncomputable def n54_1 : Code := cl n54_0
noncomputable def q54_1 : List Oper := opsOf n54_1
noncomputable def n54_2 : Code := cr n54_0
noncomputable def n54_3 : Code := cl n54_2
noncomputable def q54_3 : List Oper := opsOf n54_3
noncomputable def n54_4 : Code := cr n54_2
theorem body54 : Try.f54.body = some n54_0 := by kernel_rfl
theorem run54 (E : Ev) (args : List Value) (h : List Blk) (hl : args.length ≤ 9) : runB Try.prog E 54 args h = endS Try.prog [.tmp 4] h.length (codeB Try.prog E ⟨54, 9, h.length, none⟩ n54_0 ⟨enumT 0 args, h, []⟩) := GE.run_step Try.func54 body54 (by kernel_rfl) (by decide) (by kernel_rfl) hl
theorem n54_1s : codeB Try.prog E ⟨f, 9, b, ro⟩ n54_1 st = plainS (runOps Try.prog E b q54_1 (ops [false] Try.f54) st) := GE.region_step (id := 0) (GE.reg_of (by kernel_rfl)) (by kernel_rfl)
theorem n54_3s : codeB Try.prog E ⟨f, 9, b, ro⟩ n54_3 st = plainS (runOps Try.prog E b q54_3 (ops [true, false] Try.f54) st) := GE.region_step (id := 1) (GE.reg_of (by kernel_rfl)) (by kernel_rfl)
theorem n54_4s : codeB Try.prog LL ⟨54, 9, b, ro⟩ n54_4 st = normS b ⟨[4], []⟩ .ret st := GE.ret_step (by kernel_rfl) (by kernel_rfl)
theorem n54_2s : codeB Try.prog E cx n54_2 st = thenS (codeB Try.prog E cx n54_3 st) (codeB Try.prog E cx n54_4) := GE.seq_step (by kernel_rfl)
theorem n54_0s : codeB Try.prog E cx n54_0 st = thenS (codeB Try.prog E cx n54_1 st) (codeB Try.prog E cx n54_2) := GE.seq_step (by kernel_rfl)
noncomputable def n55_0 : Code := bodyOf Try.f55
noncomputable def n55_1 : Code := cl n55_0
noncomputable def q55_1 : List Oper := opsOf n55_1
noncomputable def n55_2 : Code := cr n55_0
noncomputable def n55_3 : Code := cl n55_2
noncomputable def q55_3 : List Oper := opsOf n55_3
noncomputable def n55_4 : Code := cr n55_2
theorem body55 : Try.f55.body = some n55_0 := by kernel_rfl
theorem run55 (E : Ev) (args : List Value) (h : List Blk) (hl : args.length ≤ 18) : runB Try.prog E 55 args h = endS Try.prog [.tmp 6] h.length (codeB Try.prog E ⟨55, 18, h.length, none⟩ n55_0 ⟨enumT 0 args, h, []⟩) := GE.run_step Try.func55 body55 (by kernel_rfl) (by decide) (by kernel_rfl) hl
theorem n55_1s : codeB Try.prog E ⟨f, 18, b, ro⟩ n55_1 st = plainS (runOps Try.prog E b q55_1 (ops [false] Try.f55) st) := GE.region_step (id := 0) (GE.reg_of (by kernel_rfl)) (by kernel_rfl)
theorem n55_3s : codeB Try.prog E ⟨f, 18, b, ro⟩ n55_3 st = drawS [0, 0, 3, 7, 15, 0, 0, 96, 224, 480, 1023, 2047] (runOpsF Try.prog E b q55_3 (ops [true, false] Try.f55) st) := GE.draw_step (id := 1) (GE.reg_of (by kernel_rfl)) (by kernel_rfl) (by kernel_rfl) (by kernel_rfl)
theorem n55_4s : codeB Try.prog LL ⟨55, 18, b, ro⟩ n55_4 st = normS b ⟨[6], []⟩ .ret st := GE.ret_step (by kernel_rfl) (by kernel_rfl)
theorem n55_2s : codeB Try.prog E cx n55_2 st = thenS (codeB Try.prog E cx n55_3 st) (codeB Try.prog E cx n55_4) := GE.seq_step (by kernel_rfl)
theorem n55_0s : codeB Try.prog E cx n55_0 st = thenS (codeB Try.prog E cx n55_1 st) (codeB Try.prog E cx n55_2) := GE.seq_step (by kernel_rfl)
noncomputable def n56_0 : Code := bodyOf Try.f56
noncomputable def n56_1 : Code := cl n56_0
noncomputable def q56_1 : List Oper := opsOf n56_1
noncomputable def n56_2 : Code := cr n56_0
noncomputable def n56_3 : Code := cl n56_2
noncomputable def q56_3 : List Oper := opsOf n56_3
noncomputable def n56_4 : Code := cr n56_2
noncomputable def n56_5 : Code := cl n56_4
noncomputable def n56_6 : Code := cl n56_5
noncomputable def q56_6 : List Oper := opsOf n56_6
noncomputable def n56_7 : Code := cr n56_5
noncomputable def n56_8 : Code := cl n56_7
noncomputable def n56_9 : Code := cl n56_8
noncomputable def n56_10 : Code := cl n56_9
noncomputable def q56_10 : List Oper := opsOf n56_10
noncomputable def n56_11 : Code := cr n56_9
noncomputable def n56_12 : Code := cl n56_11
noncomputable def n56_13 : Code := cl n56_12
noncomputable def n56_14 : Code := cr n56_12
noncomputable def n56_15 : Code := cr n56_11
noncomputable def n56_16 : Code := cl n56_15
noncomputable def n56_17 : Code := cl n56_16
noncomputable def n56_18 : Code := cl n56_17
noncomputable def q56_18 : List Oper := opsOf n56_18
noncomputable def n56_19 : Code := cr n56_17
noncomputable def n56_20 : Code := cl n56_19
noncomputable def n56_21 : Code := cl n56_20
noncomputable def q56_21 : List Oper := opsOf n56_21
noncomputable def n56_22 : Code := cr n56_20
noncomputable def n56_23 : Code := cl n56_22
noncomputable def q56_23 : List Oper := opsOf n56_23
noncomputable def n56_24 : Code := cr n56_22
noncomputable def n56_25 : Code := cr n56_19
noncomputable def n56_26 : Code := cl n56_25
noncomputable def q56_26 : List Oper := opsOf n56_26
noncomputable def n56_27 : Code := cr n56_25
noncomputable def n56_28 : Code := cl n56_27
noncomputable def q56_28 : List Oper := opsOf n56_28
noncomputable def n56_29 : Code := cr n56_27
noncomputable def n56_30 : Code := cr n56_15
noncomputable def q56_30 : List Oper := opsOf n56_30
noncomputable def n56_31 : Code := cr n56_4
noncomputable def n56_32 : Code := cl n56_31
noncomputable def q56_32 : List Oper := opsOf n56_32
noncomputable def n56_33 : Code := cr n56_31
theorem body56 : Try.f56.body = some n56_0 := by kernel_rfl
theorem run56 (E : Ev) (args : List Value) (h : List Blk) (hl : args.length ≤ 33) : runB Try.prog E 56 args h = endS Try.prog [.cell 4 55] h.length (codeB Try.prog E ⟨56, 33, h.length, none⟩ n56_0 ⟨enumT 0 args, h, []⟩) := GE.run_step Try.func56 body56 (by kernel_rfl) (by decide) (by kernel_rfl) hl
theorem n56_1s : codeB Try.prog E ⟨f, 33, b, ro⟩ n56_1 st = plainS (runOps Try.prog E b q56_1 (ops [false] Try.f56) st) := GE.region_step (id := 0) (GE.reg_of (by kernel_rfl)) (by kernel_rfl)
theorem n56_3s : codeB Try.prog E ⟨f, 33, b, ro⟩ n56_3 st = plainS (runOps Try.prog E b q56_3 (ops [true, false] Try.f56) st) := GE.region_step (id := 1) (GE.reg_of (by kernel_rfl)) (by kernel_rfl)
theorem n56_6s : codeB Try.prog E ⟨f, 33, b, ro⟩ n56_6 st = plainS (runOps Try.prog E b q56_6 (ops [true, true, false, false] Try.f56) st) := GE.region_step (id := 2) (GE.reg_of (by kernel_rfl)) (by kernel_rfl)
theorem n56_10s : codeB Try.prog E ⟨f, 33, b, ro⟩ n56_10 st = plainS (runOps Try.prog E b q56_10 (ops [true, true, false, true, false, false, false] Try.f56) st) := GE.region_step (id := 3) (GE.reg_of (by kernel_rfl)) (by kernel_rfl)
theorem n56_13s : codeB Try.prog E cx n56_13 st = some (.normal, st) := GE.skip_step (by kernel_rfl)
theorem n56_14s : codeB Try.prog LL ⟨56, 33, b, ro⟩ n56_14 st = normS b ⟨[4, 5], []⟩ (.exit 0) st := GE.exit_step (by kernel_rfl) (by kernel_rfl)
theorem n56_12s : codeB Try.prog E cx n56_12 st = condS (codeB Try.prog E cx n56_13) (codeB Try.prog E cx n56_14) (lk st.σ 13) st := GE.cond_step (c := .tmp 13) (by kernel_rfl)
theorem n56_18s : codeB Try.prog E ⟨f, 33, b, ro⟩ n56_18 st = plainS (runOps Try.prog E b q56_18 (ops [true, true, false, true, false, false, true, true, false, false, false] Try.f56) st) := GE.region_step (id := 4) (GE.reg_of (by kernel_rfl)) (by kernel_rfl)
theorem n56_21s : codeB Try.prog E ⟨f, 33, b, ro⟩ n56_21 st = plainS (runOps Try.prog E b q56_21 (ops [true, true, false, true, false, false, true, true, false, false, true, false, false] Try.f56) st) := GE.region_step (id := 5) (GE.reg_of (by kernel_rfl)) (by kernel_rfl)
theorem n56_23s : codeB Try.prog E ⟨f, 33, b, ro⟩ n56_23 st = plainS (runOps Try.prog E b q56_23 (ops [true, true, false, true, false, false, true, true, false, false, true, false, true, false] Try.f56) st) := GE.region_step (id := 6) (GE.reg_of (by kernel_rfl)) (by kernel_rfl)
theorem n56_24s : codeB Try.prog E cx n56_24 st = some (.normal, st) := GE.skip_step (by kernel_rfl)
theorem n56_22s : codeB Try.prog E cx n56_22 st = condS (codeB Try.prog E cx n56_23) (codeB Try.prog E cx n56_24) (lk st.σ 18) st := GE.cond_step (c := .tmp 18) (by kernel_rfl)
theorem n56_20s : codeB Try.prog E cx n56_20 st = thenS (codeB Try.prog E cx n56_21 st) (codeB Try.prog E cx n56_22) := GE.seq_step (by kernel_rfl)
theorem n56_26s : codeB Try.prog E ⟨f, 33, b, ro⟩ n56_26 st = plainS (runOps Try.prog E b q56_26 (ops [true, true, false, true, false, false, true, true, false, false, true, true, false] Try.f56) st) := GE.region_step (id := 7) (GE.reg_of (by kernel_rfl)) (by kernel_rfl)
theorem n56_28s : codeB Try.prog E ⟨f, 33, b, ro⟩ n56_28 st = plainS (runOps Try.prog E b q56_28 (ops [true, true, false, true, false, false, true, true, false, false, true, true, true, false] Try.f56) st) := GE.region_step (id := 8) (GE.reg_of (by kernel_rfl)) (by kernel_rfl)
theorem n56_29s : codeB Try.prog E cx n56_29 st = some (.normal, st) := GE.skip_step (by kernel_rfl)
theorem n56_27s : codeB Try.prog E cx n56_27 st = condS (codeB Try.prog E cx n56_28) (codeB Try.prog E cx n56_29) (lk st.σ 26) st := GE.cond_step (c := .tmp 26) (by kernel_rfl)
theorem n56_25s : codeB Try.prog E cx n56_25 st = thenS (codeB Try.prog E cx n56_26 st) (codeB Try.prog E cx n56_27) := GE.seq_step (by kernel_rfl)
theorem n56_19s : codeB Try.prog E cx n56_19 st = thenS (codeB Try.prog E cx n56_20 st) (codeB Try.prog E cx n56_25) := GE.seq_step (by kernel_rfl)
theorem n56_17s : codeB Try.prog E cx n56_17 st = thenS (codeB Try.prog E cx n56_18 st) (codeB Try.prog E cx n56_19) := GE.seq_step (by kernel_rfl)
theorem n56_16s : codeB Try.prog E cx n56_16 st = blockS 1 (codeB Try.prog E cx n56_17 st) st := GE.block_step (by kernel_rfl)
theorem n56_30s : codeB Try.prog E ⟨f, 33, b, ro⟩ n56_30 st = plainS (runOps Try.prog E b q56_30 (ops [true, true, false, true, false, false, true, true, true] Try.f56) st) := GE.region_step (id := 9) (GE.reg_of (by kernel_rfl)) (by kernel_rfl)
theorem n56_15s : codeB Try.prog E cx n56_15 st = thenS (codeB Try.prog E cx n56_16 st) (codeB Try.prog E cx n56_30) := GE.seq_step (by kernel_rfl)
theorem n56_11s : codeB Try.prog E cx n56_11 st = thenS (codeB Try.prog E cx n56_12 st) (codeB Try.prog E cx n56_15) := GE.seq_step (by kernel_rfl)
theorem n56_9s : codeB Try.prog E cx n56_9 st = thenS (codeB Try.prog E cx n56_10 st) (codeB Try.prog E cx n56_11) := GE.seq_step (by kernel_rfl)
theorem n56_8k : LL.kp (⟨56, 33, b, ro⟩ : Cx).fn (4 * rid n56_9 + 3) = some ⟨[0, 1, 4, 5, 11, 12], [⟨0, 0, 2, true⟩]⟩ := by kernel_rfl
theorem n56_8s : codeB Try.prog LL ⟨56, 33, b, ro⟩ n56_8 st = headS b ⟨[0, 1, 4, 5, 11, 12], [⟨0, 0, 2, true⟩]⟩ st (lpB Try.prog LL ⟨56, 33, b, ro⟩ n56_8 n56_9) := GE.lpB_step (by kernel_rfl) (n56_8k b ro)
theorem n56_8g : LL.code ⟨56, 33, b, ro⟩ n56_8 st = headS b ⟨[0, 1, 4, 5, 11, 12], [⟨0, 0, 2, true⟩]⟩ st (lpB Try.prog LL ⟨56, 33, b, ro⟩ n56_8 n56_9) := GE.lpB_again (by kernel_rfl) (n56_8k b ro)
theorem n56_7s : codeB Try.prog E cx n56_7 st = blockS 0 (codeB Try.prog E cx n56_8 st) st := GE.block_step (by kernel_rfl)
theorem n56_5s : codeB Try.prog E cx n56_5 st = thenS (codeB Try.prog E cx n56_6 st) (codeB Try.prog E cx n56_7) := GE.seq_step (by kernel_rfl)
theorem n56_32s : codeB Try.prog E ⟨f, 33, b, ro⟩ n56_32 st = plainS (runOps Try.prog E b q56_32 (ops [true, true, true, false] Try.f56) st) := GE.region_step (id := 10) (GE.reg_of (by kernel_rfl)) (by kernel_rfl)
theorem n56_33s : codeB Try.prog LL ⟨56, 33, b, ro⟩ n56_33 st = normS b ⟨[4], []⟩ .ret st := GE.ret_step (by kernel_rfl) (by kernel_rfl)
theorem n56_31s : codeB Try.prog E cx n56_31 st = thenS (codeB Try.prog E cx n56_32 st) (codeB Try.prog E cx n56_33) := GE.seq_step (by kernel_rfl)
theorem n56_4s : codeB Try.prog E cx n56_4 st = thenS (codeB Try.prog E cx n56_5 st) (codeB Try.prog E cx n56_31) := GE.seq_step (by kernel_rfl)
theorem n56_2s : codeB Try.prog E cx n56_2 st = thenS (codeB Try.prog E cx n56_3 st) (codeB Try.prog E cx n56_4) := GE.seq_step (by kernel_rfl)
theorem n56_0s : codeB Try.prog E cx n56_0 st = thenS (codeB Try.prog E cx n56_1 st) (codeB Try.prog E cx n56_2) := GE.seq_step (by kernel_rfl)
noncomputable def n57_0 : Code := bodyOf Try.f57
noncomputable def n57_1 : Code := cl n57_0
noncomputable def q57_1 : List Oper := opsOf n57_1
noncomputable def n57_2 : Code := cr n57_0
noncomputable def n57_3 : Code := cl n57_2
noncomputable def q57_3 : List Oper := opsOf n57_3
noncomputable def n57_4 : Code := cr n57_2
theorem body57 : Try.f57.body = some n57_0 := by kernel_rfl
theorem run57 (E : Ev) (args : List Value) (h : List Blk) (hl : args.length ≤ 15) : runB Try.prog E 57 args h = endS Try.prog [.tmp 6] h.length (codeB Try.prog E ⟨57, 15, h.length, none⟩ n57_0 ⟨enumT 0 args, h, []⟩) := GE.run_step Try.func57 body57 (by kernel_rfl) (by decide) (by kernel_rfl) hl
theorem n57_1s : codeB Try.prog E ⟨f, 15, b, ro⟩ n57_1 st = plainS (runOps Try.prog E b q57_1 (ops [false] Try.f57) st) := GE.region_step (id := 0) (GE.reg_of (by kernel_rfl)) (by kernel_rfl)
theorem q57_3g3 : gd q57_3 3 = some 10 := by kernel_rfl
theorem n57_3s : codeB Try.prog E ⟨f, 15, b, ro⟩ n57_3 st = plainS (runOps Try.prog E b q57_3 (ops [true, false] Try.f57) st) := GE.region_step (id := 1) (GE.reg_of (by kernel_rfl)) (by kernel_rfl)
theorem n57_4s : codeB Try.prog LL ⟨57, 15, b, ro⟩ n57_4 st = normS b ⟨[6], []⟩ .ret st := GE.ret_step (by kernel_rfl) (by kernel_rfl)
theorem n57_2s : codeB Try.prog E cx n57_2 st = thenS (codeB Try.prog E cx n57_3 st) (codeB Try.prog E cx n57_4) := GE.seq_step (by kernel_rfl)
theorem n57_0s : codeB Try.prog E cx n57_0 st = thenS (codeB Try.prog E cx n57_1 st) (codeB Try.prog E cx n57_2) := GE.seq_step (by kernel_rfl)
noncomputable def n58_0 : Code := bodyOf Try.f58
noncomputable def n58_1 : Code := cl n58_0
noncomputable def q58_1 : List Oper := opsOf n58_1
noncomputable def n58_2 : Code := cr n58_0
noncomputable def n58_3 : Code := cl n58_2
noncomputable def q58_3 : List Oper := opsOf n58_3
noncomputable def n58_4 : Code := cr n58_2
theorem body58 : Try.f58.body = some n58_0 := by kernel_rfl
theorem run58 (E : Ev) (args : List Value) (h : List Blk) (hl : args.length ≤ 15) : runB Try.prog E 58 args h = endS Try.prog [.tmp 6] h.length (codeB Try.prog E ⟨58, 15, h.length, none⟩ n58_0 ⟨enumT 0 args, h, []⟩) := GE.run_step Try.func58 body58 (by kernel_rfl) (by decide) (by kernel_rfl) hl
theorem n58_1s : codeB Try.prog E ⟨f, 15, b, ro⟩ n58_1 st = plainS (runOps Try.prog E b q58_1 (ops [false] Try.f58) st) := GE.region_step (id := 0) (GE.reg_of (by kernel_rfl)) (by kernel_rfl)
theorem q58_3g3 : gd q58_3 3 = some 10 := by kernel_rfl
theorem n58_3s : codeB Try.prog E ⟨f, 15, b, ro⟩ n58_3 st = plainS (runOps Try.prog E b q58_3 (ops [true, false] Try.f58) st) := GE.region_step (id := 1) (GE.reg_of (by kernel_rfl)) (by kernel_rfl)
theorem n58_4s : codeB Try.prog LL ⟨58, 15, b, ro⟩ n58_4 st = normS b ⟨[6], []⟩ .ret st := GE.ret_step (by kernel_rfl) (by kernel_rfl)
theorem n58_2s : codeB Try.prog E cx n58_2 st = thenS (codeB Try.prog E cx n58_3 st) (codeB Try.prog E cx n58_4) := GE.seq_step (by kernel_rfl)
theorem n58_0s : codeB Try.prog E cx n58_0 st = thenS (codeB Try.prog E cx n58_1 st) (codeB Try.prog E cx n58_2) := GE.seq_step (by kernel_rfl)
noncomputable def n71_0 : Code := bodyOf Try.f71
noncomputable def n71_1 : Code := cl n71_0
noncomputable def q71_1 : List Oper := opsOf n71_1
noncomputable def n71_2 : Code := cr n71_0
noncomputable def n71_3 : Code := cl n71_2
noncomputable def q71_3 : List Oper := opsOf n71_3
noncomputable def n71_4 : Code := cr n71_2
theorem body71 : Try.f71.body = some n71_0 := by kernel_rfl
theorem run71 (E : Ev) (args : List Value) (h : List Blk) (hl : args.length ≤ 10) : runB Try.prog E 71 args h = endS Try.prog [.tmp 4] h.length (codeB Try.prog E ⟨71, 10, h.length, none⟩ n71_0 ⟨enumT 0 args, h, []⟩) := GE.run_step Try.func71 body71 (by kernel_rfl) (by decide) (by kernel_rfl) hl
theorem n71_1s : codeB Try.prog E ⟨f, 10, b, ro⟩ n71_1 st = plainS (runOps Try.prog E b q71_1 (ops [false] Try.f71) st) := GE.region_step (id := 0) (GE.reg_of (by kernel_rfl)) (by kernel_rfl)
theorem n71_3s : codeB Try.prog E ⟨f, 10, b, ro⟩ n71_3 st = plainS (runOps Try.prog E b q71_3 (ops [true, false] Try.f71) st) := GE.region_step (id := 1) (GE.reg_of (by kernel_rfl)) (by kernel_rfl)
theorem n71_4s : codeB Try.prog LL ⟨71, 10, b, ro⟩ n71_4 st = normS b ⟨[4], []⟩ .ret st := GE.ret_step (by kernel_rfl) (by kernel_rfl)
theorem n71_2s : codeB Try.prog E cx n71_2 st = thenS (codeB Try.prog E cx n71_3 st) (codeB Try.prog E cx n71_4) := GE.seq_step (by kernel_rfl)
theorem n71_0s : codeB Try.prog E cx n71_0 st = thenS (codeB Try.prog E cx n71_1 st) (codeB Try.prog E cx n71_2) := GE.seq_step (by kernel_rfl)
noncomputable def n74_0 : Code := bodyOf Try.f74
noncomputable def n74_1 : Code := cl n74_0
noncomputable def q74_1 : List Oper := opsOf n74_1
noncomputable def n74_2 : Code := cr n74_0
noncomputable def n74_3 : Code := cl n74_2
noncomputable def q74_3 : List Oper := opsOf n74_3
noncomputable def n74_4 : Code := cr n74_2
theorem body74 : Try.f74.body = some n74_0 := by kernel_rfl
theorem run74 (E : Ev) (args : List Value) (h : List Blk) (hl : args.length ≤ 9) : runB Try.prog E 74 args h = endS Try.prog [.tmp 4] h.length (codeB Try.prog E ⟨74, 9, h.length, none⟩ n74_0 ⟨enumT 0 args, h, []⟩) := GE.run_step Try.func74 body74 (by kernel_rfl) (by decide) (by kernel_rfl) hl
theorem n74_1s : codeB Try.prog E ⟨f, 9, b, ro⟩ n74_1 st = plainS (runOps Try.prog E b q74_1 (ops [false] Try.f74) st) := GE.region_step (id := 0) (GE.reg_of (by kernel_rfl)) (by kernel_rfl)
theorem n74_3s : codeB Try.prog E ⟨f, 9, b, ro⟩ n74_3 st = plainS (runOps Try.prog E b q74_3 (ops [true, false] Try.f74) st) := GE.region_step (id := 1) (GE.reg_of (by kernel_rfl)) (by kernel_rfl)
theorem n74_4s : codeB Try.prog LL ⟨74, 9, b, ro⟩ n74_4 st = normS b ⟨[4], []⟩ .ret st := GE.ret_step (by kernel_rfl) (by kernel_rfl)
theorem n74_2s : codeB Try.prog E cx n74_2 st = thenS (codeB Try.prog E cx n74_3 st) (codeB Try.prog E cx n74_4) := GE.seq_step (by kernel_rfl)
theorem n74_0s : codeB Try.prog E cx n74_0 st = thenS (codeB Try.prog E cx n74_1 st) (codeB Try.prog E cx n74_2) := GE.seq_step (by kernel_rfl)
noncomputable def n75_0 : Code := bodyOf Try.f75
noncomputable def n75_1 : Code := cl n75_0
noncomputable def q75_1 : List Oper := opsOf n75_1
noncomputable def n75_2 : Code := cr n75_0
noncomputable def n75_3 : Code := cl n75_2
noncomputable def q75_3 : List Oper := opsOf n75_3
noncomputable def n75_4 : Code := cr n75_2
theorem body75 : Try.f75.body = some n75_0 := by kernel_rfl
theorem run75 (E : Ev) (args : List Value) (h : List Blk) (hl : args.length ≤ 14) : runB Try.prog E 75 args h = endS Try.prog [.tmp 2] h.length (codeB Try.prog E ⟨75, 14, h.length, none⟩ n75_0 ⟨enumT 0 args, h, []⟩) := GE.run_step Try.func75 body75 (by kernel_rfl) (by decide) (by kernel_rfl) hl
theorem n75_1s : codeB Try.prog E ⟨f, 14, b, ro⟩ n75_1 st = plainS (runOps Try.prog E b q75_1 (ops [false] Try.f75) st) := GE.region_step (id := 0) (GE.reg_of (by kernel_rfl)) (by kernel_rfl)
theorem q75_3g6 : gd q75_3 6 = some 9 := by kernel_rfl
theorem n75_3s : codeB Try.prog E ⟨f, 14, b, ro⟩ n75_3 st = plainS (runOps Try.prog E b q75_3 (ops [true, false] Try.f75) st) := GE.region_step (id := 1) (GE.reg_of (by kernel_rfl)) (by kernel_rfl)
theorem n75_4s : codeB Try.prog LL ⟨75, 14, b, ro⟩ n75_4 st = normS b ⟨[2], []⟩ .ret st := GE.ret_step (by kernel_rfl) (by kernel_rfl)
theorem n75_2s : codeB Try.prog E cx n75_2 st = thenS (codeB Try.prog E cx n75_3 st) (codeB Try.prog E cx n75_4) := GE.seq_step (by kernel_rfl)
theorem n75_0s : codeB Try.prog E cx n75_0 st = thenS (codeB Try.prog E cx n75_1 st) (codeB Try.prog E cx n75_2) := GE.seq_step (by kernel_rfl)
noncomputable def n77_0 : Code := bodyOf Try.f77
noncomputable def n77_1 : Code := cl n77_0
noncomputable def q77_1 : List Oper := opsOf n77_1
noncomputable def n77_2 : Code := cr n77_0
noncomputable def n77_3 : Code := cl n77_2
noncomputable def q77_3 : List Oper := opsOf n77_3
noncomputable def n77_4 : Code := cr n77_2
theorem body77 : Try.f77.body = some n77_0 := by kernel_rfl
theorem run77 (E : Ev) (args : List Value) (h : List Blk) (hl : args.length ≤ 18) : runB Try.prog E 77 args h = endS Try.prog [.tmp 6] h.length (codeB Try.prog E ⟨77, 18, h.length, none⟩ n77_0 ⟨enumT 0 args, h, []⟩) := GE.run_step Try.func77 body77 (by kernel_rfl) (by decide) (by kernel_rfl) hl
theorem n77_1s : codeB Try.prog E ⟨f, 18, b, ro⟩ n77_1 st = plainS (runOps Try.prog E b q77_1 (ops [false] Try.f77) st) := GE.region_step (id := 0) (GE.reg_of (by kernel_rfl)) (by kernel_rfl)
theorem n77_3s : codeB Try.prog E ⟨f, 18, b, ro⟩ n77_3 st = drawS [0, 0, 3, 7, 15, 0, 0, 96, 224, 480, 1023, 2047] (runOpsF Try.prog E b q77_3 (ops [true, false] Try.f77) st) := GE.draw_step (id := 1) (GE.reg_of (by kernel_rfl)) (by kernel_rfl) (by kernel_rfl) (by kernel_rfl)
theorem n77_4s : codeB Try.prog LL ⟨77, 18, b, ro⟩ n77_4 st = normS b ⟨[6], []⟩ .ret st := GE.ret_step (by kernel_rfl) (by kernel_rfl)
theorem n77_2s : codeB Try.prog E cx n77_2 st = thenS (codeB Try.prog E cx n77_3 st) (codeB Try.prog E cx n77_4) := GE.seq_step (by kernel_rfl)
theorem n77_0s : codeB Try.prog E cx n77_0 st = thenS (codeB Try.prog E cx n77_1 st) (codeB Try.prog E cx n77_2) := GE.seq_step (by kernel_rfl)
noncomputable def n82_0 : Code := bodyOf Try.f82
noncomputable def n82_1 : Code := cl n82_0
noncomputable def q82_1 : List Oper := opsOf n82_1
noncomputable def n82_2 : Code := cr n82_0
noncomputable def n82_3 : Code := cl n82_2
noncomputable def n82_4 : Code := cl n82_3
noncomputable def q82_4 : List Oper := opsOf n82_4
noncomputable def n82_5 : Code := cr n82_3
noncomputable def n82_6 : Code := cl n82_5
noncomputable def n82_7 : Code := cl n82_6
noncomputable def n82_8 : Code := cl n82_7
noncomputable def q82_8 : List Oper := opsOf n82_8
noncomputable def n82_9 : Code := cr n82_7
noncomputable def n82_10 : Code := cl n82_9
noncomputable def n82_11 : Code := cl n82_10
noncomputable def n82_12 : Code := cr n82_10
noncomputable def n82_13 : Code := cr n82_9
noncomputable def n82_14 : Code := cl n82_13
noncomputable def n82_15 : Code := cl n82_14
noncomputable def n82_16 : Code := cl n82_15
noncomputable def q82_16 : List Oper := opsOf n82_16
noncomputable def n82_17 : Code := cr n82_15
noncomputable def n82_18 : Code := cl n82_17
noncomputable def q82_18 : List Oper := opsOf n82_18
noncomputable def n82_19 : Code := cr n82_17
noncomputable def n82_20 : Code := cl n82_19
noncomputable def n82_21 : Code := cl n82_20
noncomputable def q82_21 : List Oper := opsOf n82_21
noncomputable def n82_22 : Code := cr n82_20
noncomputable def n82_23 : Code := cr n82_19
noncomputable def n82_24 : Code := cr n82_13
noncomputable def q82_24 : List Oper := opsOf n82_24
noncomputable def n82_25 : Code := cr n82_2
noncomputable def n82_26 : Code := cl n82_25
noncomputable def q82_26 : List Oper := opsOf n82_26
noncomputable def n82_27 : Code := cr n82_25
theorem body82 : Try.f82.body = some n82_0 := by kernel_rfl
theorem run82 (E : Ev) (args : List Value) (h : List Blk) (hl : args.length ≤ 19) : runB Try.prog E 82 args h = endS Try.prog [.tmp 4] h.length (codeB Try.prog E ⟨82, 19, h.length, none⟩ n82_0 ⟨enumT 0 args, h, []⟩) := GE.run_step Try.func82 body82 (by kernel_rfl) (by decide) (by kernel_rfl) hl
theorem n82_1s : codeB Try.prog E ⟨f, 19, b, ro⟩ n82_1 st = plainS (runOps Try.prog E b q82_1 (ops [false] Try.f82) st) := GE.region_step (id := 0) (GE.reg_of (by kernel_rfl)) (by kernel_rfl)
theorem n82_4s : codeB Try.prog E ⟨f, 19, b, ro⟩ n82_4 st = plainS (runOps Try.prog E b q82_4 (ops [true, false, false] Try.f82) st) := GE.region_step (id := 1) (GE.reg_of (by kernel_rfl)) (by kernel_rfl)
theorem n82_8s : codeB Try.prog E ⟨f, 19, b, ro⟩ n82_8 st = plainS (runOps Try.prog E b q82_8 (ops [true, false, true, false, false, false] Try.f82) st) := GE.region_step (id := 2) (GE.reg_of (by kernel_rfl)) (by kernel_rfl)
theorem n82_11s : codeB Try.prog E cx n82_11 st = some (.normal, st) := GE.skip_step (by kernel_rfl)
theorem n82_12s : codeB Try.prog LL ⟨82, 19, b, ro⟩ n82_12 st = normS b ⟨[], []⟩ (.exit 0) st := GE.exit_step (by kernel_rfl) (by kernel_rfl)
theorem n82_10s : codeB Try.prog E cx n82_10 st = condS (codeB Try.prog E cx n82_11) (codeB Try.prog E cx n82_12) (lk st.σ 9) st := GE.cond_step (c := .tmp 9) (by kernel_rfl)
theorem n82_16s : codeB Try.prog E ⟨f, 19, b, ro⟩ n82_16 st = plainS (runOps Try.prog E b q82_16 (ops [true, false, true, false, false, true, true, false, false, false] Try.f82) st) := GE.region_step (id := 3) (GE.reg_of (by kernel_rfl)) (by kernel_rfl)
theorem n82_18s : codeB Try.prog E ⟨f, 19, b, ro⟩ n82_18 st = plainS (runOps Try.prog E b q82_18 (ops [true, false, true, false, false, true, true, false, false, true, false] Try.f82) st) := GE.region_step (id := 4) (GE.reg_of (by kernel_rfl)) (by kernel_rfl)
theorem n82_21s : codeB Try.prog E ⟨f, 19, b, ro⟩ n82_21 st = plainS (runOps Try.prog E b q82_21 (ops [true, false, true, false, false, true, true, false, false, true, true, false, false] Try.f82) st) := GE.region_step (id := 5) (GE.reg_of (by kernel_rfl)) (by kernel_rfl)
theorem n82_22s : codeB Try.prog LL ⟨82, 19, b, ro⟩ n82_22 st = normS b ⟨[4], []⟩ .ret st := GE.ret_step (by kernel_rfl) (by kernel_rfl)
theorem n82_20s : codeB Try.prog E cx n82_20 st = thenS (codeB Try.prog E cx n82_21 st) (codeB Try.prog E cx n82_22) := GE.seq_step (by kernel_rfl)
theorem n82_23s : codeB Try.prog E cx n82_23 st = some (.normal, st) := GE.skip_step (by kernel_rfl)
theorem n82_19s : codeB Try.prog E cx n82_19 st = condS (codeB Try.prog E cx n82_20) (codeB Try.prog E cx n82_23) (lk st.σ 16) st := GE.cond_step (c := .tmp 16) (by kernel_rfl)
theorem n82_17s : codeB Try.prog E cx n82_17 st = thenS (codeB Try.prog E cx n82_18 st) (codeB Try.prog E cx n82_19) := GE.seq_step (by kernel_rfl)
theorem n82_15s : codeB Try.prog E cx n82_15 st = thenS (codeB Try.prog E cx n82_16 st) (codeB Try.prog E cx n82_17) := GE.seq_step (by kernel_rfl)
theorem n82_14s : codeB Try.prog E cx n82_14 st = blockS 1 (codeB Try.prog E cx n82_15 st) st := GE.block_step (by kernel_rfl)
theorem n82_24s : codeB Try.prog E ⟨f, 19, b, ro⟩ n82_24 st = plainS (runOps Try.prog E b q82_24 (ops [true, false, true, false, false, true, true, true] Try.f82) st) := GE.region_step (id := 6) (GE.reg_of (by kernel_rfl)) (by kernel_rfl)
theorem n82_13s : codeB Try.prog E cx n82_13 st = thenS (codeB Try.prog E cx n82_14 st) (codeB Try.prog E cx n82_24) := GE.seq_step (by kernel_rfl)
theorem n82_9s : codeB Try.prog E cx n82_9 st = thenS (codeB Try.prog E cx n82_10 st) (codeB Try.prog E cx n82_13) := GE.seq_step (by kernel_rfl)
theorem n82_7s : codeB Try.prog E cx n82_7 st = thenS (codeB Try.prog E cx n82_8 st) (codeB Try.prog E cx n82_9) := GE.seq_step (by kernel_rfl)
theorem n82_6k : LL.kp (⟨82, 19, b, ro⟩ : Cx).fn (4 * rid n82_7 + 3) = some ⟨[0, 1, 7, 8], [⟨0, 0, 2, true⟩]⟩ := by kernel_rfl
theorem n82_6s : codeB Try.prog LL ⟨82, 19, b, ro⟩ n82_6 st = headS b ⟨[0, 1, 7, 8], [⟨0, 0, 2, true⟩]⟩ st (lpB Try.prog LL ⟨82, 19, b, ro⟩ n82_6 n82_7) := GE.lpB_step (by kernel_rfl) (n82_6k b ro)
theorem n82_6g : LL.code ⟨82, 19, b, ro⟩ n82_6 st = headS b ⟨[0, 1, 7, 8], [⟨0, 0, 2, true⟩]⟩ st (lpB Try.prog LL ⟨82, 19, b, ro⟩ n82_6 n82_7) := GE.lpB_again (by kernel_rfl) (n82_6k b ro)
theorem n82_5s : codeB Try.prog E cx n82_5 st = blockS 0 (codeB Try.prog E cx n82_6 st) st := GE.block_step (by kernel_rfl)
theorem n82_3s : codeB Try.prog E cx n82_3 st = thenS (codeB Try.prog E cx n82_4 st) (codeB Try.prog E cx n82_5) := GE.seq_step (by kernel_rfl)
theorem n82_26s : codeB Try.prog E ⟨f, 19, b, ro⟩ n82_26 st = plainS (runOps Try.prog E b q82_26 (ops [true, true, false] Try.f82) st) := GE.region_step (id := 7) (GE.reg_of (by kernel_rfl)) (by kernel_rfl)
theorem n82_27s : codeB Try.prog LL ⟨82, 19, b, ro⟩ n82_27 st = normS b ⟨[4], []⟩ .ret st := GE.ret_step (by kernel_rfl) (by kernel_rfl)
theorem n82_25s : codeB Try.prog E cx n82_25 st = thenS (codeB Try.prog E cx n82_26 st) (codeB Try.prog E cx n82_27) := GE.seq_step (by kernel_rfl)
theorem n82_2s : codeB Try.prog E cx n82_2 st = thenS (codeB Try.prog E cx n82_3 st) (codeB Try.prog E cx n82_25) := GE.seq_step (by kernel_rfl)
theorem n82_0s : codeB Try.prog E cx n82_0 st = thenS (codeB Try.prog E cx n82_1 st) (codeB Try.prog E cx n82_2) := GE.seq_step (by kernel_rfl)
theorem lk_22 : lenK Try.prog 22 = some .sl := by kernel_rfl
theorem ia_22 : aggK Try.prog 22 = some (false, 1) := by kernel_rfl
theorem za_75 : zeroA Try.prog 75 = some .nilFunc := by kernel_rfl
theorem sz_75 : aggSize Try.prog 75 = some 1 := by kernel_rfl
theorem ia_75 : aggK Try.prog 75 = some (false, 1) := by kernel_rfl
theorem lk_24 : lenK Try.prog 24 = some .sl := by kernel_rfl
theorem es_81 : elemK Try.prog 81 = some (none, 1) := by kernel_rfl
theorem ia_4 : aggK Try.prog 4 = some (false, 1) := by kernel_rfl
theorem es_24 : elemK Try.prog 24 = some (none, 1) := by kernel_rfl
theorem ze_24 : zeroE Try.prog 24 = some (.int .i64 (0)) := by kernel_rfl
theorem ba_24_1 : baseArr (Value.cells (.int .i64 (0))) (1 * 1) = #[(.int .i64 (0))] := by kernel_rfl
theorem ap_24 : apK Try.prog 24 = some (1, 8) := by kernel_rfl
theorem ni_24 : notInt Try.prog 24 = true := by kernel_rfl
theorem sz_4 : aggSize Try.prog 4 = some 1 := by kernel_rfl
theorem es_22 : elemK Try.prog 22 = some (none, 2) := by kernel_rfl
theorem ze_22 : zeroE Try.prog 22 = some (.agg #[(.int .i64 (0)), (.int .i64 (0))]) := by kernel_rfl
theorem ba_22_1 : baseArr (Value.cells (.agg #[(.int .i64 (0)), (.int .i64 (0))])) (1 * 2) = #[(.int .i64 (0)), (.int .i64 (0))] := by kernel_rfl
theorem ap_22 : apK Try.prog 22 = some (2, 16) := by kernel_rfl
theorem ni_22 : notInt Try.prog 22 = true := by kernel_rfl
theorem za_55 : zeroA Try.prog 55 = some (.agg #[(.int .i64 (0)), (.int .i64 (0))]) := by kernel_rfl
theorem pl_55 : plK Try.prog 55 = some [(0, 1), (1, 1)] := by kernel_rfl
theorem sz_55 : aggSize Try.prog 55 = some 2 := by kernel_rfl
theorem fa_55_0 : fieldAt Try.prog 55 0 = some (0, 1) := by kernel_rfl
theorem ia_3 : aggK Try.prog 3 = some (false, 1) := by kernel_rfl
theorem sz_3 : aggSize Try.prog 3 = some 1 := by kernel_rfl
theorem fa_55_1 : fieldAt Try.prog 55 1 = some (1, 1) := by kernel_rfl
theorem ia_55 : aggK Try.prog 55 = some (true, 2) := by kernel_rfl
theorem sl_24 : elemK Try.prog 24 = some (none, 1) := by kernel_rfl
theorem lk_78 : lenK Try.prog 78 = some .sl := by kernel_rfl
theorem es_78 : elemK Try.prog 78 = some (none, 2) := by kernel_rfl

end Go.Proofs.Ytfccmddkblbeoaa.rk
