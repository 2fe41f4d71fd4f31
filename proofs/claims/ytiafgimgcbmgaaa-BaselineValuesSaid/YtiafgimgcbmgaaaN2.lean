/-
  Names for the nodes of the code of some functions (projections of their bodies), the step of each node, and the facts of types that they use.
-/
import Derived.Test.YtiafgimgcbmgaaaN1
namespace Go.Proofs.Ytiafgimgcbmgaaa.bl
open Go.GE
set_option maxRecDepth 100000
variable (E : Ev) (cx : Cx) (st : St) (f nt b : Nat) (ro : Option Nat)
noncomputable def n3_0 : Code := bodyOf Try.f3
noncomputable def n3_1 : Code := cl n3_0
noncomputable def q3_1 : List Oper := opsOf n3_1
noncomputable def n3_2 : Code := cr n3_0
noncomputable def n3_3 : Code := cl n3_2
noncomputable def n3_4 : Code := cl n3_3
noncomputable def q3_4 : List Oper := opsOf n3_4
noncomputable def n3_5 : Code := cr n3_3
noncomputable def n3_6 : Code := cl n3_5
noncomputable def n3_7 : Code := cl n3_6
noncomputable def q3_7 : List Oper := opsOf n3_7
noncomputable def n3_8 : Code := cr n3_6
noncomputable def n3_9 : Code := cr n3_5
noncomputable def n3_10 : Code := cr n3_2
noncomputable def n3_11 : Code := cl n3_10
noncomputable def q3_11 : List Oper := opsOf n3_11
noncomputable def n3_12 : Code := cr n3_10
noncomputable def n3_13 : Code := cl n3_12
noncomputable def q3_13 : List Oper := opsOf n3_13
noncomputable def n3_14 : Code := cr n3_12
noncomputable def n3_15 : Code := cl n3_14
noncomputable def q3_15 : List Oper := opsOf n3_15
noncomputable def n3_16 : Code := cr n3_14
noncomputable def n3_17 : Code := cl n3_16
noncomputable def q3_17 : List Oper := opsOf n3_17
noncomputable def n3_18 : Code := cr n3_16
theorem body3 : Try.f3.body = some n3_0 := by kernel_rfl
theorem run3 (E : Ev) (args : List Value) (h : List Blk) (hl : args.length ≤ 59) : runB Try.prog E 3 args h = endS Try.prog [.tmp 4] h.length (codeB Try.prog E ⟨3, 59, h.length, none⟩ n3_0 ⟨enumT 0 args, h, []⟩) := GE.run_step Try.func3 body3 (by kernel_rfl) (by decide) (by kernel_rfl) hl
theorem n3_1s : codeB Try.prog E ⟨f, 59, b, ro⟩ n3_1 st = plainS (runOps Try.prog E b q3_1 (ops [false] Try.f3) st) := GE.region_step (id := 0) (GE.reg_of (by kernel_rfl)) (by kernel_rfl)
theorem q3_4g4 : gd q3_4 4 = some 14 := by kernel_rfl
theorem n3_4s : codeB Try.prog E ⟨f, 59, b, ro⟩ n3_4 st = plainS (runOps Try.prog E b q3_4 (ops [true, false, false] Try.f3) st) := GE.region_step (id := 1) (GE.reg_of (by kernel_rfl)) (by kernel_rfl)
theorem n3_7s : codeB Try.prog E ⟨f, 59, b, ro⟩ n3_7 st = plainS (runOps Try.prog E b q3_7 (ops [true, false, true, false, false] Try.f3) st) := GE.region_step (id := 2) (GE.reg_of (by kernel_rfl)) (by kernel_rfl)
theorem n3_8s : codeB Try.prog LL ⟨3, 59, b, ro⟩ n3_8 st = normS b ⟨[4], []⟩ .ret st := GE.ret_step (by kernel_rfl) (by kernel_rfl)
theorem n3_6s : codeB Try.prog E cx n3_6 st = thenS (codeB Try.prog E cx n3_7 st) (codeB Try.prog E cx n3_8) := GE.seq_step (by kernel_rfl)
theorem n3_9s : codeB Try.prog E cx n3_9 st = some (.normal, st) := GE.skip_step (by kernel_rfl)
theorem n3_5s : codeB Try.prog E cx n3_5 st = condS (codeB Try.prog E cx n3_6) (codeB Try.prog E cx n3_9) (lk st.σ 18) st := GE.cond_step (c := .tmp 18) (by kernel_rfl)
theorem n3_3s : codeB Try.prog E cx n3_3 st = thenS (codeB Try.prog E cx n3_4 st) (codeB Try.prog E cx n3_5) := GE.seq_step (by kernel_rfl)
theorem n3_11s : codeB Try.prog E ⟨f, 59, b, ro⟩ n3_11 st = plainS (runOps Try.prog E b q3_11 (ops [true, true, false] Try.f3) st) := GE.region_step (id := 3) (GE.reg_of (by kernel_rfl)) (by kernel_rfl)
theorem n3_13s : codeB Try.prog E ⟨f, 59, b, ro⟩ n3_13 st = plainS (runOps Try.prog E b q3_13 (ops [true, true, true, false] Try.f3) st) := GE.region_step (id := 4) (GE.reg_of (by kernel_rfl)) (by kernel_rfl)
theorem n3_15s : codeB Try.prog E ⟨f, 59, b, ro⟩ n3_15 st = plainS (runOps Try.prog E b q3_15 (ops [true, true, true, true, false] Try.f3) st) := GE.region_step (id := 5) (GE.reg_of (by kernel_rfl)) (by kernel_rfl)
theorem q3_17g3 : gd q3_17 3 = some 35 := by kernel_rfl
theorem q3_17g8 : gd q3_17 8 = some 40 := by kernel_rfl
theorem q3_17g17 : gd q3_17 17 = some 49 := by kernel_rfl
theorem q3_17g24 : gd q3_17 24 = some 56 := by kernel_rfl
theorem n3_17s : codeB Try.prog E ⟨f, 59, b, ro⟩ n3_17 st = drawS [0, 0, 3, 7, 15, 15, 63, 127, 255, 511, 511, 2047, 511, 511, 16383, 32767, 65535, 131071, 262143, 524287, 262143, 2097151, 4194303, 8388607, 16777215, 33554431, 67108863, 134217727] (runOpsF Try.prog E b q3_17 (ops [true, true, true, true, true, false] Try.f3) st) := GE.draw_step (id := 6) (GE.reg_of (by kernel_rfl)) (by kernel_rfl) (by kernel_rfl) (by kernel_rfl)
theorem n3_18s : codeB Try.prog LL ⟨3, 59, b, ro⟩ n3_18 st = normS b ⟨[4], []⟩ .ret st := GE.ret_step (by kernel_rfl) (by kernel_rfl)
theorem n3_16s : codeB Try.prog E cx n3_16 st = thenS (codeB Try.prog E cx n3_17 st) (codeB Try.prog E cx n3_18) := GE.seq_step (by kernel_rfl)
theorem n3_14s : codeB Try.prog E cx n3_14 st = thenS (codeB Try.prog E cx n3_15 st) (codeB Try.prog E cx n3_16) := GE.seq_step (by kernel_rfl)
theorem n3_12s : codeB Try.prog E cx n3_12 st = thenS (codeB Try.prog E cx n3_13 st) (codeB Try.prog E cx n3_14) := GE.seq_step (by kernel_rfl)
theorem n3_10s : codeB Try.prog E cx n3_10 st = thenS (codeB Try.prog E cx n3_11 st) (codeB Try.prog E cx n3_12) := GE.seq_step (by kernel_rfl)
theorem n3_2s : codeB Try.prog E cx n3_2 st = thenS (codeB Try.prog E cx n3_3 st) (codeB Try.prog E cx n3_10) := GE.seq_step (by kernel_rfl)
theorem n3_0s : codeB Try.prog E cx n3_0 st = thenS (codeB Try.prog E cx n3_1 st) (codeB Try.prog E cx n3_2) := GE.seq_step (by kernel_rfl)
noncomputable def n4_0 : Code := bodyOf Try.f4
noncomputable def n4_1 : Code := cl n4_0
noncomputable def q4_1 : List Oper := opsOf n4_1
noncomputable def n4_2 : Code := cr n4_0
noncomputable def n4_3 : Code := cl n4_2
noncomputable def n4_4 : Code := cl n4_3
noncomputable def q4_4 : List Oper := opsOf n4_4
noncomputable def n4_5 : Code := cr n4_3
noncomputable def n4_6 : Code := cl n4_5
noncomputable def n4_7 : Code := cl n4_6
noncomputable def q4_7 : List Oper := opsOf n4_7
noncomputable def n4_8 : Code := cr n4_6
noncomputable def n4_9 : Code := cr n4_5
noncomputable def n4_10 : Code := cr n4_2
noncomputable def n4_11 : Code := cl n4_10
noncomputable def q4_11 : List Oper := opsOf n4_11
noncomputable def n4_12 : Code := cr n4_10
noncomputable def n4_13 : Code := cl n4_12
noncomputable def q4_13 : List Oper := opsOf n4_13
noncomputable def n4_14 : Code := cr n4_12
noncomputable def n4_15 : Code := cl n4_14
noncomputable def q4_15 : List Oper := opsOf n4_15
noncomputable def n4_16 : Code := cr n4_14
noncomputable def n4_17 : Code := cl n4_16
noncomputable def n4_18 : Code := cl n4_17
noncomputable def q4_18 : List Oper := opsOf n4_18
noncomputable def n4_19 : Code := cr n4_17
noncomputable def n4_20 : Code := cl n4_19
noncomputable def n4_21 : Code := cl n4_20
noncomputable def q4_21 : List Oper := opsOf n4_21
noncomputable def n4_22 : Code := cr n4_20
noncomputable def n4_23 : Code := cr n4_19
noncomputable def n4_24 : Code := cr n4_16
noncomputable def n4_25 : Code := cl n4_24
noncomputable def n4_26 : Code := cl n4_25
noncomputable def q4_26 : List Oper := opsOf n4_26
noncomputable def n4_27 : Code := cr n4_25
noncomputable def n4_28 : Code := cl n4_27
noncomputable def n4_29 : Code := cl n4_28
noncomputable def q4_29 : List Oper := opsOf n4_29
noncomputable def n4_30 : Code := cr n4_28
noncomputable def n4_31 : Code := cr n4_27
noncomputable def n4_32 : Code := cr n4_24
noncomputable def n4_33 : Code := cl n4_32
noncomputable def q4_33 : List Oper := opsOf n4_33
noncomputable def n4_34 : Code := cr n4_32
theorem body4 : Try.f4.body = some n4_0 := by kernel_rfl
theorem run4 (E : Ev) (args : List Value) (h : List Blk) (hl : args.length ≤ 68) : runB Try.prog E 4 args h = endS Try.prog [.tmp 4] h.length (codeB Try.prog E ⟨4, 68, h.length, none⟩ n4_0 ⟨enumT 0 args, h, []⟩) := GE.run_step Try.func4 body4 (by kernel_rfl) (by decide) (by kernel_rfl) hl
theorem n4_1s : codeB Try.prog E ⟨f, 68, b, ro⟩ n4_1 st = plainS (runOps Try.prog E b q4_1 (ops [false] Try.f4) st) := GE.region_step (id := 0) (GE.reg_of (by kernel_rfl)) (by kernel_rfl)
theorem q4_4g4 : gd q4_4 4 = some 14 := by kernel_rfl
theorem n4_4s : codeB Try.prog E ⟨f, 68, b, ro⟩ n4_4 st = plainS (runOps Try.prog E b q4_4 (ops [true, false, false] Try.f4) st) := GE.region_step (id := 1) (GE.reg_of (by kernel_rfl)) (by kernel_rfl)
theorem n4_7s : codeB Try.prog E ⟨f, 68, b, ro⟩ n4_7 st = plainS (runOps Try.prog E b q4_7 (ops [true, false, true, false, false] Try.f4) st) := GE.region_step (id := 2) (GE.reg_of (by kernel_rfl)) (by kernel_rfl)
theorem n4_8s : codeB Try.prog LL ⟨4, 68, b, ro⟩ n4_8 st = normS b ⟨[4], []⟩ .ret st := GE.ret_step (by kernel_rfl) (by kernel_rfl)
theorem n4_6s : codeB Try.prog E cx n4_6 st = thenS (codeB Try.prog E cx n4_7 st) (codeB Try.prog E cx n4_8) := GE.seq_step (by kernel_rfl)
theorem n4_9s : codeB Try.prog E cx n4_9 st = some (.normal, st) := GE.skip_step (by kernel_rfl)
theorem n4_5s : codeB Try.prog E cx n4_5 st = condS (codeB Try.prog E cx n4_6) (codeB Try.prog E cx n4_9) (lk st.σ 18) st := GE.cond_step (c := .tmp 18) (by kernel_rfl)
theorem n4_3s : codeB Try.prog E cx n4_3 st = thenS (codeB Try.prog E cx n4_4 st) (codeB Try.prog E cx n4_5) := GE.seq_step (by kernel_rfl)
theorem n4_11s : codeB Try.prog E ⟨f, 68, b, ro⟩ n4_11 st = plainS (runOps Try.prog E b q4_11 (ops [true, true, false] Try.f4) st) := GE.region_step (id := 3) (GE.reg_of (by kernel_rfl)) (by kernel_rfl)
theorem n4_13s : codeB Try.prog E ⟨f, 68, b, ro⟩ n4_13 st = plainS (runOps Try.prog E b q4_13 (ops [true, true, true, false] Try.f4) st) := GE.region_step (id := 4) (GE.reg_of (by kernel_rfl)) (by kernel_rfl)
theorem n4_15s : codeB Try.prog E ⟨f, 68, b, ro⟩ n4_15 st = plainS (runOps Try.prog E b q4_15 (ops [true, true, true, true, false] Try.f4) st) := GE.region_step (id := 5) (GE.reg_of (by kernel_rfl)) (by kernel_rfl)
theorem q4_18g3 : gd q4_18 3 = some 35 := by kernel_rfl
theorem n4_18s : codeB Try.prog E ⟨f, 68, b, ro⟩ n4_18 st = drawS [0, 0, 3, 7, 15, 15, 63, 15, 15, 383, 1023, 2047, 4095] (runOpsF Try.prog E b q4_18 (ops [true, true, true, true, true, false, false] Try.f4) st) := GE.draw_step (id := 6) (GE.reg_of (by kernel_rfl)) (by kernel_rfl) (by kernel_rfl) (by kernel_rfl)
theorem n4_21s : codeB Try.prog E ⟨f, 68, b, ro⟩ n4_21 st = plainS (runOps Try.prog E b q4_21 (ops [true, true, true, true, true, false, true, false, false] Try.f4) st) := GE.region_step (id := 7) (GE.reg_of (by kernel_rfl)) (by kernel_rfl)
theorem n4_22s : codeB Try.prog LL ⟨4, 68, b, ro⟩ n4_22 st = normS b ⟨[4], []⟩ .ret st := GE.ret_step (by kernel_rfl) (by kernel_rfl)
theorem n4_20s : codeB Try.prog E cx n4_20 st = thenS (codeB Try.prog E cx n4_21 st) (codeB Try.prog E cx n4_22) := GE.seq_step (by kernel_rfl)
theorem n4_23s : codeB Try.prog E cx n4_23 st = some (.normal, st) := GE.skip_step (by kernel_rfl)
theorem n4_19s : codeB Try.prog E cx n4_19 st = condS (codeB Try.prog E cx n4_20) (codeB Try.prog E cx n4_23) (lk st.σ 44) st := GE.cond_step (c := .tmp 44) (by kernel_rfl)
theorem n4_17s : codeB Try.prog E cx n4_17 st = thenS (codeB Try.prog E cx n4_18 st) (codeB Try.prog E cx n4_19) := GE.seq_step (by kernel_rfl)
theorem n4_26s : codeB Try.prog E ⟨f, 68, b, ro⟩ n4_26 st = plainS (runOps Try.prog E b q4_26 (ops [true, true, true, true, true, true, false, false] Try.f4) st) := GE.region_step (id := 8) (GE.reg_of (by kernel_rfl)) (by kernel_rfl)
theorem q4_29g3 : gd q4_29 3 = some 50 := by kernel_rfl
theorem n4_29s : codeB Try.prog E ⟨f, 68, b, ro⟩ n4_29 st = plainS (runOps Try.prog E b q4_29 (ops [true, true, true, true, true, true, false, true, false, false] Try.f4) st) := GE.region_step (id := 9) (GE.reg_of (by kernel_rfl)) (by kernel_rfl)
theorem n4_30s : codeB Try.prog LL ⟨4, 68, b, ro⟩ n4_30 st = normS b ⟨[4], []⟩ .ret st := GE.ret_step (by kernel_rfl) (by kernel_rfl)
theorem n4_28s : codeB Try.prog E cx n4_28 st = thenS (codeB Try.prog E cx n4_29 st) (codeB Try.prog E cx n4_30) := GE.seq_step (by kernel_rfl)
theorem n4_31s : codeB Try.prog E cx n4_31 st = some (.normal, st) := GE.skip_step (by kernel_rfl)
theorem n4_27s : codeB Try.prog E cx n4_27 st = condS (codeB Try.prog E cx n4_28) (codeB Try.prog E cx n4_31) (lk st.σ 46) st := GE.cond_step (c := .tmp 46) (by kernel_rfl)
theorem n4_25s : codeB Try.prog E cx n4_25 st = thenS (codeB Try.prog E cx n4_26 st) (codeB Try.prog E cx n4_27) := GE.seq_step (by kernel_rfl)
theorem q4_33g5 : gd q4_33 5 = some 58 := by kernel_rfl
theorem q4_33g12 : gd q4_33 12 = some 65 := by kernel_rfl
theorem n4_33s : codeB Try.prog E ⟨f, 68, b, ro⟩ n4_33 st = drawS [0, 1, 0, 4, 15, 31, 63, 63, 191, 511, 1023, 2047, 4095, 8191, 16383, 32767] (runOpsF Try.prog E b q4_33 (ops [true, true, true, true, true, true, true, false] Try.f4) st) := GE.draw_step (id := 10) (GE.reg_of (by kernel_rfl)) (by kernel_rfl) (by kernel_rfl) (by kernel_rfl)
theorem n4_34s : codeB Try.prog LL ⟨4, 68, b, ro⟩ n4_34 st = normS b ⟨[4], []⟩ .ret st := GE.ret_step (by kernel_rfl) (by kernel_rfl)
theorem n4_32s : codeB Try.prog E cx n4_32 st = thenS (codeB Try.prog E cx n4_33 st) (codeB Try.prog E cx n4_34) := GE.seq_step (by kernel_rfl)
theorem n4_24s : codeB Try.prog E cx n4_24 st = thenS (codeB Try.prog E cx n4_25 st) (codeB Try.prog E cx n4_32) := GE.seq_step (by kernel_rfl)
theorem n4_16s : codeB Try.prog E cx n4_16 st = thenS (codeB Try.prog E cx n4_17 st) (codeB Try.prog E cx n4_24) := GE.seq_step (by kernel_rfl)
theorem n4_14s : codeB Try.prog E cx n4_14 st = thenS (codeB Try.prog E cx n4_15 st) (codeB Try.prog E cx n4_16) := GE.seq_step (by kernel_rfl)
theorem n4_12s : codeB Try.prog E cx n4_12 st = thenS (codeB Try.prog E cx n4_13 st) (codeB Try.prog E cx n4_14) := GE.seq_step (by kernel_rfl)
theorem n4_10s : codeB Try.prog E cx n4_10 st = thenS (codeB Try.prog E cx n4_11 st) (codeB Try.prog E cx n4_12) := GE.seq_step (by kernel_rfl)
theorem n4_2s : codeB Try.prog E cx n4_2 st = thenS (codeB Try.prog E cx n4_3 st) (codeB Try.prog E cx n4_10) := GE.seq_step (by kernel_rfl)
theorem n4_0s : codeB Try.prog E cx n4_0 st = thenS (codeB Try.prog E cx n4_1 st) (codeB Try.prog E cx n4_2) := GE.seq_step (by kernel_rfl)
noncomputable def n6_0 : Code := bodyOf Try.f6
noncomputable def n6_1 : Code := cl n6_0
noncomputable def q6_1 : List Oper := opsOf n6_1
noncomputable def n6_2 : Code := cr n6_0
noncomputable def n6_3 : Code := cl n6_2
noncomputable def n6_4 : Code := cl n6_3
noncomputable def q6_4 : List Oper := opsOf n6_4
noncomputable def n6_5 : Code := cr n6_3
noncomputable def n6_6 : Code := cl n6_5
noncomputable def n6_7 : Code := cl n6_6
noncomputable def q6_7 : List Oper := opsOf n6_7
noncomputable def n6_8 : Code := cr n6_6
noncomputable def n6_9 : Code := cr n6_5
noncomputable def n6_10 : Code := cr n6_2
noncomputable def n6_11 : Code := cl n6_10
noncomputable def q6_11 : List Oper := opsOf n6_11
noncomputable def n6_12 : Code := cr n6_10
noncomputable def n6_13 : Code := cl n6_12
noncomputable def q6_13 : List Oper := opsOf n6_13
noncomputable def n6_14 : Code := cr n6_12
noncomputable def n6_15 : Code := cl n6_14
noncomputable def q6_15 : List Oper := opsOf n6_15
noncomputable def n6_16 : Code := cr n6_14
noncomputable def n6_17 : Code := cl n6_16
noncomputable def q6_17 : List Oper := opsOf n6_17
noncomputable def n6_18 : Code := cr n6_16
noncomputable def n6_19 : Code := cl n6_18
noncomputable def q6_19 : List Oper := opsOf n6_19
noncomputable def n6_20 : Code := cr n6_18
noncomputable def n6_21 : Code := cl n6_20
noncomputable def q6_21 : List Oper := opsOf n6_21
noncomputable def n6_22 : Code := cr n6_20
noncomputable def n6_23 : Code := cl n6_22
noncomputable def q6_23 : List Oper := opsOf n6_23
noncomputable def n6_24 : Code := cr n6_22
noncomputable def n6_25 : Code := cl n6_24
noncomputable def q6_25 : List Oper := opsOf n6_25
noncomputable def n6_26 : Code := cr n6_24
theorem body6 : Try.f6.body = some n6_0 := by kernel_rfl
theorem run6 (E : Ev) (args : List Value) (h : List Blk) (hl : args.length ≤ 101) : runB Try.prog E 6 args h = endS Try.prog [.tmp 6] h.length (codeB Try.prog E ⟨6, 101, h.length, none⟩ n6_0 ⟨enumT 0 args, h, []⟩) := GE.run_step Try.func6 body6 (by kernel_rfl) (by decide) (by kernel_rfl) hl
theorem n6_1s : codeB Try.prog E ⟨f, 101, b, ro⟩ n6_1 st = plainS (runOps Try.prog E b q6_1 (ops [false] Try.f6) st) := GE.region_step (id := 0) (GE.reg_of (by kernel_rfl)) (by kernel_rfl)
theorem q6_4g4 : gd q6_4 4 = some 24 := by kernel_rfl
theorem n6_4s : codeB Try.prog E ⟨f, 101, b, ro⟩ n6_4 st = plainS (runOps Try.prog E b q6_4 (ops [true, false, false] Try.f6) st) := GE.region_step (id := 1) (GE.reg_of (by kernel_rfl)) (by kernel_rfl)
theorem n6_7s : codeB Try.prog E ⟨f, 101, b, ro⟩ n6_7 st = plainS (runOps Try.prog E b q6_7 (ops [true, false, true, false, false] Try.f6) st) := GE.region_step (id := 2) (GE.reg_of (by kernel_rfl)) (by kernel_rfl)
theorem n6_8s : codeB Try.prog LL ⟨6, 101, b, ro⟩ n6_8 st = normS b ⟨[6], []⟩ .ret st := GE.ret_step (by kernel_rfl) (by kernel_rfl)
theorem n6_6s : codeB Try.prog E cx n6_6 st = thenS (codeB Try.prog E cx n6_7 st) (codeB Try.prog E cx n6_8) := GE.seq_step (by kernel_rfl)
theorem n6_9s : codeB Try.prog E cx n6_9 st = some (.normal, st) := GE.skip_step (by kernel_rfl)
theorem n6_5s : codeB Try.prog E cx n6_5 st = condS (codeB Try.prog E cx n6_6) (codeB Try.prog E cx n6_9) (lk st.σ 28) st := GE.cond_step (c := .tmp 28) (by kernel_rfl)
theorem n6_3s : codeB Try.prog E cx n6_3 st = thenS (codeB Try.prog E cx n6_4 st) (codeB Try.prog E cx n6_5) := GE.seq_step (by kernel_rfl)
theorem n6_11s : codeB Try.prog E ⟨f, 101, b, ro⟩ n6_11 st = plainS (runOps Try.prog E b q6_11 (ops [true, true, false] Try.f6) st) := GE.region_step (id := 3) (GE.reg_of (by kernel_rfl)) (by kernel_rfl)
theorem n6_13s : codeB Try.prog E ⟨f, 101, b, ro⟩ n6_13 st = plainS (runOps Try.prog E b q6_13 (ops [true, true, true, false] Try.f6) st) := GE.region_step (id := 4) (GE.reg_of (by kernel_rfl)) (by kernel_rfl)
theorem n6_15s : codeB Try.prog E ⟨f, 101, b, ro⟩ n6_15 st = plainS (runOps Try.prog E b q6_15 (ops [true, true, true, true, false] Try.f6) st) := GE.region_step (id := 5) (GE.reg_of (by kernel_rfl)) (by kernel_rfl)
theorem n6_17s : codeB Try.prog E ⟨f, 101, b, ro⟩ n6_17 st = plainS (runOps Try.prog E b q6_17 (ops [true, true, true, true, true, false] Try.f6) st) := GE.region_step (id := 6) (GE.reg_of (by kernel_rfl)) (by kernel_rfl)
theorem n6_19s : codeB Try.prog E ⟨f, 101, b, ro⟩ n6_19 st = plainS (runOps Try.prog E b q6_19 (ops [true, true, true, true, true, true, false] Try.f6) st) := GE.region_step (id := 7) (GE.reg_of (by kernel_rfl)) (by kernel_rfl)
theorem n6_21s : codeB Try.prog E ⟨f, 101, b, ro⟩ n6_21 st = plainS (runOps Try.prog E b q6_21 (ops [true, true, true, true, true, true, true, false] Try.f6) st) := GE.region_step (id := 8) (GE.reg_of (by kernel_rfl)) (by kernel_rfl)
theorem n6_23s : codeB Try.prog E ⟨f, 101, b, ro⟩ n6_23 st = plainS (runOps Try.prog E b q6_23 (ops [true, true, true, true, true, true, true, true, false] Try.f6) st) := GE.region_step (id := 9) (GE.reg_of (by kernel_rfl)) (by kernel_rfl)
theorem q6_25g3 : gd q6_25 3 = some 73 := by kernel_rfl
theorem q6_25g8 : gd q6_25 8 = some 78 := by kernel_rfl
theorem q6_25g13 : gd q6_25 13 = some 83 := by kernel_rfl
theorem q6_25g18 : gd q6_25 18 = some 88 := by kernel_rfl
theorem q6_25g23 : gd q6_25 23 = some 93 := by kernel_rfl
theorem q6_25g28 : gd q6_25 28 = some 98 := by kernel_rfl
theorem n6_25s : codeB Try.prog E ⟨f, 101, b, ro⟩ n6_25 st = plainS (runOps Try.prog E b q6_25 (ops [true, true, true, true, true, true, true, true, true, false] Try.f6) st) := GE.region_step (id := 10) (GE.reg_of (by kernel_rfl)) (by kernel_rfl)
theorem n6_26s : codeB Try.prog LL ⟨6, 101, b, ro⟩ n6_26 st = normS b ⟨[6], []⟩ .ret st := GE.ret_step (by kernel_rfl) (by kernel_rfl)
theorem n6_24s : codeB Try.prog E cx n6_24 st = thenS (codeB Try.prog E cx n6_25 st) (codeB Try.prog E cx n6_26) := GE.seq_step (by kernel_rfl)
theorem n6_22s : codeB Try.prog E cx n6_22 st = thenS (codeB Try.prog E cx n6_23 st) (codeB Try.prog E cx n6_24) := GE.seq_step (by kernel_rfl)
theorem n6_20s : codeB Try.prog E cx n6_20 st = thenS (codeB Try.prog E cx n6_21 st) (codeB Try.prog E cx n6_22) := GE.seq_step (by kernel_rfl)
theorem n6_18s : codeB Try.prog E cx n6_18 st = thenS (codeB Try.prog E cx n6_19 st) (codeB Try.prog E cx n6_20) := GE.seq_step (by kernel_rfl)
theorem n6_16s : codeB Try.prog E cx n6_16 st = thenS (codeB Try.prog E cx n6_17 st) (codeB Try.prog E cx n6_18) := GE.seq_step (by kernel_rfl)
theorem n6_14s : codeB Try.prog E cx n6_14 st = thenS (codeB Try.prog E cx n6_15 st) (codeB Try.prog E cx n6_16) := GE.seq_step (by kernel_rfl)
theorem n6_12s : codeB Try.prog E cx n6_12 st = thenS (codeB Try.prog E cx n6_13 st) (codeB Try.prog E cx n6_14) := GE.seq_step (by kernel_rfl)
theorem n6_10s : codeB Try.prog E cx n6_10 st = thenS (codeB Try.prog E cx n6_11 st) (codeB Try.prog E cx n6_12) := GE.seq_step (by kernel_rfl)
theorem n6_2s : codeB Try.prog E cx n6_2 st = thenS (codeB Try.prog E cx n6_3 st) (codeB Try.prog E cx n6_10) := GE.seq_step (by kernel_rfl)
theorem n6_0s : codeB Try.prog E cx n6_0 st = thenS (codeB Try.prog E cx n6_1 st) (codeB Try.prog E cx n6_2) := GE.seq_step (by kernel_rfl)
noncomputable def n16_0 : Code := bodyOf Try.f16
noncomputable def n16_1 : Code := cl n16_0
noncomputable def q16_1 : List Oper := opsOf n16_1
noncomputable def n16_2 : Code := cr n16_0
noncomputable def n16_3 : Code := cl n16_2
noncomputable def q16_3 : List Oper := opsOf n16_3
noncomputable def n16_4 : Code := cr n16_2
noncomputable def n16_5 : Code := cl n16_4
noncomputable def n16_6 : Code := cl n16_5
noncomputable def q16_6 : List Oper := opsOf n16_6
noncomputable def n16_7 : Code := cr n16_5
noncomputable def n16_8 : Code := cl n16_7
noncomputable def n16_9 : Code := cl n16_8
noncomputable def n16_10 : Code := cl n16_9
noncomputable def n16_11 : Code := cl n16_10
noncomputable def q16_11 : List Oper := opsOf n16_11
noncomputable def n16_12 : Code := cr n16_10
noncomputable def n16_13 : Code := cl n16_12
noncomputable def n16_14 : Code := cr n16_12
noncomputable def n16_15 : Code := cr n16_9
noncomputable def n16_16 : Code := cl n16_15
noncomputable def n16_17 : Code := cl n16_16
noncomputable def q16_17 : List Oper := opsOf n16_17
noncomputable def n16_18 : Code := cr n16_15
noncomputable def q16_18 : List Oper := opsOf n16_18
noncomputable def n16_19 : Code := cr n16_4
noncomputable def n16_20 : Code := cl n16_19
noncomputable def q16_20 : List Oper := opsOf n16_20
noncomputable def n16_21 : Code := cr n16_19
theorem body16 : Try.f16.body = some n16_0 := by kernel_rfl
theorem run16 (E : Ev) (args : List Value) (h : List Blk) (hl : args.length ≤ 28) : runB Try.prog E 16 args h = endS Try.prog [.cell 2 29] h.length (codeB Try.prog E ⟨16, 28, h.length, none⟩ n16_0 ⟨enumT 0 args, h, []⟩) := GE.run_step Try.func16 body16 (by kernel_rfl) (by decide) (by kernel_rfl) hl
theorem n16_1s : codeB Try.prog E ⟨f, 28, b, ro⟩ n16_1 st = plainS (runOps Try.prog E b q16_1 (ops [false] Try.f16) st) := GE.region_step (id := 0) (GE.reg_of (by kernel_rfl)) (by kernel_rfl)
theorem n16_3s : codeB Try.prog E ⟨f, 28, b, ro⟩ n16_3 st = plainS (runOps Try.prog E b q16_3 (ops [true, false] Try.f16) st) := GE.region_step (id := 1) (GE.reg_of (by kernel_rfl)) (by kernel_rfl)
theorem n16_6s : codeB Try.prog E ⟨f, 28, b, ro⟩ n16_6 st = plainS (runOps Try.prog E b q16_6 (ops [true, true, false, false] Try.f16) st) := GE.region_step (id := 2) (GE.reg_of (by kernel_rfl)) (by kernel_rfl)
theorem n16_11s : codeB Try.prog E ⟨f, 28, b, ro⟩ n16_11 st = plainS (runOps Try.prog E b q16_11 (ops [true, true, false, true, false, false, false, false] Try.f16) st) := GE.region_step (id := 3) (GE.reg_of (by kernel_rfl)) (by kernel_rfl)
theorem n16_13s : codeB Try.prog E cx n16_13 st = some (.normal, st) := GE.skip_step (by kernel_rfl)
theorem n16_14s : codeB Try.prog LL ⟨16, 28, b, ro⟩ n16_14 st = normS b ⟨[2, 3], [⟨2, 2, 3, true⟩, ⟨3, 2, 3, true⟩]⟩ (.exit 0) st := GE.exit_step (by kernel_rfl) (by kernel_rfl)
theorem n16_12s : codeB Try.prog E cx n16_12 st = condS (codeB Try.prog E cx n16_13) (codeB Try.prog E cx n16_14) (lk st.σ 14) st := GE.cond_step (c := .tmp 14) (by kernel_rfl)
theorem n16_10s : codeB Try.prog E cx n16_10 st = thenS (codeB Try.prog E cx n16_11 st) (codeB Try.prog E cx n16_12) := GE.seq_step (by kernel_rfl)
theorem n16_17s : codeB Try.prog E ⟨f, 28, b, ro⟩ n16_17 st = drawS [0, 1, 0, 4, 0, 28, 60, 124, 255, 511, 1023] (runOpsF Try.prog E b q16_17 (ops [true, true, false, true, false, false, true, false, false] Try.f16) st) := GE.draw_step (id := 5) (GE.reg_of (by kernel_rfl)) (by kernel_rfl) (by kernel_rfl) (by kernel_rfl)
theorem n16_16s : codeB Try.prog E cx n16_16 st = blockS 1 (codeB Try.prog E cx n16_17 st) st := GE.block_step (by kernel_rfl)
theorem n16_18s : codeB Try.prog E ⟨f, 28, b, ro⟩ n16_18 st = plainS (runOps Try.prog E b q16_18 (ops [true, true, false, true, false, false, true, true] Try.f16) st) := GE.region_step (id := 4) (GE.reg_of (by kernel_rfl)) (by kernel_rfl)
theorem n16_15s : codeB Try.prog E cx n16_15 st = thenS (codeB Try.prog E cx n16_16 st) (codeB Try.prog E cx n16_18) := GE.seq_step (by kernel_rfl)
theorem n16_9s : codeB Try.prog E cx n16_9 st = thenS (codeB Try.prog E cx n16_10 st) (codeB Try.prog E cx n16_15) := GE.seq_step (by kernel_rfl)
theorem n16_8k : LL.kp (⟨16, 28, b, ro⟩ : Cx).fn (4 * rid n16_9 + 3) = some ⟨[1, 2, 3, 4], [⟨1, 2, 3, true⟩, ⟨2, 2, 3, true⟩, ⟨3, 2, 3, true⟩]⟩ := by kernel_rfl
theorem n16_8s : codeB Try.prog LL ⟨16, 28, b, ro⟩ n16_8 st = headS b ⟨[1, 2, 3, 4], [⟨1, 2, 3, true⟩, ⟨2, 2, 3, true⟩, ⟨3, 2, 3, true⟩]⟩ st (lpB Try.prog LL ⟨16, 28, b, ro⟩ n16_8 n16_9) := GE.lpB_step (by kernel_rfl) (n16_8k b ro)
theorem n16_8g : LL.code ⟨16, 28, b, ro⟩ n16_8 st = headS b ⟨[1, 2, 3, 4], [⟨1, 2, 3, true⟩, ⟨2, 2, 3, true⟩, ⟨3, 2, 3, true⟩]⟩ st (lpB Try.prog LL ⟨16, 28, b, ro⟩ n16_8 n16_9) := GE.lpB_again (by kernel_rfl) (n16_8k b ro)
theorem n16_7s : codeB Try.prog E cx n16_7 st = blockS 0 (codeB Try.prog E cx n16_8 st) st := GE.block_step (by kernel_rfl)
theorem n16_5s : codeB Try.prog E cx n16_5 st = thenS (codeB Try.prog E cx n16_6 st) (codeB Try.prog E cx n16_7) := GE.seq_step (by kernel_rfl)
theorem n16_20s : codeB Try.prog E ⟨f, 28, b, ro⟩ n16_20 st = plainS (runOps Try.prog E b q16_20 (ops [true, true, true, false] Try.f16) st) := GE.region_step (id := 6) (GE.reg_of (by kernel_rfl)) (by kernel_rfl)
theorem n16_21s : codeB Try.prog LL ⟨16, 28, b, ro⟩ n16_21 st = normS b ⟨[2], [⟨2, 2, 3, true⟩]⟩ .ret st := GE.ret_step (by kernel_rfl) (by kernel_rfl)
theorem n16_19s : codeB Try.prog E cx n16_19 st = thenS (codeB Try.prog E cx n16_20 st) (codeB Try.prog E cx n16_21) := GE.seq_step (by kernel_rfl)
theorem n16_4s : codeB Try.prog E cx n16_4 st = thenS (codeB Try.prog E cx n16_5 st) (codeB Try.prog E cx n16_19) := GE.seq_step (by kernel_rfl)
theorem n16_2s : codeB Try.prog E cx n16_2 st = thenS (codeB Try.prog E cx n16_3 st) (codeB Try.prog E cx n16_4) := GE.seq_step (by kernel_rfl)
theorem n16_0s : codeB Try.prog E cx n16_0 st = thenS (codeB Try.prog E cx n16_1 st) (codeB Try.prog E cx n16_2) := GE.seq_step (by kernel_rfl)
noncomputable def n17_0 : Code := bodyOf Try.f17
noncomputable def n17_1 : Code := cl n17_0
noncomputable def q17_1 : List Oper := opsOf n17_1
noncomputable def n17_2 : Code := cr n17_0
noncomputable def n17_3 : Code := cl n17_2
noncomputable def n17_4 : Code := cl n17_3
noncomputable def q17_4 : List Oper := opsOf n17_4
noncomputable def n17_5 : Code := cr n17_3
noncomputable def n17_6 : Code := cl n17_5
noncomputable def q17_6 : List Oper := opsOf n17_6
noncomputable def n17_7 : Code := cr n17_5
noncomputable def n17_8 : Code := cl n17_7
noncomputable def n17_9 : Code := cl n17_8
noncomputable def q17_9 : List Oper := opsOf n17_9
noncomputable def n17_10 : Code := cr n17_8
noncomputable def n17_11 : Code := cr n17_7
noncomputable def n17_12 : Code := cr n17_2
noncomputable def n17_13 : Code := cl n17_12
noncomputable def q17_13 : List Oper := opsOf n17_13
noncomputable def n17_14 : Code := cr n17_12
theorem body17 : Try.f17.body = some n17_0 := by kernel_rfl
theorem run17 (E : Ev) (args : List Value) (h : List Blk) (hl : args.length ≤ 14) : runB Try.prog E 17 args h = endS Try.prog [.tmp 2, .tmp 3] h.length (codeB Try.prog E ⟨17, 14, h.length, none⟩ n17_0 ⟨enumT 0 args, h, []⟩) := GE.run_step Try.func17 body17 (by kernel_rfl) (by decide) (by kernel_rfl) hl
theorem n17_1s : codeB Try.prog E ⟨f, 14, b, ro⟩ n17_1 st = plainS (runOps Try.prog E b q17_1 (ops [false] Try.f17) st) := GE.region_step (id := 0) (GE.reg_of (by kernel_rfl)) (by kernel_rfl)
theorem n17_4s : codeB Try.prog E ⟨f, 14, b, ro⟩ n17_4 st = plainS (runOps Try.prog E b q17_4 (ops [true, false, false] Try.f17) st) := GE.region_step (id := 1) (GE.reg_of (by kernel_rfl)) (by kernel_rfl)
theorem n17_6s : codeB Try.prog E ⟨f, 14, b, ro⟩ n17_6 st = plainS (runOps Try.prog E b q17_6 (ops [true, false, true, false] Try.f17) st) := GE.region_step (id := 2) (GE.reg_of (by kernel_rfl)) (by kernel_rfl)
theorem n17_9s : codeB Try.prog E ⟨f, 14, b, ro⟩ n17_9 st = plainS (runOps Try.prog E b q17_9 (ops [true, false, true, true, false, false] Try.f17) st) := GE.region_step (id := 3) (GE.reg_of (by kernel_rfl)) (by kernel_rfl)
theorem n17_10s : codeB Try.prog LL ⟨17, 14, b, ro⟩ n17_10 st = normS b ⟨[2, 3], [⟨2, 0, 1, true⟩]⟩ .ret st := GE.ret_step (by kernel_rfl) (by kernel_rfl)
theorem n17_8s : codeB Try.prog E cx n17_8 st = thenS (codeB Try.prog E cx n17_9 st) (codeB Try.prog E cx n17_10) := GE.seq_step (by kernel_rfl)
theorem n17_11s : codeB Try.prog E cx n17_11 st = some (.normal, st) := GE.skip_step (by kernel_rfl)
theorem n17_7s : codeB Try.prog E cx n17_7 st = condS (codeB Try.prog E cx n17_8) (codeB Try.prog E cx n17_11) (lk st.σ 8) st := GE.cond_step (c := .tmp 8) (by kernel_rfl)
theorem n17_5s : codeB Try.prog E cx n17_5 st = thenS (codeB Try.prog E cx n17_6 st) (codeB Try.prog E cx n17_7) := GE.seq_step (by kernel_rfl)
theorem n17_3s : codeB Try.prog E cx n17_3 st = thenS (codeB Try.prog E cx n17_4 st) (codeB Try.prog E cx n17_5) := GE.seq_step (by kernel_rfl)
theorem n17_13s : codeB Try.prog E ⟨f, 14, b, ro⟩ n17_13 st = plainS (runOps Try.prog E b q17_13 (ops [true, true, false] Try.f17) st) := GE.region_step (id := 4) (GE.reg_of (by kernel_rfl)) (by kernel_rfl)
theorem n17_14s : codeB Try.prog LL ⟨17, 14, b, ro⟩ n17_14 st = normS b ⟨[2, 3], [⟨2, 0, 1, true⟩]⟩ .ret st := GE.ret_step (by kernel_rfl) (by kernel_rfl)
theorem n17_12s : codeB Try.prog E cx n17_12 st = thenS (codeB Try.prog E cx n17_13 st) (codeB Try.prog E cx n17_14) := GE.seq_step (by kernel_rfl)
theorem n17_2s : codeB Try.prog E cx n17_2 st = thenS (codeB Try.prog E cx n17_3 st) (codeB Try.prog E cx n17_12) := GE.seq_step (by kernel_rfl)
theorem n17_0s : codeB Try.prog E cx n17_0 st = thenS (codeB Try.prog E cx n17_1 st) (codeB Try.prog E cx n17_2) := GE.seq_step (by kernel_rfl)
noncomputable def n18_0 : Code := bodyOf Try.f18
noncomputable def n18_1 : Code := cl n18_0
noncomputable def q18_1 : List Oper := opsOf n18_1
noncomputable def n18_2 : Code := cr n18_0
noncomputable def n18_3 : Code := cl n18_2
noncomputable def q18_3 : List Oper := opsOf n18_3
noncomputable def n18_4 : Code := cr n18_2
noncomputable def n18_5 : Code := cl n18_4
noncomputable def n18_6 : Code := cl n18_5
noncomputable def q18_6 : List Oper := opsOf n18_6
noncomputable def n18_7 : Code := cr n18_5
noncomputable def n18_8 : Code := cl n18_7
noncomputable def n18_9 : Code := cl n18_8
noncomputable def q18_9 : List Oper := opsOf n18_9
noncomputable def n18_10 : Code := cr n18_8
noncomputable def n18_11 : Code := cr n18_7
noncomputable def n18_12 : Code := cr n18_4
noncomputable def n18_13 : Code := cl n18_12
noncomputable def q18_13 : List Oper := opsOf n18_13
noncomputable def n18_14 : Code := cr n18_12
noncomputable def n18_15 : Code := cl n18_14
noncomputable def q18_15 : List Oper := opsOf n18_15
noncomputable def n18_16 : Code := cr n18_14
theorem body18 : Try.f18.body = some n18_0 := by kernel_rfl
theorem run18 (E : Ev) (args : List Value) (h : List Blk) (hl : args.length ≤ 18) : runB Try.prog E 18 args h = endS Try.prog [.tmp 2, .tmp 3] h.length (codeB Try.prog E ⟨18, 18, h.length, none⟩ n18_0 ⟨enumT 0 args, h, []⟩) := GE.run_step Try.func18 body18 (by kernel_rfl) (by decide) (by kernel_rfl) hl
theorem n18_1s : codeB Try.prog E ⟨f, 18, b, ro⟩ n18_1 st = plainS (runOps Try.prog E b q18_1 (ops [false] Try.f18) st) := GE.region_step (id := 0) (GE.reg_of (by kernel_rfl)) (by kernel_rfl)
theorem n18_3s : codeB Try.prog E ⟨f, 18, b, ro⟩ n18_3 st = plainS (runOps Try.prog E b q18_3 (ops [true, false] Try.f18) st) := GE.region_step (id := 1) (GE.reg_of (by kernel_rfl)) (by kernel_rfl)
theorem n18_6s : codeB Try.prog E ⟨f, 18, b, ro⟩ n18_6 st = plainS (runOps Try.prog E b q18_6 (ops [true, true, false, false] Try.f18) st) := GE.region_step (id := 2) (GE.reg_of (by kernel_rfl)) (by kernel_rfl)
theorem n18_9s : codeB Try.prog E ⟨f, 18, b, ro⟩ n18_9 st = plainS (runOps Try.prog E b q18_9 (ops [true, true, false, true, false, false] Try.f18) st) := GE.region_step (id := 3) (GE.reg_of (by kernel_rfl)) (by kernel_rfl)
theorem n18_10s : codeB Try.prog LL ⟨18, 18, b, ro⟩ n18_10 st = normS b ⟨[2, 3], [⟨2, 0, 1, true⟩]⟩ .ret st := GE.ret_step (by kernel_rfl) (by kernel_rfl)
theorem n18_8s : codeB Try.prog E cx n18_8 st = thenS (codeB Try.prog E cx n18_9 st) (codeB Try.prog E cx n18_10) := GE.seq_step (by kernel_rfl)
theorem n18_11s : codeB Try.prog E cx n18_11 st = some (.normal, st) := GE.skip_step (by kernel_rfl)
theorem n18_7s : codeB Try.prog E cx n18_7 st = condS (codeB Try.prog E cx n18_8) (codeB Try.prog E cx n18_11) (lk st.σ 10) st := GE.cond_step (c := .tmp 10) (by kernel_rfl)
theorem n18_5s : codeB Try.prog E cx n18_5 st = thenS (codeB Try.prog E cx n18_6 st) (codeB Try.prog E cx n18_7) := GE.seq_step (by kernel_rfl)
theorem n18_13s : codeB Try.prog E ⟨f, 18, b, ro⟩ n18_13 st = plainS (runOps Try.prog E b q18_13 (ops [true, true, true, false] Try.f18) st) := GE.region_step (id := 4) (GE.reg_of (by kernel_rfl)) (by kernel_rfl)
theorem n18_15s : codeB Try.prog E ⟨f, 18, b, ro⟩ n18_15 st = plainS (runOps Try.prog E b q18_15 (ops [true, true, true, true, false] Try.f18) st) := GE.region_step (id := 5) (GE.reg_of (by kernel_rfl)) (by kernel_rfl)
theorem n18_16s : codeB Try.prog LL ⟨18, 18, b, ro⟩ n18_16 st = normS b ⟨[2, 3], [⟨2, 0, 1, true⟩]⟩ .ret st := GE.ret_step (by kernel_rfl) (by kernel_rfl)
theorem n18_14s : codeB Try.prog E cx n18_14 st = thenS (codeB Try.prog E cx n18_15 st) (codeB Try.prog E cx n18_16) := GE.seq_step (by kernel_rfl)
theorem n18_12s : codeB Try.prog E cx n18_12 st = thenS (codeB Try.prog E cx n18_13 st) (codeB Try.prog E cx n18_14) := GE.seq_step (by kernel_rfl)
theorem n18_4s : codeB Try.prog E cx n18_4 st = thenS (codeB Try.prog E cx n18_5 st) (codeB Try.prog E cx n18_12) := GE.seq_step (by kernel_rfl)
theorem n18_2s : codeB Try.prog E cx n18_2 st = thenS (codeB Try.prog E cx n18_3 st) (codeB Try.prog E cx n18_4) := GE.seq_step (by kernel_rfl)
theorem n18_0s : codeB Try.prog E cx n18_0 st = thenS (codeB Try.prog E cx n18_1 st) (codeB Try.prog E cx n18_2) := GE.seq_step (by kernel_rfl)
noncomputable def n19_0 : Code := bodyOf Try.f19
noncomputable def n19_1 : Code := cl n19_0
noncomputable def q19_1 : List Oper := opsOf n19_1
noncomputable def n19_2 : Code := cr n19_0
noncomputable def n19_3 : Code := cl n19_2
noncomputable def n19_4 : Code := cl n19_3
noncomputable def q19_4 : List Oper := opsOf n19_4
noncomputable def n19_5 : Code := cr n19_3
noncomputable def n19_6 : Code := cl n19_5
noncomputable def n19_7 : Code := cl n19_6
noncomputable def q19_7 : List Oper := opsOf n19_7
noncomputable def n19_8 : Code := cr n19_6
noncomputable def n19_9 : Code := cr n19_5
noncomputable def n19_10 : Code := cr n19_2
noncomputable def n19_11 : Code := cl n19_10
noncomputable def n19_12 : Code := cl n19_11
noncomputable def q19_12 : List Oper := opsOf n19_12
noncomputable def n19_13 : Code := cr n19_11
noncomputable def n19_14 : Code := cl n19_13
noncomputable def n19_15 : Code := cl n19_14
noncomputable def n19_16 : Code := cl n19_15
noncomputable def n19_17 : Code := cl n19_16
noncomputable def q19_17 : List Oper := opsOf n19_17
noncomputable def n19_18 : Code := cr n19_16
noncomputable def n19_19 : Code := cl n19_18
noncomputable def n19_20 : Code := cr n19_18
noncomputable def n19_21 : Code := cr n19_15
noncomputable def n19_22 : Code := cl n19_21
noncomputable def n19_23 : Code := cl n19_22
noncomputable def n19_24 : Code := cl n19_23
noncomputable def q19_24 : List Oper := opsOf n19_24
noncomputable def n19_25 : Code := cr n19_23
noncomputable def n19_26 : Code := cl n19_25
noncomputable def n19_27 : Code := cl n19_26
noncomputable def q19_27 : List Oper := opsOf n19_27
noncomputable def n19_28 : Code := cr n19_26
noncomputable def n19_29 : Code := cr n19_25
noncomputable def n19_30 : Code := cr n19_21
noncomputable def q19_30 : List Oper := opsOf n19_30
noncomputable def n19_31 : Code := cr n19_10
noncomputable def n19_32 : Code := cl n19_31
noncomputable def q19_32 : List Oper := opsOf n19_32
noncomputable def n19_33 : Code := cr n19_31
theorem body19 : Try.f19.body = some n19_0 := by kernel_rfl
theorem run19 (E : Ev) (args : List Value) (h : List Blk) (hl : args.length ≤ 26) : runB Try.prog E 19 args h = endS Try.prog [.tmp 4] h.length (codeB Try.prog E ⟨19, 26, h.length, none⟩ n19_0 ⟨enumT 0 args, h, []⟩) := GE.run_step Try.func19 body19 (by kernel_rfl) (by decide) (by kernel_rfl) hl
theorem n19_1s : codeB Try.prog E ⟨f, 26, b, ro⟩ n19_1 st = plainS (runOps Try.prog E b q19_1 (ops [false] Try.f19) st) := GE.region_step (id := 0) (GE.reg_of (by kernel_rfl)) (by kernel_rfl)
theorem n19_4s : codeB Try.prog E ⟨f, 26, b, ro⟩ n19_4 st = plainS (runOps Try.prog E b q19_4 (ops [true, false, false] Try.f19) st) := GE.region_step (id := 1) (GE.reg_of (by kernel_rfl)) (by kernel_rfl)
theorem n19_7s : codeB Try.prog E ⟨f, 26, b, ro⟩ n19_7 st = plainS (runOps Try.prog E b q19_7 (ops [true, false, true, false, false] Try.f19) st) := GE.region_step (id := 2) (GE.reg_of (by kernel_rfl)) (by kernel_rfl)
theorem n19_8s : codeB Try.prog LL ⟨19, 26, b, ro⟩ n19_8 st = normS b ⟨[4], []⟩ .ret st := GE.ret_step (by kernel_rfl) (by kernel_rfl)
theorem n19_6s : codeB Try.prog E cx n19_6 st = thenS (codeB Try.prog E cx n19_7 st) (codeB Try.prog E cx n19_8) := GE.seq_step (by kernel_rfl)
theorem n19_9s : codeB Try.prog E cx n19_9 st = some (.normal, st) := GE.skip_step (by kernel_rfl)
theorem n19_5s : codeB Try.prog E cx n19_5 st = condS (codeB Try.prog E cx n19_6) (codeB Try.prog E cx n19_9) (lk st.σ 10) st := GE.cond_step (c := .tmp 10) (by kernel_rfl)
theorem n19_3s : codeB Try.prog E cx n19_3 st = thenS (codeB Try.prog E cx n19_4 st) (codeB Try.prog E cx n19_5) := GE.seq_step (by kernel_rfl)
theorem n19_12s : codeB Try.prog E ⟨f, 26, b, ro⟩ n19_12 st = plainS (runOps Try.prog E b q19_12 (ops [true, true, false, false] Try.f19) st) := GE.region_step (id := 3) (GE.reg_of (by kernel_rfl)) (by kernel_rfl)
theorem n19_17s : codeB Try.prog E ⟨f, 26, b, ro⟩ n19_17 st = plainS (runOps Try.prog E b q19_17 (ops [true, true, false, true, false, false, false, false] Try.f19) st) := GE.region_step (id := 4) (GE.reg_of (by kernel_rfl)) (by kernel_rfl)
theorem n19_19s : codeB Try.prog E cx n19_19 st = some (.normal, st) := GE.skip_step (by kernel_rfl)
theorem n19_20s : codeB Try.prog LL ⟨19, 26, b, ro⟩ n19_20 st = normS b ⟨[], []⟩ (.exit 0) st := GE.exit_step (by kernel_rfl) (by kernel_rfl)
theorem n19_18s : codeB Try.prog E cx n19_18 st = condS (codeB Try.prog E cx n19_19) (codeB Try.prog E cx n19_20) (lk st.σ 14) st := GE.cond_step (c := .tmp 14) (by kernel_rfl)
theorem n19_16s : codeB Try.prog E cx n19_16 st = thenS (codeB Try.prog E cx n19_17 st) (codeB Try.prog E cx n19_18) := GE.seq_step (by kernel_rfl)
theorem n19_24s : codeB Try.prog E ⟨f, 26, b, ro⟩ n19_24 st = drawS [0, 0, 3, 7, 0, 0, 48, 112, 255] (runOpsF Try.prog E b q19_24 (ops [true, true, false, true, false, false, true, false, false, false] Try.f19) st) := GE.draw_step (id := 6) (GE.reg_of (by kernel_rfl)) (by kernel_rfl) (by kernel_rfl) (by kernel_rfl)
theorem n19_27s : codeB Try.prog E ⟨f, 26, b, ro⟩ n19_27 st = plainS (runOps Try.prog E b q19_27 (ops [true, true, false, true, false, false, true, false, false, true, false, false] Try.f19) st) := GE.region_step (id := 7) (GE.reg_of (by kernel_rfl)) (by kernel_rfl)
theorem n19_28s : codeB Try.prog LL ⟨19, 26, b, ro⟩ n19_28 st = normS b ⟨[4], []⟩ .ret st := GE.ret_step (by kernel_rfl) (by kernel_rfl)
theorem n19_26s : codeB Try.prog E cx n19_26 st = thenS (codeB Try.prog E cx n19_27 st) (codeB Try.prog E cx n19_28) := GE.seq_step (by kernel_rfl)
theorem n19_29s : codeB Try.prog E cx n19_29 st = some (.normal, st) := GE.skip_step (by kernel_rfl)
theorem n19_25s : codeB Try.prog E cx n19_25 st = condS (codeB Try.prog E cx n19_26) (codeB Try.prog E cx n19_29) (lk st.σ 25) st := GE.cond_step (c := .tmp 25) (by kernel_rfl)
theorem n19_23s : codeB Try.prog E cx n19_23 st = thenS (codeB Try.prog E cx n19_24 st) (codeB Try.prog E cx n19_25) := GE.seq_step (by kernel_rfl)
theorem n19_22s : codeB Try.prog E cx n19_22 st = blockS 1 (codeB Try.prog E cx n19_23 st) st := GE.block_step (by kernel_rfl)
theorem n19_30s : codeB Try.prog E ⟨f, 26, b, ro⟩ n19_30 st = plainS (runOps Try.prog E b q19_30 (ops [true, true, false, true, false, false, true, true] Try.f19) st) := GE.region_step (id := 5) (GE.reg_of (by kernel_rfl)) (by kernel_rfl)
theorem n19_21s : codeB Try.prog E cx n19_21 st = thenS (codeB Try.prog E cx n19_22 st) (codeB Try.prog E cx n19_30) := GE.seq_step (by kernel_rfl)
theorem n19_15s : codeB Try.prog E cx n19_15 st = thenS (codeB Try.prog E cx n19_16 st) (codeB Try.prog E cx n19_21) := GE.seq_step (by kernel_rfl)
theorem n19_14k : LL.kp (⟨19, 26, b, ro⟩ : Cx).fn (4 * rid n19_15 + 3) = some ⟨[0, 1, 5], [⟨0, 0, 1, true⟩, ⟨1, 0, 1, true⟩]⟩ := by kernel_rfl
theorem n19_14s : codeB Try.prog LL ⟨19, 26, b, ro⟩ n19_14 st = headS b ⟨[0, 1, 5], [⟨0, 0, 1, true⟩, ⟨1, 0, 1, true⟩]⟩ st (lpB Try.prog LL ⟨19, 26, b, ro⟩ n19_14 n19_15) := GE.lpB_step (by kernel_rfl) (n19_14k b ro)
theorem n19_14g : LL.code ⟨19, 26, b, ro⟩ n19_14 st = headS b ⟨[0, 1, 5], [⟨0, 0, 1, true⟩, ⟨1, 0, 1, true⟩]⟩ st (lpB Try.prog LL ⟨19, 26, b, ro⟩ n19_14 n19_15) := GE.lpB_again (by kernel_rfl) (n19_14k b ro)
theorem n19_13s : codeB Try.prog E cx n19_13 st = blockS 0 (codeB Try.prog E cx n19_14 st) st := GE.block_step (by kernel_rfl)
theorem n19_11s : codeB Try.prog E cx n19_11 st = thenS (codeB Try.prog E cx n19_12 st) (codeB Try.prog E cx n19_13) := GE.seq_step (by kernel_rfl)
theorem n19_32s : codeB Try.prog E ⟨f, 26, b, ro⟩ n19_32 st = plainS (runOps Try.prog E b q19_32 (ops [true, true, true, false] Try.f19) st) := GE.region_step (id := 8) (GE.reg_of (by kernel_rfl)) (by kernel_rfl)
theorem n19_33s : codeB Try.prog LL ⟨19, 26, b, ro⟩ n19_33 st = normS b ⟨[4], []⟩ .ret st := GE.ret_step (by kernel_rfl) (by kernel_rfl)
theorem n19_31s : codeB Try.prog E cx n19_31 st = thenS (codeB Try.prog E cx n19_32 st) (codeB Try.prog E cx n19_33) := GE.seq_step (by kernel_rfl)
theorem n19_10s : codeB Try.prog E cx n19_10 st = thenS (codeB Try.prog E cx n19_11 st) (codeB Try.prog E cx n19_31) := GE.seq_step (by kernel_rfl)
theorem n19_2s : codeB Try.prog E cx n19_2 st = thenS (codeB Try.prog E cx n19_3 st) (codeB Try.prog E cx n19_10) := GE.seq_step (by kernel_rfl)
theorem n19_0s : codeB Try.prog E cx n19_0 st = thenS (codeB Try.prog E cx n19_1 st) (codeB Try.prog E cx n19_2) := GE.seq_step (by kernel_rfl)
noncomputable def n24_0 : Code := bodyOf Try.f24
noncomputable def n24_1 : Code := cl n24_0
noncomputable def q24_1 : List Oper := opsOf n24_1
noncomputable def n24_2 : Code := cr n24_0
noncomputable def n24_3 : Code := cl n24_2
noncomputable def n24_4 : Code := cl n24_3
noncomputable def q24_4 : List Oper := opsOf n24_4
noncomputable def n24_5 : Code := cr n24_3
noncomputable def n24_6 : Code := cl n24_5
noncomputable def q24_6 : List Oper := opsOf n24_6
noncomputable def n24_7 : Code := cr n24_5
noncomputable def n24_8 : Code := cl n24_7
noncomputable def n24_9 : Code := cl n24_8
noncomputable def q24_9 : List Oper := opsOf n24_9
noncomputable def n24_10 : Code := cr n24_8
noncomputable def n24_11 : Code := cr n24_7
noncomputable def n24_12 : Code := cr n24_2
noncomputable def n24_13 : Code := cl n24_12
noncomputable def q24_13 : List Oper := opsOf n24_13
noncomputable def n24_14 : Code := cr n24_12
theorem body24 : Try.f24.body = some n24_0 := by kernel_rfl
theorem run24 (E : Ev) (args : List Value) (h : List Blk) (hl : args.length ≤ 12) : runB Try.prog E 24 args h = endS Try.prog [.tmp 2, .tmp 3] h.length (codeB Try.prog E ⟨24, 12, h.length, none⟩ n24_0 ⟨enumT 0 args, h, []⟩) := GE.run_step Try.func24 body24 (by kernel_rfl) (by decide) (by kernel_rfl) hl
theorem n24_1s : codeB Try.prog E ⟨f, 12, b, ro⟩ n24_1 st = plainS (runOps Try.prog E b q24_1 (ops [false] Try.f24) st) := GE.region_step (id := 0) (GE.reg_of (by kernel_rfl)) (by kernel_rfl)
theorem n24_4s : codeB Try.prog E ⟨f, 12, b, ro⟩ n24_4 st = plainS (runOps Try.prog E b q24_4 (ops [true, false, false] Try.f24) st) := GE.region_step (id := 1) (GE.reg_of (by kernel_rfl)) (by kernel_rfl)
theorem n24_6s : codeB Try.prog E ⟨f, 12, b, ro⟩ n24_6 st = plainS (runOps Try.prog E b q24_6 (ops [true, false, true, false] Try.f24) st) := GE.region_step (id := 2) (GE.reg_of (by kernel_rfl)) (by kernel_rfl)
theorem n24_9s : codeB Try.prog E ⟨f, 12, b, ro⟩ n24_9 st = plainS (runOps Try.prog E b q24_9 (ops [true, false, true, true, false, false] Try.f24) st) := GE.region_step (id := 3) (GE.reg_of (by kernel_rfl)) (by kernel_rfl)
theorem n24_10s : codeB Try.prog LL ⟨24, 12, b, ro⟩ n24_10 st = normS b ⟨[2, 3], [⟨2, 0, 2, true⟩]⟩ .ret st := GE.ret_step (by kernel_rfl) (by kernel_rfl)
theorem n24_8s : codeB Try.prog E cx n24_8 st = thenS (codeB Try.prog E cx n24_9 st) (codeB Try.prog E cx n24_10) := GE.seq_step (by kernel_rfl)
theorem n24_11s : codeB Try.prog E cx n24_11 st = some (.normal, st) := GE.skip_step (by kernel_rfl)
theorem n24_7s : codeB Try.prog E cx n24_7 st = condS (codeB Try.prog E cx n24_8) (codeB Try.prog E cx n24_11) (lk st.σ 8) st := GE.cond_step (c := .tmp 8) (by kernel_rfl)
theorem n24_5s : codeB Try.prog E cx n24_5 st = thenS (codeB Try.prog E cx n24_6 st) (codeB Try.prog E cx n24_7) := GE.seq_step (by kernel_rfl)
theorem n24_3s : codeB Try.prog E cx n24_3 st = thenS (codeB Try.prog E cx n24_4 st) (codeB Try.prog E cx n24_5) := GE.seq_step (by kernel_rfl)
theorem n24_13s : codeB Try.prog E ⟨f, 12, b, ro⟩ n24_13 st = plainS (runOps Try.prog E b q24_13 (ops [true, true, false] Try.f24) st) := GE.region_step (id := 4) (GE.reg_of (by kernel_rfl)) (by kernel_rfl)
theorem n24_14s : codeB Try.prog LL ⟨24, 12, b, ro⟩ n24_14 st = normS b ⟨[2, 3], [⟨2, 0, 2, true⟩]⟩ .ret st := GE.ret_step (by kernel_rfl) (by kernel_rfl)
theorem n24_12s : codeB Try.prog E cx n24_12 st = thenS (codeB Try.prog E cx n24_13 st) (codeB Try.prog E cx n24_14) := GE.seq_step (by kernel_rfl)
theorem n24_2s : codeB Try.prog E cx n24_2 st = thenS (codeB Try.prog E cx n24_3 st) (codeB Try.prog E cx n24_12) := GE.seq_step (by kernel_rfl)
theorem n24_0s : codeB Try.prog E cx n24_0 st = thenS (codeB Try.prog E cx n24_1 st) (codeB Try.prog E cx n24_2) := GE.seq_step (by kernel_rfl)
noncomputable def n26_0 : Code := bodyOf Try.f26
noncomputable def n26_1 : Code := cl n26_0
noncomputable def q26_1 : List Oper := opsOf n26_1
noncomputable def n26_2 : Code := cr n26_0
noncomputable def n26_3 : Code := cl n26_2
noncomputable def q26_3 : List Oper := opsOf n26_3
noncomputable def n26_4 : Code := cr n26_2
noncomputable def n26_5 : Code := cl n26_4
noncomputable def n26_6 : Code := cl n26_5
noncomputable def q26_6 : List Oper := opsOf n26_6
noncomputable def n26_7 : Code := cr n26_5
noncomputable def n26_8 : Code := cl n26_7
noncomputable def n26_9 : Code := cl n26_8
noncomputable def q26_9 : List Oper := opsOf n26_9
noncomputable def n26_10 : Code := cr n26_8
noncomputable def n26_11 : Code := cr n26_7
noncomputable def n26_12 : Code := cr n26_4
noncomputable def n26_13 : Code := cl n26_12
noncomputable def n26_14 : Code := cl n26_13
noncomputable def q26_14 : List Oper := opsOf n26_14
noncomputable def n26_15 : Code := cr n26_13
noncomputable def n26_16 : Code := cl n26_15
noncomputable def n26_17 : Code := cl n26_16
noncomputable def n26_18 : Code := cl n26_17
noncomputable def n26_19 : Code := cl n26_18
noncomputable def q26_19 : List Oper := opsOf n26_19
noncomputable def n26_20 : Code := cr n26_18
noncomputable def n26_21 : Code := cl n26_20
noncomputable def n26_22 : Code := cr n26_20
noncomputable def n26_23 : Code := cr n26_17
noncomputable def n26_24 : Code := cl n26_23
noncomputable def n26_25 : Code := cl n26_24
noncomputable def n26_26 : Code := cl n26_25
noncomputable def q26_26 : List Oper := opsOf n26_26
noncomputable def n26_27 : Code := cr n26_25
noncomputable def n26_28 : Code := cl n26_27
noncomputable def n26_29 : Code := cl n26_28
noncomputable def q26_29 : List Oper := opsOf n26_29
noncomputable def n26_30 : Code := cr n26_28
noncomputable def n26_31 : Code := cl n26_30
noncomputable def n26_32 : Code := cl n26_31
noncomputable def q26_32 : List Oper := opsOf n26_32
noncomputable def n26_33 : Code := cr n26_31
noncomputable def n26_34 : Code := cr n26_30
noncomputable def n26_35 : Code := cr n26_27
noncomputable def n26_36 : Code := cl n26_35
noncomputable def n26_37 : Code := cl n26_36
noncomputable def q26_37 : List Oper := opsOf n26_37
noncomputable def n26_38 : Code := cr n26_36
noncomputable def n26_39 : Code := cl n26_38
noncomputable def n26_40 : Code := cl n26_39
noncomputable def q26_40 : List Oper := opsOf n26_40
noncomputable def n26_41 : Code := cr n26_39
noncomputable def n26_42 : Code := cr n26_38
noncomputable def n26_43 : Code := cr n26_35
noncomputable def n26_44 : Code := cl n26_43
noncomputable def q26_44 : List Oper := opsOf n26_44
noncomputable def n26_45 : Code := cr n26_43
noncomputable def n26_46 : Code := cl n26_45
noncomputable def n26_47 : Code := cl n26_46
noncomputable def q26_47 : List Oper := opsOf n26_47
noncomputable def n26_48 : Code := cr n26_46
noncomputable def n26_49 : Code := cr n26_45
noncomputable def n26_50 : Code := cr n26_23
noncomputable def q26_50 : List Oper := opsOf n26_50
noncomputable def n26_51 : Code := cr n26_12
noncomputable def n26_52 : Code := cl n26_51
noncomputable def q26_52 : List Oper := opsOf n26_52
noncomputable def n26_53 : Code := cr n26_51
theorem body26 : Try.f26.body = some n26_0 := by kernel_rfl
theorem run26 (E : Ev) (args : List Value) (h : List Blk) (hl : args.length ≤ 76) : runB Try.prog E 26 args h = endS Try.prog [.tmp 4] h.length (codeB Try.prog E ⟨26, 76, h.length, none⟩ n26_0 ⟨enumT 0 args, h, []⟩) := GE.run_step Try.func26 body26 (by kernel_rfl) (by decide) (by kernel_rfl) hl
theorem n26_1s : codeB Try.prog E ⟨f, 76, b, ro⟩ n26_1 st = plainS (runOps Try.prog E b q26_1 (ops [false] Try.f26) st) := GE.region_step (id := 0) (GE.reg_of (by kernel_rfl)) (by kernel_rfl)
theorem n26_3s : codeB Try.prog E ⟨f, 76, b, ro⟩ n26_3 st = plainS (runOps Try.prog E b q26_3 (ops [true, false] Try.f26) st) := GE.region_step (id := 1) (GE.reg_of (by kernel_rfl)) (by kernel_rfl)
theorem n26_6s : codeB Try.prog E ⟨f, 76, b, ro⟩ n26_6 st = plainS (runOps Try.prog E b q26_6 (ops [true, true, false, false] Try.f26) st) := GE.region_step (id := 2) (GE.reg_of (by kernel_rfl)) (by kernel_rfl)
theorem n26_9s : codeB Try.prog E ⟨f, 76, b, ro⟩ n26_9 st = plainS (runOps Try.prog E b q26_9 (ops [true, true, false, true, false, false] Try.f26) st) := GE.region_step (id := 3) (GE.reg_of (by kernel_rfl)) (by kernel_rfl)
theorem n26_10s : codeB Try.prog LL ⟨26, 76, b, ro⟩ n26_10 st = normS b ⟨[4], []⟩ .ret st := GE.ret_step (by kernel_rfl) (by kernel_rfl)
theorem n26_8s : codeB Try.prog E cx n26_8 st = thenS (codeB Try.prog E cx n26_9 st) (codeB Try.prog E cx n26_10) := GE.seq_step (by kernel_rfl)
theorem n26_11s : codeB Try.prog E cx n26_11 st = some (.normal, st) := GE.skip_step (by kernel_rfl)
theorem n26_7s : codeB Try.prog E cx n26_7 st = condS (codeB Try.prog E cx n26_8) (codeB Try.prog E cx n26_11) (lk st.σ 11) st := GE.cond_step (c := .tmp 11) (by kernel_rfl)
theorem n26_5s : codeB Try.prog E cx n26_5 st = thenS (codeB Try.prog E cx n26_6 st) (codeB Try.prog E cx n26_7) := GE.seq_step (by kernel_rfl)
theorem n26_14s : codeB Try.prog E ⟨f, 76, b, ro⟩ n26_14 st = plainS (runOps Try.prog E b q26_14 (ops [true, true, true, false, false] Try.f26) st) := GE.region_step (id := 4) (GE.reg_of (by kernel_rfl)) (by kernel_rfl)
theorem n26_19s : codeB Try.prog E ⟨f, 76, b, ro⟩ n26_19 st = plainS (runOps Try.prog E b q26_19 (ops [true, true, true, false, true, false, false, false, false] Try.f26) st) := GE.region_step (id := 5) (GE.reg_of (by kernel_rfl)) (by kernel_rfl)
theorem n26_21s : codeB Try.prog E cx n26_21 st = some (.normal, st) := GE.skip_step (by kernel_rfl)
theorem n26_22s : codeB Try.prog LL ⟨26, 76, b, ro⟩ n26_22 st = normS b ⟨[], []⟩ (.exit 0) st := GE.exit_step (by kernel_rfl) (by kernel_rfl)
theorem n26_20s : codeB Try.prog E cx n26_20 st = condS (codeB Try.prog E cx n26_21) (codeB Try.prog E cx n26_22) (lk st.σ 16) st := GE.cond_step (c := .tmp 16) (by kernel_rfl)
theorem n26_18s : codeB Try.prog E cx n26_18 st = thenS (codeB Try.prog E cx n26_19 st) (codeB Try.prog E cx n26_20) := GE.seq_step (by kernel_rfl)
theorem n26_26s : codeB Try.prog E ⟨f, 76, b, ro⟩ n26_26 st = plainS (runOps Try.prog E b q26_26 (ops [true, true, true, false, true, false, false, true, false, false, false] Try.f26) st) := GE.region_step (id := 7) (GE.reg_of (by kernel_rfl)) (by kernel_rfl)
theorem q26_29g8 : gd q26_29 8 = some 31 := by kernel_rfl
theorem n26_29s : codeB Try.prog E ⟨f, 76, b, ro⟩ n26_29 st = plainS (runOps Try.prog E b q26_29 (ops [true, true, true, false, true, false, false, true, false, false, true, false, false] Try.f26) st) := GE.region_step (id := 8) (GE.reg_of (by kernel_rfl)) (by kernel_rfl)
theorem n26_32s : codeB Try.prog E ⟨f, 76, b, ro⟩ n26_32 st = plainS (runOps Try.prog E b q26_32 (ops [true, true, true, false, true, false, false, true, false, false, true, false, true, false, false] Try.f26) st) := GE.region_step (id := 9) (GE.reg_of (by kernel_rfl)) (by kernel_rfl)
theorem n26_33s : codeB Try.prog LL ⟨26, 76, b, ro⟩ n26_33 st = normS b ⟨[4], []⟩ .ret st := GE.ret_step (by kernel_rfl) (by kernel_rfl)
theorem n26_31s : codeB Try.prog E cx n26_31 st = thenS (codeB Try.prog E cx n26_32 st) (codeB Try.prog E cx n26_33) := GE.seq_step (by kernel_rfl)
theorem n26_34s : codeB Try.prog E cx n26_34 st = some (.normal, st) := GE.skip_step (by kernel_rfl)
theorem n26_30s : codeB Try.prog E cx n26_30 st = condS (codeB Try.prog E cx n26_31) (codeB Try.prog E cx n26_34) (lk st.σ 40) st := GE.cond_step (c := .tmp 40) (by kernel_rfl)
theorem n26_28s : codeB Try.prog E cx n26_28 st = thenS (codeB Try.prog E cx n26_29 st) (codeB Try.prog E cx n26_30) := GE.seq_step (by kernel_rfl)
theorem q26_37g5 : gd q26_37 5 = some 46 := by kernel_rfl
theorem q26_37g8 : gd q26_37 8 = some 49 := by kernel_rfl
theorem n26_37s : codeB Try.prog E ⟨f, 76, b, ro⟩ n26_37 st = drawS [0, 1, 0, 4, 15, 31, 63, 127, 255, 511, 1023, 511, 511, 4607, 14847, 31231, 63999, 131071, 262143, 524287] (runOpsF Try.prog E b q26_37 (ops [true, true, true, false, true, false, false, true, false, false, true, true, false, false] Try.f26) st) := GE.draw_step (id := 10) (GE.reg_of (by kernel_rfl)) (by kernel_rfl) (by kernel_rfl) (by kernel_rfl)
theorem n26_40s : codeB Try.prog E ⟨f, 76, b, ro⟩ n26_40 st = plainS (runOps Try.prog E b q26_40 (ops [true, true, true, false, true, false, false, true, false, false, true, true, false, true, false, false] Try.f26) st) := GE.region_step (id := 11) (GE.reg_of (by kernel_rfl)) (by kernel_rfl)
theorem n26_41s : codeB Try.prog LL ⟨26, 76, b, ro⟩ n26_41 st = normS b ⟨[4], []⟩ .ret st := GE.ret_step (by kernel_rfl) (by kernel_rfl)
theorem n26_39s : codeB Try.prog E cx n26_39 st = thenS (codeB Try.prog E cx n26_40 st) (codeB Try.prog E cx n26_41) := GE.seq_step (by kernel_rfl)
theorem n26_42s : codeB Try.prog E cx n26_42 st = some (.normal, st) := GE.skip_step (by kernel_rfl)
theorem n26_38s : codeB Try.prog E cx n26_38 st = condS (codeB Try.prog E cx n26_39) (codeB Try.prog E cx n26_42) (lk st.σ 60) st := GE.cond_step (c := .tmp 60) (by kernel_rfl)
theorem n26_36s : codeB Try.prog E cx n26_36 st = thenS (codeB Try.prog E cx n26_37 st) (codeB Try.prog E cx n26_38) := GE.seq_step (by kernel_rfl)
theorem n26_44s : codeB Try.prog E ⟨f, 76, b, ro⟩ n26_44 st = drawS [0, 0, 2, 0, 8, 30, 62, 0, 128, 0, 512, 1920, 3968, 8191, 16383] (runOpsF Try.prog E b q26_44 (ops [true, true, true, false, true, false, false, true, false, false, true, true, true, false] Try.f26) st) := GE.draw_step (id := 12) (GE.reg_of (by kernel_rfl)) (by kernel_rfl) (by kernel_rfl) (by kernel_rfl)
theorem n26_47s : codeB Try.prog E ⟨f, 76, b, ro⟩ n26_47 st = plainS (runOps Try.prog E b q26_47 (ops [true, true, true, false, true, false, false, true, false, false, true, true, true, true, false, false] Try.f26) st) := GE.region_step (id := 13) (GE.reg_of (by kernel_rfl)) (by kernel_rfl)
theorem n26_48s : codeB Try.prog LL ⟨26, 76, b, ro⟩ n26_48 st = normS b ⟨[4], []⟩ .ret st := GE.ret_step (by kernel_rfl) (by kernel_rfl)
theorem n26_46s : codeB Try.prog E cx n26_46 st = thenS (codeB Try.prog E cx n26_47 st) (codeB Try.prog E cx n26_48) := GE.seq_step (by kernel_rfl)
theorem n26_49s : codeB Try.prog E cx n26_49 st = some (.normal, st) := GE.skip_step (by kernel_rfl)
theorem n26_45s : codeB Try.prog E cx n26_45 st = condS (codeB Try.prog E cx n26_46) (codeB Try.prog E cx n26_49) (lk st.σ 75) st := GE.cond_step (c := .tmp 75) (by kernel_rfl)
theorem n26_43s : codeB Try.prog E cx n26_43 st = thenS (codeB Try.prog E cx n26_44 st) (codeB Try.prog E cx n26_45) := GE.seq_step (by kernel_rfl)
theorem n26_35s : codeB Try.prog E cx n26_35 st = thenS (codeB Try.prog E cx n26_36 st) (codeB Try.prog E cx n26_43) := GE.seq_step (by kernel_rfl)
theorem n26_27s : codeB Try.prog E cx n26_27 st = thenS (codeB Try.prog E cx n26_28 st) (codeB Try.prog E cx n26_35) := GE.seq_step (by kernel_rfl)
theorem n26_25s : codeB Try.prog E cx n26_25 st = thenS (codeB Try.prog E cx n26_26 st) (codeB Try.prog E cx n26_27) := GE.seq_step (by kernel_rfl)
theorem n26_24s : codeB Try.prog E cx n26_24 st = blockS 1 (codeB Try.prog E cx n26_25 st) st := GE.block_step (by kernel_rfl)
theorem n26_50s : codeB Try.prog E ⟨f, 76, b, ro⟩ n26_50 st = plainS (runOps Try.prog E b q26_50 (ops [true, true, true, false, true, false, false, true, true] Try.f26) st) := GE.region_step (id := 6) (GE.reg_of (by kernel_rfl)) (by kernel_rfl)
theorem n26_23s : codeB Try.prog E cx n26_23 st = thenS (codeB Try.prog E cx n26_24 st) (codeB Try.prog E cx n26_50) := GE.seq_step (by kernel_rfl)
theorem n26_17s : codeB Try.prog E cx n26_17 st = thenS (codeB Try.prog E cx n26_18 st) (codeB Try.prog E cx n26_23) := GE.seq_step (by kernel_rfl)
theorem n26_16k : LL.kp (⟨26, 76, b, ro⟩ : Cx).fn (4 * rid n26_17 + 3) = some ⟨[1, 2, 6], [⟨1, 0, 2, true⟩, ⟨2, 2, 3, true⟩]⟩ := by kernel_rfl
theorem n26_16s : codeB Try.prog LL ⟨26, 76, b, ro⟩ n26_16 st = headS b ⟨[1, 2, 6], [⟨1, 0, 2, true⟩, ⟨2, 2, 3, true⟩]⟩ st (lpB Try.prog LL ⟨26, 76, b, ro⟩ n26_16 n26_17) := GE.lpB_step (by kernel_rfl) (n26_16k b ro)
theorem n26_16g : LL.code ⟨26, 76, b, ro⟩ n26_16 st = headS b ⟨[1, 2, 6], [⟨1, 0, 2, true⟩, ⟨2, 2, 3, true⟩]⟩ st (lpB Try.prog LL ⟨26, 76, b, ro⟩ n26_16 n26_17) := GE.lpB_again (by kernel_rfl) (n26_16k b ro)
theorem n26_15s : codeB Try.prog E cx n26_15 st = blockS 0 (codeB Try.prog E cx n26_16 st) st := GE.block_step (by kernel_rfl)
theorem n26_13s : codeB Try.prog E cx n26_13 st = thenS (codeB Try.prog E cx n26_14 st) (codeB Try.prog E cx n26_15) := GE.seq_step (by kernel_rfl)
theorem n26_52s : codeB Try.prog E ⟨f, 76, b, ro⟩ n26_52 st = plainS (runOps Try.prog E b q26_52 (ops [true, true, true, true, false] Try.f26) st) := GE.region_step (id := 14) (GE.reg_of (by kernel_rfl)) (by kernel_rfl)
theorem n26_53s : codeB Try.prog LL ⟨26, 76, b, ro⟩ n26_53 st = normS b ⟨[4], []⟩ .ret st := GE.ret_step (by kernel_rfl) (by kernel_rfl)
theorem n26_51s : codeB Try.prog E cx n26_51 st = thenS (codeB Try.prog E cx n26_52 st) (codeB Try.prog E cx n26_53) := GE.seq_step (by kernel_rfl)
theorem n26_12s : codeB Try.prog E cx n26_12 st = thenS (codeB Try.prog E cx n26_13 st) (codeB Try.prog E cx n26_51) := GE.seq_step (by kernel_rfl)
theorem n26_4s : codeB Try.prog E cx n26_4 st = thenS (codeB Try.prog E cx n26_5 st) (codeB Try.prog E cx n26_12) := GE.seq_step (by kernel_rfl)
theorem n26_2s : codeB Try.prog E cx n26_2 st = thenS (codeB Try.prog E cx n26_3 st) (codeB Try.prog E cx n26_4) := GE.seq_step (by kernel_rfl)
theorem n26_0s : codeB Try.prog E cx n26_0 st = thenS (codeB Try.prog E cx n26_1 st) (codeB Try.prog E cx n26_2) := GE.seq_step (by kernel_rfl)
noncomputable def n27_0 : Code := bodyOf Try.f27
noncomputable def n27_1 : Code := cl n27_0
noncomputable def q27_1 : List Oper := opsOf n27_1
noncomputable def n27_2 : Code := cr n27_0
noncomputable def n27_3 : Code := cl n27_2
noncomputable def q27_3 : List Oper := opsOf n27_3
noncomputable def n27_4 : Code := cr n27_2
noncomputable def n27_5 : Code := cl n27_4
noncomputable def n27_6 : Code := cl n27_5
noncomputable def q27_6 : List Oper := opsOf n27_6
noncomputable def n27_7 : Code := cr n27_5
noncomputable def n27_8 : Code := cl n27_7
noncomputable def n27_9 : Code := cl n27_8
noncomputable def n27_10 : Code := cl n27_9
noncomputable def n27_11 : Code := cl n27_10
noncomputable def q27_11 : List Oper := opsOf n27_11
noncomputable def n27_12 : Code := cr n27_10
noncomputable def n27_13 : Code := cl n27_12
noncomputable def n27_14 : Code := cr n27_12
noncomputable def n27_15 : Code := cr n27_9
noncomputable def n27_16 : Code := cl n27_15
noncomputable def n27_17 : Code := cl n27_16
noncomputable def q27_17 : List Oper := opsOf n27_17
noncomputable def n27_18 : Code := cr n27_15
noncomputable def q27_18 : List Oper := opsOf n27_18
noncomputable def n27_19 : Code := cr n27_4
noncomputable def n27_20 : Code := cl n27_19
noncomputable def q27_20 : List Oper := opsOf n27_20
noncomputable def n27_21 : Code := cr n27_19
theorem body27 : Try.f27.body = some n27_0 := by kernel_rfl
theorem run27 (E : Ev) (args : List Value) (h : List Blk) (hl : args.length ≤ 19) : runB Try.prog E 27 args h = endS Try.prog [.tmp 2] h.length (codeB Try.prog E ⟨27, 19, h.length, none⟩ n27_0 ⟨enumT 0 args, h, []⟩) := GE.run_step Try.func27 body27 (by kernel_rfl) (by decide) (by kernel_rfl) hl
theorem n27_1s : codeB Try.prog E ⟨f, 19, b, ro⟩ n27_1 st = plainS (runOps Try.prog E b q27_1 (ops [false] Try.f27) st) := GE.region_step (id := 0) (GE.reg_of (by kernel_rfl)) (by kernel_rfl)
theorem n27_3s : codeB Try.prog E ⟨f, 19, b, ro⟩ n27_3 st = plainS (runOps Try.prog E b q27_3 (ops [true, false] Try.f27) st) := GE.region_step (id := 1) (GE.reg_of (by kernel_rfl)) (by kernel_rfl)
theorem n27_6s : codeB Try.prog E ⟨f, 19, b, ro⟩ n27_6 st = plainS (runOps Try.prog E b q27_6 (ops [true, true, false, false] Try.f27) st) := GE.region_step (id := 2) (GE.reg_of (by kernel_rfl)) (by kernel_rfl)
theorem n27_11s : codeB Try.prog E ⟨f, 19, b, ro⟩ n27_11 st = plainS (runOps Try.prog E b q27_11 (ops [true, true, false, true, false, false, false, false] Try.f27) st) := GE.region_step (id := 3) (GE.reg_of (by kernel_rfl)) (by kernel_rfl)
theorem n27_13s : codeB Try.prog E cx n27_13 st = some (.normal, st) := GE.skip_step (by kernel_rfl)
theorem n27_14s : codeB Try.prog LL ⟨27, 19, b, ro⟩ n27_14 st = normS b ⟨[3], [⟨3, 0, 2, true⟩]⟩ (.exit 0) st := GE.exit_step (by kernel_rfl) (by kernel_rfl)
theorem n27_12s : codeB Try.prog E cx n27_12 st = condS (codeB Try.prog E cx n27_13) (codeB Try.prog E cx n27_14) (lk st.σ 8) st := GE.cond_step (c := .tmp 8) (by kernel_rfl)
theorem n27_10s : codeB Try.prog E cx n27_10 st = thenS (codeB Try.prog E cx n27_11 st) (codeB Try.prog E cx n27_12) := GE.seq_step (by kernel_rfl)
theorem n27_17s : codeB Try.prog E ⟨f, 19, b, ro⟩ n27_17 st = plainS (runOps Try.prog E b q27_17 (ops [true, true, false, true, false, false, true, false, false] Try.f27) st) := GE.region_step (id := 5) (GE.reg_of (by kernel_rfl)) (by kernel_rfl)
theorem n27_16s : codeB Try.prog E cx n27_16 st = blockS 1 (codeB Try.prog E cx n27_17 st) st := GE.block_step (by kernel_rfl)
theorem n27_18s : codeB Try.prog E ⟨f, 19, b, ro⟩ n27_18 st = plainS (runOps Try.prog E b q27_18 (ops [true, true, false, true, false, false, true, true] Try.f27) st) := GE.region_step (id := 4) (GE.reg_of (by kernel_rfl)) (by kernel_rfl)
theorem n27_15s : codeB Try.prog E cx n27_15 st = thenS (codeB Try.prog E cx n27_16 st) (codeB Try.prog E cx n27_18) := GE.seq_step (by kernel_rfl)
theorem n27_9s : codeB Try.prog E cx n27_9 st = thenS (codeB Try.prog E cx n27_10 st) (codeB Try.prog E cx n27_15) := GE.seq_step (by kernel_rfl)
theorem n27_8k : LL.kp (⟨27, 19, b, ro⟩ : Cx).fn (4 * rid n27_9 + 3) = some ⟨[0, 3, 4], [⟨0, 0, 2, true⟩, ⟨3, 0, 2, true⟩]⟩ := by kernel_rfl
theorem n27_8s : codeB Try.prog LL ⟨27, 19, b, ro⟩ n27_8 st = headS b ⟨[0, 3, 4], [⟨0, 0, 2, true⟩, ⟨3, 0, 2, true⟩]⟩ st (lpB Try.prog LL ⟨27, 19, b, ro⟩ n27_8 n27_9) := GE.lpB_step (by kernel_rfl) (n27_8k b ro)
theorem n27_8g : LL.code ⟨27, 19, b, ro⟩ n27_8 st = headS b ⟨[0, 3, 4], [⟨0, 0, 2, true⟩, ⟨3, 0, 2, true⟩]⟩ st (lpB Try.prog LL ⟨27, 19, b, ro⟩ n27_8 n27_9) := GE.lpB_again (by kernel_rfl) (n27_8k b ro)
theorem n27_7s : codeB Try.prog E cx n27_7 st = blockS 0 (codeB Try.prog E cx n27_8 st) st := GE.block_step (by kernel_rfl)
theorem n27_5s : codeB Try.prog E cx n27_5 st = thenS (codeB Try.prog E cx n27_6 st) (codeB Try.prog E cx n27_7) := GE.seq_step (by kernel_rfl)
theorem n27_20s : codeB Try.prog E ⟨f, 19, b, ro⟩ n27_20 st = plainS (runOps Try.prog E b q27_20 (ops [true, true, true, false] Try.f27) st) := GE.region_step (id := 6) (GE.reg_of (by kernel_rfl)) (by kernel_rfl)
theorem n27_21s : codeB Try.prog LL ⟨27, 19, b, ro⟩ n27_21 st = normS b ⟨[2], [⟨2, 0, 2, true⟩]⟩ .ret st := GE.ret_step (by kernel_rfl) (by kernel_rfl)
theorem n27_19s : codeB Try.prog E cx n27_19 st = thenS (codeB Try.prog E cx n27_20 st) (codeB Try.prog E cx n27_21) := GE.seq_step (by kernel_rfl)
theorem n27_4s : codeB Try.prog E cx n27_4 st = thenS (codeB Try.prog E cx n27_5 st) (codeB Try.prog E cx n27_19) := GE.seq_step (by kernel_rfl)
theorem n27_2s : codeB Try.prog E cx n27_2 st = thenS (codeB Try.prog E cx n27_3 st) (codeB Try.prog E cx n27_4) := GE.seq_step (by kernel_rfl)
theorem n27_0s : codeB Try.prog E cx n27_0 st = thenS (codeB Try.prog E cx n27_1 st) (codeB Try.prog E cx n27_2) := GE.seq_step (by kernel_rfl)
noncomputable def n29_0 : Code := bodyOf Try.f29
noncomputable def n29_1 : Code := cl n29_0
noncomputable def q29_1 : List Oper := opsOf n29_1
noncomputable def n29_2 : Code := cr n29_0
noncomputable def n29_3 : Code := cl n29_2
noncomputable def q29_3 : List Oper := opsOf n29_3
noncomputable def n29_4 : Code := cr n29_2
noncomputable def n29_5 : Code := cl n29_4
noncomputable def n29_6 : Code := cl n29_5
noncomputable def n29_7 : Code := cl n29_6
noncomputable def q29_7 : List Oper := opsOf n29_7
noncomputable def n29_8 : Code := cr n29_6
noncomputable def n29_9 : Code := cl n29_8
noncomputable def n29_10 : Code := cl n29_9
noncomputable def q29_10 : List Oper := opsOf n29_10
noncomputable def n29_11 : Code := cr n29_9
noncomputable def n29_12 : Code := cr n29_8
noncomputable def n29_13 : Code := cl n29_12
noncomputable def q29_13 : List Oper := opsOf n29_13
noncomputable def n29_14 : Code := cr n29_12
noncomputable def n29_15 : Code := cl n29_14
noncomputable def n29_16 : Code := cl n29_15
noncomputable def q29_16 : List Oper := opsOf n29_16
noncomputable def n29_17 : Code := cr n29_15
noncomputable def n29_18 : Code := cr n29_14
noncomputable def n29_19 : Code := cr n29_4
noncomputable def n29_20 : Code := cl n29_19
noncomputable def q29_20 : List Oper := opsOf n29_20
noncomputable def n29_21 : Code := cr n29_19
noncomputable def n29_22 : Code := cl n29_21
noncomputable def n29_23 : Code := cl n29_22
noncomputable def q29_23 : List Oper := opsOf n29_23
noncomputable def n29_24 : Code := cr n29_22
noncomputable def n29_25 : Code := cl n29_24
noncomputable def n29_26 : Code := cl n29_25
noncomputable def q29_26 : List Oper := opsOf n29_26
noncomputable def n29_27 : Code := cr n29_25
noncomputable def n29_28 : Code := cr n29_24
noncomputable def n29_29 : Code := cr n29_21
noncomputable def n29_30 : Code := cl n29_29
noncomputable def q29_30 : List Oper := opsOf n29_30
noncomputable def n29_31 : Code := cr n29_29
theorem body29 : Try.f29.body = some n29_0 := by kernel_rfl
theorem run29 (E : Ev) (args : List Value) (h : List Blk) (hl : args.length ≤ 36) : runB Try.prog E 29 args h = endS Try.prog [.cell 6 57, .tmp 7] h.length (codeB Try.prog E ⟨29, 36, h.length, none⟩ n29_0 ⟨enumT 0 args, h, []⟩) := GE.run_step Try.func29 body29 (by kernel_rfl) (by decide) (by kernel_rfl) hl
theorem n29_1s : codeB Try.prog E ⟨f, 36, b, ro⟩ n29_1 st = plainS (runOps Try.prog E b q29_1 (ops [false] Try.f29) st) := GE.region_step (id := 0) (GE.reg_of (by kernel_rfl)) (by kernel_rfl)
theorem n29_3s : codeB Try.prog E ⟨f, 36, b, ro⟩ n29_3 st = plainS (runOps Try.prog E b q29_3 (ops [true, false] Try.f29) st) := GE.region_step (id := 1) (GE.reg_of (by kernel_rfl)) (by kernel_rfl)
theorem n29_7s : codeB Try.prog E ⟨f, 36, b, ro⟩ n29_7 st = plainS (runOps Try.prog E b q29_7 (ops [true, true, false, false, false] Try.f29) st) := GE.region_step (id := 2) (GE.reg_of (by kernel_rfl)) (by kernel_rfl)
theorem n29_10s : codeB Try.prog E ⟨f, 36, b, ro⟩ n29_10 st = plainS (runOps Try.prog E b q29_10 (ops [true, true, false, false, true, false, false] Try.f29) st) := GE.region_step (id := 3) (GE.reg_of (by kernel_rfl)) (by kernel_rfl)
theorem n29_11s : codeB Try.prog LL ⟨29, 36, b, ro⟩ n29_11 st = normS b ⟨[6, 7], []⟩ .ret st := GE.ret_step (by kernel_rfl) (by kernel_rfl)
theorem n29_9s : codeB Try.prog E cx n29_9 st = thenS (codeB Try.prog E cx n29_10 st) (codeB Try.prog E cx n29_11) := GE.seq_step (by kernel_rfl)
theorem n29_13s : codeB Try.prog E ⟨f, 36, b, ro⟩ n29_13 st = plainS (runOps Try.prog E b q29_13 (ops [true, true, false, false, true, true, false] Try.f29) st) := GE.region_step (id := 4) (GE.reg_of (by kernel_rfl)) (by kernel_rfl)
theorem n29_16s : codeB Try.prog E ⟨f, 36, b, ro⟩ n29_16 st = plainS (runOps Try.prog E b q29_16 (ops [true, true, false, false, true, true, true, false, false] Try.f29) st) := GE.region_step (id := 5) (GE.reg_of (by kernel_rfl)) (by kernel_rfl)
theorem n29_17s : codeB Try.prog LL ⟨29, 36, b, ro⟩ n29_17 st = normS b ⟨[6, 7], []⟩ .ret st := GE.ret_step (by kernel_rfl) (by kernel_rfl)
theorem n29_15s : codeB Try.prog E cx n29_15 st = thenS (codeB Try.prog E cx n29_16 st) (codeB Try.prog E cx n29_17) := GE.seq_step (by kernel_rfl)
theorem n29_18s : codeB Try.prog E cx n29_18 st = some (.normal, st) := GE.skip_step (by kernel_rfl)
theorem n29_14s : codeB Try.prog E cx n29_14 st = condS (codeB Try.prog E cx n29_15) (codeB Try.prog E cx n29_18) (lk st.σ 22) st := GE.cond_step (c := .tmp 22) (by kernel_rfl)
theorem n29_12s : codeB Try.prog E cx n29_12 st = thenS (codeB Try.prog E cx n29_13 st) (codeB Try.prog E cx n29_14) := GE.seq_step (by kernel_rfl)
theorem n29_8s : codeB Try.prog E cx n29_8 st = condS (codeB Try.prog E cx n29_9) (codeB Try.prog E cx n29_12) (lk st.σ 17) st := GE.cond_step (c := .tmp 17) (by kernel_rfl)
theorem n29_6s : codeB Try.prog E cx n29_6 st = thenS (codeB Try.prog E cx n29_7 st) (codeB Try.prog E cx n29_8) := GE.seq_step (by kernel_rfl)
theorem n29_5s : codeB Try.prog E cx n29_5 st = blockS 0 (codeB Try.prog E cx n29_6 st) st := GE.block_step (by kernel_rfl)
theorem n29_20s : codeB Try.prog E ⟨f, 36, b, ro⟩ n29_20 st = plainS (runOps Try.prog E b q29_20 (ops [true, true, true, false] Try.f29) st) := GE.region_step (id := 6) (GE.reg_of (by kernel_rfl)) (by kernel_rfl)
theorem n29_23s : codeB Try.prog E ⟨f, 36, b, ro⟩ n29_23 st = plainS (runOps Try.prog E b q29_23 (ops [true, true, true, true, false, false] Try.f29) st) := GE.region_step (id := 7) (GE.reg_of (by kernel_rfl)) (by kernel_rfl)
theorem n29_26s : codeB Try.prog E ⟨f, 36, b, ro⟩ n29_26 st = plainS (runOps Try.prog E b q29_26 (ops [true, true, true, true, false, true, false, false] Try.f29) st) := GE.region_step (id := 8) (GE.reg_of (by kernel_rfl)) (by kernel_rfl)
theorem n29_27s : codeB Try.prog LL ⟨29, 36, b, ro⟩ n29_27 st = normS b ⟨[6, 7], []⟩ .ret st := GE.ret_step (by kernel_rfl) (by kernel_rfl)
theorem n29_25s : codeB Try.prog E cx n29_25 st = thenS (codeB Try.prog E cx n29_26 st) (codeB Try.prog E cx n29_27) := GE.seq_step (by kernel_rfl)
theorem n29_28s : codeB Try.prog E cx n29_28 st = some (.normal, st) := GE.skip_step (by kernel_rfl)
theorem n29_24s : codeB Try.prog E cx n29_24 st = condS (codeB Try.prog E cx n29_25) (codeB Try.prog E cx n29_28) (lk st.σ 32) st := GE.cond_step (c := .tmp 32) (by kernel_rfl)
theorem n29_22s : codeB Try.prog E cx n29_22 st = thenS (codeB Try.prog E cx n29_23 st) (codeB Try.prog E cx n29_24) := GE.seq_step (by kernel_rfl)
theorem n29_30s : codeB Try.prog E ⟨f, 36, b, ro⟩ n29_30 st = plainS (runOps Try.prog E b q29_30 (ops [true, true, true, true, true, false] Try.f29) st) := GE.region_step (id := 9) (GE.reg_of (by kernel_rfl)) (by kernel_rfl)
theorem n29_31s : codeB Try.prog LL ⟨29, 36, b, ro⟩ n29_31 st = normS b ⟨[6, 7], []⟩ .ret st := GE.ret_step (by kernel_rfl) (by kernel_rfl)
theorem n29_29s : codeB Try.prog E cx n29_29 st = thenS (codeB Try.prog E cx n29_30 st) (codeB Try.prog E cx n29_31) := GE.seq_step (by kernel_rfl)
theorem n29_21s : codeB Try.prog E cx n29_21 st = thenS (codeB Try.prog E cx n29_22 st) (codeB Try.prog E cx n29_29) := GE.seq_step (by kernel_rfl)
theorem n29_19s : codeB Try.prog E cx n29_19 st = thenS (codeB Try.prog E cx n29_20 st) (codeB Try.prog E cx n29_21) := GE.seq_step (by kernel_rfl)
theorem n29_4s : codeB Try.prog E cx n29_4 st = thenS (codeB Try.prog E cx n29_5 st) (codeB Try.prog E cx n29_19) := GE.seq_step (by kernel_rfl)
theorem n29_2s : codeB Try.prog E cx n29_2 st = thenS (codeB Try.prog E cx n29_3 st) (codeB Try.prog E cx n29_4) := GE.seq_step (by kernel_rfl)
theorem n29_0s : codeB Try.prog E cx n29_0 st = thenS (codeB Try.prog E cx n29_1 st) (codeB Try.prog E cx n29_2) := GE.seq_step (by kernel_rfl)
noncomputable def n33_0 : Code := bodyOf Try.f33
noncomputable def n33_1 : Code := cl n33_0
noncomputable def q33_1 : List Oper := opsOf n33_1
noncomputable def n33_2 : Code := cr n33_0
noncomputable def n33_3 : Code := cl n33_2
noncomputable def q33_3 : List Oper := opsOf n33_3
noncomputable def n33_4 : Code := cr n33_2
noncomputable def n33_5 : Code := cl n33_4
noncomputable def n33_6 : Code := cl n33_5
noncomputable def q33_6 : List Oper := opsOf n33_6
noncomputable def n33_7 : Code := cr n33_5
noncomputable def n33_8 : Code := cl n33_7
noncomputable def q33_8 : List Oper := opsOf n33_8
noncomputable def n33_9 : Code := cr n33_7
noncomputable def n33_10 : Code := cr n33_4
noncomputable def n33_11 : Code := cl n33_10
noncomputable def n33_12 : Code := cl n33_11
noncomputable def q33_12 : List Oper := opsOf n33_12
noncomputable def n33_13 : Code := cr n33_11
noncomputable def n33_14 : Code := cl n33_13
noncomputable def n33_15 : Code := cl n33_14
noncomputable def q33_15 : List Oper := opsOf n33_15
noncomputable def n33_16 : Code := cr n33_14
noncomputable def n33_17 : Code := cr n33_13
noncomputable def n33_18 : Code := cr n33_10
noncomputable def n33_19 : Code := cl n33_18
noncomputable def q33_19 : List Oper := opsOf n33_19
noncomputable def n33_20 : Code := cr n33_18
noncomputable def n33_21 : Code := cl n33_20
noncomputable def n33_22 : Code := cl n33_21
noncomputable def q33_22 : List Oper := opsOf n33_22
noncomputable def n33_23 : Code := cr n33_21
noncomputable def n33_24 : Code := cl n33_23
noncomputable def n33_25 : Code := cl n33_24
noncomputable def q33_25 : List Oper := opsOf n33_25
noncomputable def n33_26 : Code := cr n33_24
noncomputable def n33_27 : Code := cr n33_23
noncomputable def n33_28 : Code := cr n33_20
noncomputable def n33_29 : Code := cl n33_28
noncomputable def q33_29 : List Oper := opsOf n33_29
noncomputable def n33_30 : Code := cr n33_28
theorem body33 : Try.f33.body = some n33_0 := by kernel_rfl
theorem run33 (E : Ev) (args : List Value) (h : List Blk) (hl : args.length ≤ 36) : runB Try.prog E 33 args h = endS Try.prog [.cell 6 57, .tmp 7] h.length (codeB Try.prog E ⟨33, 36, h.length, none⟩ n33_0 ⟨enumT 0 args, h, []⟩) := GE.run_step Try.func33 body33 (by kernel_rfl) (by decide) (by kernel_rfl) hl
theorem n33_1s : codeB Try.prog E ⟨f, 36, b, ro⟩ n33_1 st = plainS (runOps Try.prog E b q33_1 (ops [false] Try.f33) st) := GE.region_step (id := 0) (GE.reg_of (by kernel_rfl)) (by kernel_rfl)
theorem n33_3s : codeB Try.prog E ⟨f, 36, b, ro⟩ n33_3 st = plainS (runOps Try.prog E b q33_3 (ops [true, false] Try.f33) st) := GE.region_step (id := 1) (GE.reg_of (by kernel_rfl)) (by kernel_rfl)
theorem q33_6g2 : gd q33_6 2 = some 16 := by kernel_rfl
theorem n33_6s : codeB Try.prog E ⟨f, 36, b, ro⟩ n33_6 st = plainS (runOps Try.prog E b q33_6 (ops [true, true, false, false] Try.f33) st) := GE.region_step (id := 2) (GE.reg_of (by kernel_rfl)) (by kernel_rfl)
theorem n33_8s : codeB Try.prog E ⟨f, 36, b, ro⟩ n33_8 st = plainS (runOps Try.prog E b q33_8 (ops [true, true, false, true, false] Try.f33) st) := GE.region_step (id := 3) (GE.reg_of (by kernel_rfl)) (by kernel_rfl)
theorem n33_9s : codeB Try.prog E cx n33_9 st = some (.normal, st) := GE.skip_step (by kernel_rfl)
theorem n33_7s : codeB Try.prog E cx n33_7 st = condS (codeB Try.prog E cx n33_8) (codeB Try.prog E cx n33_9) (lk st.σ 20) st := GE.cond_step (c := .tmp 20) (by kernel_rfl)
theorem n33_5s : codeB Try.prog E cx n33_5 st = thenS (codeB Try.prog E cx n33_6 st) (codeB Try.prog E cx n33_7) := GE.seq_step (by kernel_rfl)
theorem n33_12s : codeB Try.prog E ⟨f, 36, b, ro⟩ n33_12 st = plainS (runOps Try.prog E b q33_12 (ops [true, true, true, false, false] Try.f33) st) := GE.region_step (id := 4) (GE.reg_of (by kernel_rfl)) (by kernel_rfl)
theorem n33_15s : codeB Try.prog E ⟨f, 36, b, ro⟩ n33_15 st = plainS (runOps Try.prog E b q33_15 (ops [true, true, true, false, true, false, false] Try.f33) st) := GE.region_step (id := 5) (GE.reg_of (by kernel_rfl)) (by kernel_rfl)
theorem n33_16s : codeB Try.prog LL ⟨33, 36, b, ro⟩ n33_16 st = normS b ⟨[6, 7], []⟩ .ret st := GE.ret_step (by kernel_rfl) (by kernel_rfl)
theorem n33_14s : codeB Try.prog E cx n33_14 st = thenS (codeB Try.prog E cx n33_15 st) (codeB Try.prog E cx n33_16) := GE.seq_step (by kernel_rfl)
theorem n33_17s : codeB Try.prog E cx n33_17 st = some (.normal, st) := GE.skip_step (by kernel_rfl)
theorem n33_13s : codeB Try.prog E cx n33_13 st = condS (codeB Try.prog E cx n33_14) (codeB Try.prog E cx n33_17) (lk st.σ 22) st := GE.cond_step (c := .tmp 22) (by kernel_rfl)
theorem n33_11s : codeB Try.prog E cx n33_11 st = thenS (codeB Try.prog E cx n33_12 st) (codeB Try.prog E cx n33_13) := GE.seq_step (by kernel_rfl)
theorem n33_19s : codeB Try.prog E ⟨f, 36, b, ro⟩ n33_19 st = plainS (runOps Try.prog E b q33_19 (ops [true, true, true, true, false] Try.f33) st) := GE.region_step (id := 6) (GE.reg_of (by kernel_rfl)) (by kernel_rfl)
theorem n33_22s : codeB Try.prog E ⟨f, 36, b, ro⟩ n33_22 st = plainS (runOps Try.prog E b q33_22 (ops [true, true, true, true, true, false, false] Try.f33) st) := GE.region_step (id := 7) (GE.reg_of (by kernel_rfl)) (by kernel_rfl)
theorem n33_25s : codeB Try.prog E ⟨f, 36, b, ro⟩ n33_25 st = plainS (runOps Try.prog E b q33_25 (ops [true, true, true, true, true, false, true, false, false] Try.f33) st) := GE.region_step (id := 8) (GE.reg_of (by kernel_rfl)) (by kernel_rfl)
theorem n33_26s : codeB Try.prog LL ⟨33, 36, b, ro⟩ n33_26 st = normS b ⟨[6, 7], []⟩ .ret st := GE.ret_step (by kernel_rfl) (by kernel_rfl)
theorem n33_24s : codeB Try.prog E cx n33_24 st = thenS (codeB Try.prog E cx n33_25 st) (codeB Try.prog E cx n33_26) := GE.seq_step (by kernel_rfl)
theorem n33_27s : codeB Try.prog E cx n33_27 st = some (.normal, st) := GE.skip_step (by kernel_rfl)
theorem n33_23s : codeB Try.prog E cx n33_23 st = condS (codeB Try.prog E cx n33_24) (codeB Try.prog E cx n33_27) (lk st.σ 33) st := GE.cond_step (c := .tmp 33) (by kernel_rfl)
theorem n33_21s : codeB Try.prog E cx n33_21 st = thenS (codeB Try.prog E cx n33_22 st) (codeB Try.prog E cx n33_23) := GE.seq_step (by kernel_rfl)
theorem n33_29s : codeB Try.prog E ⟨f, 36, b, ro⟩ n33_29 st = plainS (runOps Try.prog E b q33_29 (ops [true, true, true, true, true, true, false] Try.f33) st) := GE.region_step (id := 9) (GE.reg_of (by kernel_rfl)) (by kernel_rfl)
theorem n33_30s : codeB Try.prog LL ⟨33, 36, b, ro⟩ n33_30 st = normS b ⟨[6, 7], []⟩ .ret st := GE.ret_step (by kernel_rfl) (by kernel_rfl)
theorem n33_28s : codeB Try.prog E cx n33_28 st = thenS (codeB Try.prog E cx n33_29 st) (codeB Try.prog E cx n33_30) := GE.seq_step (by kernel_rfl)
theorem n33_20s : codeB Try.prog E cx n33_20 st = thenS (codeB Try.prog E cx n33_21 st) (codeB Try.prog E cx n33_28) := GE.seq_step (by kernel_rfl)
theorem n33_18s : codeB Try.prog E cx n33_18 st = thenS (codeB Try.prog E cx n33_19 st) (codeB Try.prog E cx n33_20) := GE.seq_step (by kernel_rfl)
theorem n33_10s : codeB Try.prog E cx n33_10 st = thenS (codeB Try.prog E cx n33_11 st) (codeB Try.prog E cx n33_18) := GE.seq_step (by kernel_rfl)
theorem n33_4s : codeB Try.prog E cx n33_4 st = thenS (codeB Try.prog E cx n33_5 st) (codeB Try.prog E cx n33_10) := GE.seq_step (by kernel_rfl)
theorem n33_2s : codeB Try.prog E cx n33_2 st = thenS (codeB Try.prog E cx n33_3 st) (codeB Try.prog E cx n33_4) := GE.seq_step (by kernel_rfl)
theorem n33_0s : codeB Try.prog E cx n33_0 st = thenS (codeB Try.prog E cx n33_1 st) (codeB Try.prog E cx n33_2) := GE.seq_step (by kernel_rfl)
noncomputable def n34_0 : Code := bodyOf Try.f34
noncomputable def n34_1 : Code := cl n34_0
noncomputable def q34_1 : List Oper := opsOf n34_1
noncomputable def n34_2 : Code := cr n34_0
noncomputable def n34_3 : Code := cl n34_2
noncomputable def q34_3 : List Oper := opsOf n34_3
noncomputable def n34_4 : Code := cr n34_2
noncomputable def n34_5 : Code := cl n34_4
noncomputable def n34_6 : Code := cl n34_5
noncomputable def q34_6 : List Oper := opsOf n34_6
noncomputable def n34_7 : Code := cr n34_5
noncomputable def n34_8 : Code := cl n34_7
noncomputable def n34_9 : Code := cl n34_8
noncomputable def q34_9 : List Oper := opsOf n34_9
noncomputable def n34_10 : Code := cr n34_8
noncomputable def n34_11 : Code := cr n34_7
noncomputable def n34_12 : Code := cr n34_4
noncomputable def n34_13 : Code := cl n34_12
noncomputable def q34_13 : List Oper := opsOf n34_13
noncomputable def n34_14 : Code := cr n34_12
theorem body34 : Try.f34.body = some n34_0 := by kernel_rfl
theorem run34 (E : Ev) (args : List Value) (h : List Blk) (hl : args.length ≤ 21) : runB Try.prog E 34 args h = endS Try.prog [.tmp 4, .tmp 5] h.length (codeB Try.prog E ⟨34, 21, h.length, none⟩ n34_0 ⟨enumT 0 args, h, []⟩) := GE.run_step Try.func34 body34 (by kernel_rfl) (by decide) (by kernel_rfl) hl
theorem n34_1s : codeB Try.prog E ⟨f, 21, b, ro⟩ n34_1 st = plainS (runOps Try.prog E b q34_1 (ops [false] Try.f34) st) := GE.region_step (id := 0) (GE.reg_of (by kernel_rfl)) (by kernel_rfl)
theorem n34_3s : codeB Try.prog E ⟨f, 21, b, ro⟩ n34_3 st = plainS (runOps Try.prog E b q34_3 (ops [true, false] Try.f34) st) := GE.region_step (id := 1) (GE.reg_of (by kernel_rfl)) (by kernel_rfl)
theorem n34_6s : codeB Try.prog E ⟨f, 21, b, ro⟩ n34_6 st = plainS (runOps Try.prog E b q34_6 (ops [true, true, false, false] Try.f34) st) := GE.region_step (id := 2) (GE.reg_of (by kernel_rfl)) (by kernel_rfl)
theorem n34_9s : codeB Try.prog E ⟨f, 21, b, ro⟩ n34_9 st = plainS (runOps Try.prog E b q34_9 (ops [true, true, false, true, false, false] Try.f34) st) := GE.region_step (id := 3) (GE.reg_of (by kernel_rfl)) (by kernel_rfl)
theorem n34_10s : codeB Try.prog LL ⟨34, 21, b, ro⟩ n34_10 st = normS b ⟨[4, 5], [⟨4, 0, 1, true⟩]⟩ .ret st := GE.ret_step (by kernel_rfl) (by kernel_rfl)
theorem n34_8s : codeB Try.prog E cx n34_8 st = thenS (codeB Try.prog E cx n34_9 st) (codeB Try.prog E cx n34_10) := GE.seq_step (by kernel_rfl)
theorem n34_11s : codeB Try.prog E cx n34_11 st = some (.normal, st) := GE.skip_step (by kernel_rfl)
theorem n34_7s : codeB Try.prog E cx n34_7 st = condS (codeB Try.prog E cx n34_8) (codeB Try.prog E cx n34_11) (lk st.σ 15) st := GE.cond_step (c := .tmp 15) (by kernel_rfl)
theorem n34_5s : codeB Try.prog E cx n34_5 st = thenS (codeB Try.prog E cx n34_6 st) (codeB Try.prog E cx n34_7) := GE.seq_step (by kernel_rfl)
theorem n34_13s : codeB Try.prog E ⟨f, 21, b, ro⟩ n34_13 st = plainS (runOps Try.prog E b q34_13 (ops [true, true, true, false] Try.f34) st) := GE.region_step (id := 4) (GE.reg_of (by kernel_rfl)) (by kernel_rfl)
theorem n34_14s : codeB Try.prog LL ⟨34, 21, b, ro⟩ n34_14 st = normS b ⟨[4, 5], [⟨4, 0, 1, true⟩]⟩ .ret st := GE.ret_step (by kernel_rfl) (by kernel_rfl)
theorem n34_12s : codeB Try.prog E cx n34_12 st = thenS (codeB Try.prog E cx n34_13 st) (codeB Try.prog E cx n34_14) := GE.seq_step (by kernel_rfl)
theorem n34_4s : codeB Try.prog E cx n34_4 st = thenS (codeB Try.prog E cx n34_5 st) (codeB Try.prog E cx n34_12) := GE.seq_step (by kernel_rfl)
theorem n34_2s : codeB Try.prog E cx n34_2 st = thenS (codeB Try.prog E cx n34_3 st) (codeB Try.prog E cx n34_4) := GE.seq_step (by kernel_rfl)
theorem n34_0s : codeB Try.prog E cx n34_0 st = thenS (codeB Try.prog E cx n34_1 st) (codeB Try.prog E cx n34_2) := GE.seq_step (by kernel_rfl)
noncomputable def n35_0 : Code := bodyOf Try.f35
noncomputable def n35_1 : Code := cl n35_0
noncomputable def q35_1 : List Oper := opsOf n35_1
noncomputable def n35_2 : Code := cr n35_0
noncomputable def n35_3 : Code := cl n35_2
noncomputable def q35_3 : List Oper := opsOf n35_3
noncomputable def n35_4 : Code := cr n35_2
noncomputable def n35_5 : Code := cl n35_4
noncomputable def n35_6 : Code := cl n35_5
noncomputable def q35_6 : List Oper := opsOf n35_6
noncomputable def n35_7 : Code := cr n35_5
noncomputable def n35_8 : Code := cl n35_7
noncomputable def n35_9 : Code := cl n35_8
noncomputable def q35_9 : List Oper := opsOf n35_9
noncomputable def n35_10 : Code := cr n35_8
noncomputable def n35_11 : Code := cr n35_7
noncomputable def n35_12 : Code := cr n35_4
noncomputable def n35_13 : Code := cl n35_12
noncomputable def q35_13 : List Oper := opsOf n35_13
noncomputable def n35_14 : Code := cr n35_12
noncomputable def n35_15 : Code := cl n35_14
noncomputable def n35_16 : Code := cl n35_15
noncomputable def q35_16 : List Oper := opsOf n35_16
noncomputable def n35_17 : Code := cr n35_15
noncomputable def n35_18 : Code := cl n35_17
noncomputable def n35_19 : Code := cl n35_18
noncomputable def n35_20 : Code := cl n35_19
noncomputable def n35_21 : Code := cl n35_20
noncomputable def q35_21 : List Oper := opsOf n35_21
noncomputable def n35_22 : Code := cr n35_20
noncomputable def n35_23 : Code := cl n35_22
noncomputable def n35_24 : Code := cr n35_22
noncomputable def n35_25 : Code := cr n35_19
noncomputable def n35_26 : Code := cl n35_25
noncomputable def n35_27 : Code := cl n35_26
noncomputable def n35_28 : Code := cl n35_27
noncomputable def q35_28 : List Oper := opsOf n35_28
noncomputable def n35_29 : Code := cr n35_27
noncomputable def q35_29 : List Oper := opsOf n35_29
noncomputable def n35_30 : Code := cr n35_25
noncomputable def q35_30 : List Oper := opsOf n35_30
noncomputable def n35_31 : Code := cr n35_14
noncomputable def n35_32 : Code := cl n35_31
noncomputable def q35_32 : List Oper := opsOf n35_32
noncomputable def n35_33 : Code := cr n35_31
theorem body35 : Try.f35.body = some n35_0 := by kernel_rfl
theorem run35 (E : Ev) (args : List Value) (h : List Blk) (hl : args.length ≤ 42) : runB Try.prog E 35 args h = endS Try.prog [.tmp 4, .tmp 5] h.length (codeB Try.prog E ⟨35, 42, h.length, none⟩ n35_0 ⟨enumT 0 args, h, []⟩) := GE.run_step Try.func35 body35 (by kernel_rfl) (by decide) (by kernel_rfl) hl
theorem n35_1s : codeB Try.prog E ⟨f, 42, b, ro⟩ n35_1 st = plainS (runOps Try.prog E b q35_1 (ops [false] Try.f35) st) := GE.region_step (id := 0) (GE.reg_of (by kernel_rfl)) (by kernel_rfl)
theorem n35_3s : codeB Try.prog E ⟨f, 42, b, ro⟩ n35_3 st = plainS (runOps Try.prog E b q35_3 (ops [true, false] Try.f35) st) := GE.region_step (id := 1) (GE.reg_of (by kernel_rfl)) (by kernel_rfl)
theorem n35_6s : codeB Try.prog E ⟨f, 42, b, ro⟩ n35_6 st = plainS (runOps Try.prog E b q35_6 (ops [true, true, false, false] Try.f35) st) := GE.region_step (id := 2) (GE.reg_of (by kernel_rfl)) (by kernel_rfl)
theorem n35_9s : codeB Try.prog E ⟨f, 42, b, ro⟩ n35_9 st = plainS (runOps Try.prog E b q35_9 (ops [true, true, false, true, false, false] Try.f35) st) := GE.region_step (id := 3) (GE.reg_of (by kernel_rfl)) (by kernel_rfl)
theorem n35_10s : codeB Try.prog LL ⟨35, 42, b, ro⟩ n35_10 st = normS b ⟨[4, 5], [⟨4, 0, 1, true⟩]⟩ .ret st := GE.ret_step (by kernel_rfl) (by kernel_rfl)
theorem n35_8s : codeB Try.prog E cx n35_8 st = thenS (codeB Try.prog E cx n35_9 st) (codeB Try.prog E cx n35_10) := GE.seq_step (by kernel_rfl)
theorem n35_11s : codeB Try.prog E cx n35_11 st = some (.normal, st) := GE.skip_step (by kernel_rfl)
theorem n35_7s : codeB Try.prog E cx n35_7 st = condS (codeB Try.prog E cx n35_8) (codeB Try.prog E cx n35_11) (lk st.σ 15) st := GE.cond_step (c := .tmp 15) (by kernel_rfl)
theorem n35_5s : codeB Try.prog E cx n35_5 st = thenS (codeB Try.prog E cx n35_6 st) (codeB Try.prog E cx n35_7) := GE.seq_step (by kernel_rfl)
theorem n35_13s : codeB Try.prog E ⟨f, 42, b, ro⟩ n35_13 st = plainS (runOps Try.prog E b q35_13 (ops [true, true, true, false] Try.f35) st) := GE.region_step (id := 4) (GE.reg_of (by kernel_rfl)) (by kernel_rfl)
theorem n35_16s : codeB Try.prog E ⟨f, 42, b, ro⟩ n35_16 st = plainS (runOps Try.prog E b q35_16 (ops [true, true, true, true, false, false] Try.f35) st) := GE.region_step (id := 5) (GE.reg_of (by kernel_rfl)) (by kernel_rfl)
theorem n35_21s : codeB Try.prog E ⟨f, 42, b, ro⟩ n35_21 st = plainS (runOps Try.prog E b q35_21 (ops [true, true, true, true, false, true, false, false, false, false] Try.f35) st) := GE.region_step (id := 6) (GE.reg_of (by kernel_rfl)) (by kernel_rfl)
theorem n35_23s : codeB Try.prog E cx n35_23 st = some (.normal, st) := GE.skip_step (by kernel_rfl)
theorem n35_24s : codeB Try.prog LL ⟨35, 42, b, ro⟩ n35_24 st = normS b ⟨[7], [⟨7, 0, 1, true⟩]⟩ (.exit 0) st := GE.exit_step (by kernel_rfl) (by kernel_rfl)
theorem n35_22s : codeB Try.prog E cx n35_22 st = condS (codeB Try.prog E cx n35_23) (codeB Try.prog E cx n35_24) (lk st.σ 21) st := GE.cond_step (c := .tmp 21) (by kernel_rfl)
theorem n35_20s : codeB Try.prog E cx n35_20 st = thenS (codeB Try.prog E cx n35_21 st) (codeB Try.prog E cx n35_22) := GE.seq_step (by kernel_rfl)
theorem n35_28s : codeB Try.prog E ⟨f, 42, b, ro⟩ n35_28 st = drawS [0, 0, 0, 4, 0, 28, 60, 124, 255, 511, 1023, 1023, 0, 6143, 16383] (runOpsF Try.prog E b q35_28 (ops [true, true, true, true, false, true, false, false, true, false, false, false] Try.f35) st) := GE.draw_step (id := 8) (GE.reg_of (by kernel_rfl)) (by kernel_rfl) (by kernel_rfl) (by kernel_rfl)
theorem n35_29s : codeB Try.prog E ⟨f, 42, b, ro⟩ n35_29 st = plainS (runOps Try.prog E b q35_29 (ops [true, true, true, true, false, true, false, false, true, false, false, true] Try.f35) st) := GE.region_step (id := 9) (GE.reg_of (by kernel_rfl)) (by kernel_rfl)
theorem n35_27s : codeB Try.prog E cx n35_27 st = thenS (codeB Try.prog E cx n35_28 st) (codeB Try.prog E cx n35_29) := GE.seq_step (by kernel_rfl)
theorem n35_26s : codeB Try.prog E cx n35_26 st = blockS 1 (codeB Try.prog E cx n35_27 st) st := GE.block_step (by kernel_rfl)
theorem n35_30s : codeB Try.prog E ⟨f, 42, b, ro⟩ n35_30 st = plainS (runOps Try.prog E b q35_30 (ops [true, true, true, true, false, true, false, false, true, true] Try.f35) st) := GE.region_step (id := 7) (GE.reg_of (by kernel_rfl)) (by kernel_rfl)
theorem n35_25s : codeB Try.prog E cx n35_25 st = thenS (codeB Try.prog E cx n35_26 st) (codeB Try.prog E cx n35_30) := GE.seq_step (by kernel_rfl)
theorem n35_19s : codeB Try.prog E cx n35_19 st = thenS (codeB Try.prog E cx n35_20 st) (codeB Try.prog E cx n35_25) := GE.seq_step (by kernel_rfl)
theorem n35_18k : LL.kp (⟨35, 42, b, ro⟩ : Cx).fn (4 * rid n35_19 + 3) = some ⟨[1, 2, 7, 8], [⟨1, 0, 1, true⟩, ⟨2, 2, 3, true⟩, ⟨7, 0, 1, true⟩]⟩ := by kernel_rfl
theorem n35_18s : codeB Try.prog LL ⟨35, 42, b, ro⟩ n35_18 st = headS b ⟨[1, 2, 7, 8], [⟨1, 0, 1, true⟩, ⟨2, 2, 3, true⟩, ⟨7, 0, 1, true⟩]⟩ st (lpB Try.prog LL ⟨35, 42, b, ro⟩ n35_18 n35_19) := GE.lpB_step (by kernel_rfl) (n35_18k b ro)
theorem n35_18g : LL.code ⟨35, 42, b, ro⟩ n35_18 st = headS b ⟨[1, 2, 7, 8], [⟨1, 0, 1, true⟩, ⟨2, 2, 3, true⟩, ⟨7, 0, 1, true⟩]⟩ st (lpB Try.prog LL ⟨35, 42, b, ro⟩ n35_18 n35_19) := GE.lpB_again (by kernel_rfl) (n35_18k b ro)
theorem n35_17s : codeB Try.prog E cx n35_17 st = blockS 0 (codeB Try.prog E cx n35_18 st) st := GE.block_step (by kernel_rfl)
theorem n35_15s : codeB Try.prog E cx n35_15 st = thenS (codeB Try.prog E cx n35_16 st) (codeB Try.prog E cx n35_17) := GE.seq_step (by kernel_rfl)
theorem n35_32s : codeB Try.prog E ⟨f, 42, b, ro⟩ n35_32 st = plainS (runOps Try.prog E b q35_32 (ops [true, true, true, true, true, false] Try.f35) st) := GE.region_step (id := 10) (GE.reg_of (by kernel_rfl)) (by kernel_rfl)
theorem n35_33s : codeB Try.prog LL ⟨35, 42, b, ro⟩ n35_33 st = normS b ⟨[4, 5], [⟨4, 0, 1, true⟩]⟩ .ret st := GE.ret_step (by kernel_rfl) (by kernel_rfl)
theorem n35_31s : codeB Try.prog E cx n35_31 st = thenS (codeB Try.prog E cx n35_32 st) (codeB Try.prog E cx n35_33) := GE.seq_step (by kernel_rfl)
theorem n35_14s : codeB Try.prog E cx n35_14 st = thenS (codeB Try.prog E cx n35_15 st) (codeB Try.prog E cx n35_31) := GE.seq_step (by kernel_rfl)
theorem n35_12s : codeB Try.prog E cx n35_12 st = thenS (codeB Try.prog E cx n35_13 st) (codeB Try.prog E cx n35_14) := GE.seq_step (by kernel_rfl)
theorem n35_4s : codeB Try.prog E cx n35_4 st = thenS (codeB Try.prog E cx n35_5 st) (codeB Try.prog E cx n35_12) := GE.seq_step (by kernel_rfl)
theorem n35_2s : codeB Try.prog E cx n35_2 st = thenS (codeB Try.prog E cx n35_3 st) (codeB Try.prog E cx n35_4) := GE.seq_step (by kernel_rfl)
theorem n35_0s : codeB Try.prog E cx n35_0 st = thenS (codeB Try.prog E cx n35_1 st) (codeB Try.prog E cx n35_2) := GE.seq_step (by kernel_rfl)
noncomputable def n36_0 : Code := bodyOf Try.f36
noncomputable def n36_1 : Code := cl n36_0
noncomputable def q36_1 : List Oper := opsOf n36_1
noncomputable def n36_2 : Code := cr n36_0
noncomputable def n36_3 : Code := cl n36_2
noncomputable def q36_3 : List Oper := opsOf n36_3
noncomputable def n36_4 : Code := cr n36_2
noncomputable def n36_5 : Code := cl n36_4
noncomputable def n36_6 : Code := cl n36_5
noncomputable def q36_6 : List Oper := opsOf n36_6
noncomputable def n36_7 : Code := cr n36_5
noncomputable def n36_8 : Code := cl n36_7
noncomputable def n36_9 : Code := cl n36_8
noncomputable def q36_9 : List Oper := opsOf n36_9
noncomputable def n36_10 : Code := cr n36_8
noncomputable def n36_11 : Code := cr n36_7
noncomputable def n36_12 : Code := cr n36_4
noncomputable def n36_13 : Code := cl n36_12
noncomputable def q36_13 : List Oper := opsOf n36_13
noncomputable def n36_14 : Code := cr n36_12
noncomputable def n36_15 : Code := cl n36_14
noncomputable def n36_16 : Code := cl n36_15
noncomputable def q36_16 : List Oper := opsOf n36_16
noncomputable def n36_17 : Code := cr n36_15
noncomputable def n36_18 : Code := cl n36_17
noncomputable def n36_19 : Code := cl n36_18
noncomputable def n36_20 : Code := cl n36_19
noncomputable def q36_20 : List Oper := opsOf n36_20
noncomputable def n36_21 : Code := cr n36_19
noncomputable def n36_22 : Code := cl n36_21
noncomputable def n36_23 : Code := cl n36_22
noncomputable def n36_24 : Code := cr n36_22
noncomputable def n36_25 : Code := cr n36_21
noncomputable def n36_26 : Code := cl n36_25
noncomputable def n36_27 : Code := cl n36_26
noncomputable def n36_28 : Code := cl n36_27
noncomputable def q36_28 : List Oper := opsOf n36_28
noncomputable def n36_29 : Code := cr n36_27
noncomputable def n36_30 : Code := cl n36_29
noncomputable def q36_30 : List Oper := opsOf n36_30
noncomputable def n36_31 : Code := cr n36_29
noncomputable def n36_32 : Code := cl n36_31
noncomputable def q36_32 : List Oper := opsOf n36_32
noncomputable def n36_33 : Code := cr n36_31
noncomputable def n36_34 : Code := cr n36_25
noncomputable def q36_34 : List Oper := opsOf n36_34
noncomputable def n36_35 : Code := cr n36_14
noncomputable def n36_36 : Code := cl n36_35
noncomputable def q36_36 : List Oper := opsOf n36_36
noncomputable def n36_37 : Code := cr n36_35
theorem body36 : Try.f36.body = some n36_0 := by kernel_rfl
theorem run36 (E : Ev) (args : List Value) (h : List Blk) (hl : args.length ≤ 40) : runB Try.prog E 36 args h = endS Try.prog [.tmp 4, .tmp 5] h.length (codeB Try.prog E ⟨36, 40, h.length, none⟩ n36_0 ⟨enumT 0 args, h, []⟩) := GE.run_step Try.func36 body36 (by kernel_rfl) (by decide) (by kernel_rfl) hl
theorem n36_1s : codeB Try.prog E ⟨f, 40, b, ro⟩ n36_1 st = plainS (runOps Try.prog E b q36_1 (ops [false] Try.f36) st) := GE.region_step (id := 0) (GE.reg_of (by kernel_rfl)) (by kernel_rfl)
theorem n36_3s : codeB Try.prog E ⟨f, 40, b, ro⟩ n36_3 st = plainS (runOps Try.prog E b q36_3 (ops [true, false] Try.f36) st) := GE.region_step (id := 1) (GE.reg_of (by kernel_rfl)) (by kernel_rfl)
theorem n36_6s : codeB Try.prog E ⟨f, 40, b, ro⟩ n36_6 st = plainS (runOps Try.prog E b q36_6 (ops [true, true, false, false] Try.f36) st) := GE.region_step (id := 2) (GE.reg_of (by kernel_rfl)) (by kernel_rfl)
theorem n36_9s : codeB Try.prog E ⟨f, 40, b, ro⟩ n36_9 st = plainS (runOps Try.prog E b q36_9 (ops [true, true, false, true, false, false] Try.f36) st) := GE.region_step (id := 3) (GE.reg_of (by kernel_rfl)) (by kernel_rfl)
theorem n36_10s : codeB Try.prog LL ⟨36, 40, b, ro⟩ n36_10 st = normS b ⟨[4, 5], [⟨4, 0, 1, true⟩]⟩ .ret st := GE.ret_step (by kernel_rfl) (by kernel_rfl)
theorem n36_8s : codeB Try.prog E cx n36_8 st = thenS (codeB Try.prog E cx n36_9 st) (codeB Try.prog E cx n36_10) := GE.seq_step (by kernel_rfl)
theorem n36_11s : codeB Try.prog E cx n36_11 st = some (.normal, st) := GE.skip_step (by kernel_rfl)
theorem n36_7s : codeB Try.prog E cx n36_7 st = condS (codeB Try.prog E cx n36_8) (codeB Try.prog E cx n36_11) (lk st.σ 17) st := GE.cond_step (c := .tmp 17) (by kernel_rfl)
theorem n36_5s : codeB Try.prog E cx n36_5 st = thenS (codeB Try.prog E cx n36_6 st) (codeB Try.prog E cx n36_7) := GE.seq_step (by kernel_rfl)
theorem n36_13s : codeB Try.prog E ⟨f, 40, b, ro⟩ n36_13 st = plainS (runOps Try.prog E b q36_13 (ops [true, true, true, false] Try.f36) st) := GE.region_step (id := 4) (GE.reg_of (by kernel_rfl)) (by kernel_rfl)
theorem n36_16s : codeB Try.prog E ⟨f, 40, b, ro⟩ n36_16 st = plainS (runOps Try.prog E b q36_16 (ops [true, true, true, true, false, false] Try.f36) st) := GE.region_step (id := 5) (GE.reg_of (by kernel_rfl)) (by kernel_rfl)
theorem n36_20s : codeB Try.prog E ⟨f, 40, b, ro⟩ n36_20 st = plainS (runOps Try.prog E b q36_20 (ops [true, true, true, true, false, true, false, false, false] Try.f36) st) := GE.region_step (id := 6) (GE.reg_of (by kernel_rfl)) (by kernel_rfl)
theorem n36_23s : codeB Try.prog E cx n36_23 st = some (.normal, st) := GE.skip_step (by kernel_rfl)
theorem n36_24s : codeB Try.prog LL ⟨36, 40, b, ro⟩ n36_24 st = normS b ⟨[8], [⟨8, 0, 1, true⟩]⟩ (.exit 0) st := GE.exit_step (by kernel_rfl) (by kernel_rfl)
theorem n36_22s : codeB Try.prog E cx n36_22 st = condS (codeB Try.prog E cx n36_23) (codeB Try.prog E cx n36_24) (lk st.σ 23) st := GE.cond_step (c := .tmp 23) (by kernel_rfl)
theorem n36_28s : codeB Try.prog E ⟨f, 40, b, ro⟩ n36_28 st = plainS (runOps Try.prog E b q36_28 (ops [true, true, true, true, false, true, false, false, true, true, false, false, false] Try.f36) st) := GE.region_step (id := 7) (GE.reg_of (by kernel_rfl)) (by kernel_rfl)
theorem q36_30g4 : gd q36_30 4 = some 29 := by kernel_rfl
theorem n36_30s : codeB Try.prog E ⟨f, 40, b, ro⟩ n36_30 st = plainS (runOps Try.prog E b q36_30 (ops [true, true, true, true, false, true, false, false, true, true, false, false, true, false] Try.f36) st) := GE.region_step (id := 8) (GE.reg_of (by kernel_rfl)) (by kernel_rfl)
theorem n36_32s : codeB Try.prog E ⟨f, 40, b, ro⟩ n36_32 st = plainS (runOps Try.prog E b q36_32 (ops [true, true, true, true, false, true, false, false, true, true, false, false, true, true, false] Try.f36) st) := GE.region_step (id := 9) (GE.reg_of (by kernel_rfl)) (by kernel_rfl)
theorem n36_33s : codeB Try.prog E cx n36_33 st = some (.normal, st) := GE.skip_step (by kernel_rfl)
theorem n36_31s : codeB Try.prog E cx n36_31 st = condS (codeB Try.prog E cx n36_32) (codeB Try.prog E cx n36_33) (lk st.σ 33) st := GE.cond_step (c := .tmp 33) (by kernel_rfl)
theorem n36_29s : codeB Try.prog E cx n36_29 st = thenS (codeB Try.prog E cx n36_30 st) (codeB Try.prog E cx n36_31) := GE.seq_step (by kernel_rfl)
theorem n36_27s : codeB Try.prog E cx n36_27 st = thenS (codeB Try.prog E cx n36_28 st) (codeB Try.prog E cx n36_29) := GE.seq_step (by kernel_rfl)
theorem n36_26s : codeB Try.prog E cx n36_26 st = blockS 1 (codeB Try.prog E cx n36_27 st) st := GE.block_step (by kernel_rfl)
theorem n36_34s : codeB Try.prog E ⟨f, 40, b, ro⟩ n36_34 st = plainS (runOps Try.prog E b q36_34 (ops [true, true, true, true, false, true, false, false, true, true, true] Try.f36) st) := GE.region_step (id := 10) (GE.reg_of (by kernel_rfl)) (by kernel_rfl)
theorem n36_25s : codeB Try.prog E cx n36_25 st = thenS (codeB Try.prog E cx n36_26 st) (codeB Try.prog E cx n36_34) := GE.seq_step (by kernel_rfl)
theorem n36_21s : codeB Try.prog E cx n36_21 st = thenS (codeB Try.prog E cx n36_22 st) (codeB Try.prog E cx n36_25) := GE.seq_step (by kernel_rfl)
theorem n36_19s : codeB Try.prog E cx n36_19 st = thenS (codeB Try.prog E cx n36_20 st) (codeB Try.prog E cx n36_21) := GE.seq_step (by kernel_rfl)
theorem n36_18k : LL.kp (⟨36, 40, b, ro⟩ : Cx).fn (4 * rid n36_19 + 3) = some ⟨[2, 6, 8, 21, 22], [⟨2, 2, 3, true⟩, ⟨6, 2, 3, true⟩, ⟨6, 3, 1, true⟩, ⟨8, 0, 1, true⟩]⟩ := by kernel_rfl
theorem n36_18s : codeB Try.prog LL ⟨36, 40, b, ro⟩ n36_18 st = headS b ⟨[2, 6, 8, 21, 22], [⟨2, 2, 3, true⟩, ⟨6, 2, 3, true⟩, ⟨6, 3, 1, true⟩, ⟨8, 0, 1, true⟩]⟩ st (lpB Try.prog LL ⟨36, 40, b, ro⟩ n36_18 n36_19) := GE.lpB_step (by kernel_rfl) (n36_18k b ro)
theorem n36_18g : LL.code ⟨36, 40, b, ro⟩ n36_18 st = headS b ⟨[2, 6, 8, 21, 22], [⟨2, 2, 3, true⟩, ⟨6, 2, 3, true⟩, ⟨6, 3, 1, true⟩, ⟨8, 0, 1, true⟩]⟩ st (lpB Try.prog LL ⟨36, 40, b, ro⟩ n36_18 n36_19) := GE.lpB_again (by kernel_rfl) (n36_18k b ro)
theorem n36_17s : codeB Try.prog E cx n36_17 st = blockS 0 (codeB Try.prog E cx n36_18 st) st := GE.block_step (by kernel_rfl)
theorem n36_15s : codeB Try.prog E cx n36_15 st = thenS (codeB Try.prog E cx n36_16 st) (codeB Try.prog E cx n36_17) := GE.seq_step (by kernel_rfl)
theorem n36_36s : codeB Try.prog E ⟨f, 40, b, ro⟩ n36_36 st = plainS (runOps Try.prog E b q36_36 (ops [true, true, true, true, true, false] Try.f36) st) := GE.region_step (id := 11) (GE.reg_of (by kernel_rfl)) (by kernel_rfl)
theorem n36_37s : codeB Try.prog LL ⟨36, 40, b, ro⟩ n36_37 st = normS b ⟨[4, 5], [⟨4, 0, 1, true⟩]⟩ .ret st := GE.ret_step (by kernel_rfl) (by kernel_rfl)
theorem n36_35s : codeB Try.prog E cx n36_35 st = thenS (codeB Try.prog E cx n36_36 st) (codeB Try.prog E cx n36_37) := GE.seq_step (by kernel_rfl)
theorem n36_14s : codeB Try.prog E cx n36_14 st = thenS (codeB Try.prog E cx n36_15 st) (codeB Try.prog E cx n36_35) := GE.seq_step (by kernel_rfl)
theorem n36_12s : codeB Try.prog E cx n36_12 st = thenS (codeB Try.prog E cx n36_13 st) (codeB Try.prog E cx n36_14) := GE.seq_step (by kernel_rfl)
theorem n36_4s : codeB Try.prog E cx n36_4 st = thenS (codeB Try.prog E cx n36_5 st) (codeB Try.prog E cx n36_12) := GE.seq_step (by kernel_rfl)
theorem n36_2s : codeB Try.prog E cx n36_2 st = thenS (codeB Try.prog E cx n36_3 st) (codeB Try.prog E cx n36_4) := GE.seq_step (by kernel_rfl)
theorem n36_0s : codeB Try.prog E cx n36_0 st = thenS (codeB Try.prog E cx n36_1 st) (codeB Try.prog E cx n36_2) := GE.seq_step (by kernel_rfl)
noncomputable def n37_0 : Code := bodyOf Try.f37
noncomputable def n37_1 : Code := cl n37_0
noncomputable def q37_1 : List Oper := opsOf n37_1
noncomputable def n37_2 : Code := cr n37_0
noncomputable def n37_3 : Code := cl n37_2
noncomputable def q37_3 : List Oper := opsOf n37_3
noncomputable def n37_4 : Code := cr n37_2
noncomputable def n37_5 : Code := cl n37_4
noncomputable def n37_6 : Code := cl n37_5
noncomputable def q37_6 : List Oper := opsOf n37_6
noncomputable def n37_7 : Code := cr n37_5
noncomputable def n37_8 : Code := cl n37_7
noncomputable def n37_9 : Code := cl n37_8
noncomputable def q37_9 : List Oper := opsOf n37_9
noncomputable def n37_10 : Code := cr n37_8
noncomputable def n37_11 : Code := cr n37_7
noncomputable def n37_12 : Code := cr n37_4
noncomputable def n37_13 : Code := cl n37_12
noncomputable def q37_13 : List Oper := opsOf n37_13
noncomputable def n37_14 : Code := cr n37_12
noncomputable def n37_15 : Code := cl n37_14
noncomputable def n37_16 : Code := cl n37_15
noncomputable def q37_16 : List Oper := opsOf n37_16
noncomputable def n37_17 : Code := cr n37_15
noncomputable def n37_18 : Code := cl n37_17
noncomputable def n37_19 : Code := cl n37_18
noncomputable def n37_20 : Code := cl n37_19
noncomputable def n37_21 : Code := cl n37_20
noncomputable def q37_21 : List Oper := opsOf n37_21
noncomputable def n37_22 : Code := cr n37_20
noncomputable def n37_23 : Code := cl n37_22
noncomputable def n37_24 : Code := cr n37_22
noncomputable def n37_25 : Code := cr n37_19
noncomputable def n37_26 : Code := cl n37_25
noncomputable def n37_27 : Code := cl n37_26
noncomputable def n37_28 : Code := cl n37_27
noncomputable def q37_28 : List Oper := opsOf n37_28
noncomputable def n37_29 : Code := cr n37_27
noncomputable def n37_30 : Code := cl n37_29
noncomputable def q37_30 : List Oper := opsOf n37_30
noncomputable def n37_31 : Code := cr n37_29
noncomputable def n37_32 : Code := cr n37_25
noncomputable def q37_32 : List Oper := opsOf n37_32
noncomputable def n37_33 : Code := cr n37_14
noncomputable def n37_34 : Code := cl n37_33
noncomputable def q37_34 : List Oper := opsOf n37_34
noncomputable def n37_35 : Code := cr n37_33
theorem body37 : Try.f37.body = some n37_0 := by kernel_rfl
theorem run37 (E : Ev) (args : List Value) (h : List Blk) (hl : args.length ≤ 42) : runB Try.prog E 37 args h = endS Try.prog [.tmp 4, .tmp 5] h.length (codeB Try.prog E ⟨37, 42, h.length, none⟩ n37_0 ⟨enumT 0 args, h, []⟩) := GE.run_step Try.func37 body37 (by kernel_rfl) (by decide) (by kernel_rfl) hl
theorem n37_1s : codeB Try.prog E ⟨f, 42, b, ro⟩ n37_1 st = plainS (runOps Try.prog E b q37_1 (ops [false] Try.f37) st) := GE.region_step (id := 0) (GE.reg_of (by kernel_rfl)) (by kernel_rfl)
theorem n37_3s : codeB Try.prog E ⟨f, 42, b, ro⟩ n37_3 st = plainS (runOps Try.prog E b q37_3 (ops [true, false] Try.f37) st) := GE.region_step (id := 1) (GE.reg_of (by kernel_rfl)) (by kernel_rfl)
theorem q37_6g2 : gd q37_6 2 = some 14 := by kernel_rfl
theorem n37_6s : codeB Try.prog E ⟨f, 42, b, ro⟩ n37_6 st = plainS (runOps Try.prog E b q37_6 (ops [true, true, false, false] Try.f37) st) := GE.region_step (id := 2) (GE.reg_of (by kernel_rfl)) (by kernel_rfl)
theorem n37_9s : codeB Try.prog E ⟨f, 42, b, ro⟩ n37_9 st = plainS (runOps Try.prog E b q37_9 (ops [true, true, false, true, false, false] Try.f37) st) := GE.region_step (id := 3) (GE.reg_of (by kernel_rfl)) (by kernel_rfl)
theorem n37_10s : codeB Try.prog LL ⟨37, 42, b, ro⟩ n37_10 st = normS b ⟨[4, 5], [⟨4, 0, 1, true⟩]⟩ .ret st := GE.ret_step (by kernel_rfl) (by kernel_rfl)
theorem n37_8s : codeB Try.prog E cx n37_8 st = thenS (codeB Try.prog E cx n37_9 st) (codeB Try.prog E cx n37_10) := GE.seq_step (by kernel_rfl)
theorem n37_11s : codeB Try.prog E cx n37_11 st = some (.normal, st) := GE.skip_step (by kernel_rfl)
theorem n37_7s : codeB Try.prog E cx n37_7 st = condS (codeB Try.prog E cx n37_8) (codeB Try.prog E cx n37_11) (lk st.σ 17) st := GE.cond_step (c := .tmp 17) (by kernel_rfl)
theorem n37_5s : codeB Try.prog E cx n37_5 st = thenS (codeB Try.prog E cx n37_6 st) (codeB Try.prog E cx n37_7) := GE.seq_step (by kernel_rfl)
theorem n37_13s : codeB Try.prog E ⟨f, 42, b, ro⟩ n37_13 st = plainS (runOps Try.prog E b q37_13 (ops [true, true, true, false] Try.f37) st) := GE.region_step (id := 4) (GE.reg_of (by kernel_rfl)) (by kernel_rfl)
theorem n37_16s : codeB Try.prog E ⟨f, 42, b, ro⟩ n37_16 st = plainS (runOps Try.prog E b q37_16 (ops [true, true, true, true, false, false] Try.f37) st) := GE.region_step (id := 5) (GE.reg_of (by kernel_rfl)) (by kernel_rfl)
theorem n37_21s : codeB Try.prog E ⟨f, 42, b, ro⟩ n37_21 st = plainS (runOps Try.prog E b q37_21 (ops [true, true, true, true, false, true, false, false, false, false] Try.f37) st) := GE.region_step (id := 6) (GE.reg_of (by kernel_rfl)) (by kernel_rfl)
theorem n37_23s : codeB Try.prog E cx n37_23 st = some (.normal, st) := GE.skip_step (by kernel_rfl)
theorem n37_24s : codeB Try.prog LL ⟨37, 42, b, ro⟩ n37_24 st = normS b ⟨[7], [⟨7, 0, 1, true⟩]⟩ (.exit 0) st := GE.exit_step (by kernel_rfl) (by kernel_rfl)
theorem n37_22s : codeB Try.prog E cx n37_22 st = condS (codeB Try.prog E cx n37_23) (codeB Try.prog E cx n37_24) (lk st.σ 23) st := GE.cond_step (c := .tmp 23) (by kernel_rfl)
theorem n37_20s : codeB Try.prog E cx n37_20 st = thenS (codeB Try.prog E cx n37_21 st) (codeB Try.prog E cx n37_22) := GE.seq_step (by kernel_rfl)
theorem q37_28g4 : gd q37_28 4 = some 30 := by kernel_rfl
theorem n37_28s : codeB Try.prog E ⟨f, 42, b, ro⟩ n37_28 st = plainS (runOps Try.prog E b q37_28 (ops [true, true, true, true, false, true, false, false, true, false, false, false] Try.f37) st) := GE.region_step (id := 8) (GE.reg_of (by kernel_rfl)) (by kernel_rfl)
theorem n37_30s : codeB Try.prog E ⟨f, 42, b, ro⟩ n37_30 st = plainS (runOps Try.prog E b q37_30 (ops [true, true, true, true, false, true, false, false, true, false, false, true, false] Try.f37) st) := GE.region_step (id := 9) (GE.reg_of (by kernel_rfl)) (by kernel_rfl)
theorem n37_31s : codeB Try.prog E cx n37_31 st = some (.normal, st) := GE.skip_step (by kernel_rfl)
theorem n37_29s : codeB Try.prog E cx n37_29 st = condS (codeB Try.prog E cx n37_30) (codeB Try.prog E cx n37_31) (lk st.σ 36) st := GE.cond_step (c := .tmp 36) (by kernel_rfl)
theorem n37_27s : codeB Try.prog E cx n37_27 st = thenS (codeB Try.prog E cx n37_28 st) (codeB Try.prog E cx n37_29) := GE.seq_step (by kernel_rfl)
theorem n37_26s : codeB Try.prog E cx n37_26 st = blockS 1 (codeB Try.prog E cx n37_27 st) st := GE.block_step (by kernel_rfl)
theorem n37_32s : codeB Try.prog E ⟨f, 42, b, ro⟩ n37_32 st = plainS (runOps Try.prog E b q37_32 (ops [true, true, true, true, false, true, false, false, true, true] Try.f37) st) := GE.region_step (id := 7) (GE.reg_of (by kernel_rfl)) (by kernel_rfl)
theorem n37_25s : codeB Try.prog E cx n37_25 st = thenS (codeB Try.prog E cx n37_26 st) (codeB Try.prog E cx n37_32) := GE.seq_step (by kernel_rfl)
theorem n37_19s : codeB Try.prog E cx n37_19 st = thenS (codeB Try.prog E cx n37_20 st) (codeB Try.prog E cx n37_25) := GE.seq_step (by kernel_rfl)
theorem n37_18k : LL.kp (⟨37, 42, b, ro⟩ : Cx).fn (4 * rid n37_19 + 3) = some ⟨[1, 2, 7, 8], [⟨1, 0, 1, true⟩, ⟨2, 2, 3, true⟩, ⟨7, 0, 1, true⟩]⟩ := by kernel_rfl
theorem n37_18s : codeB Try.prog LL ⟨37, 42, b, ro⟩ n37_18 st = headS b ⟨[1, 2, 7, 8], [⟨1, 0, 1, true⟩, ⟨2, 2, 3, true⟩, ⟨7, 0, 1, true⟩]⟩ st (lpB Try.prog LL ⟨37, 42, b, ro⟩ n37_18 n37_19) := GE.lpB_step (by kernel_rfl) (n37_18k b ro)
theorem n37_18g : LL.code ⟨37, 42, b, ro⟩ n37_18 st = headS b ⟨[1, 2, 7, 8], [⟨1, 0, 1, true⟩, ⟨2, 2, 3, true⟩, ⟨7, 0, 1, true⟩]⟩ st (lpB Try.prog LL ⟨37, 42, b, ro⟩ n37_18 n37_19) := GE.lpB_again (by kernel_rfl) (n37_18k b ro)
theorem n37_17s : codeB Try.prog E cx n37_17 st = blockS 0 (codeB Try.prog E cx n37_18 st) st := GE.block_step (by kernel_rfl)
theorem n37_15s : codeB Try.prog E cx n37_15 st = thenS (codeB Try.prog E cx n37_16 st) (codeB Try.prog E cx n37_17) := GE.seq_step (by kernel_rfl)
theorem n37_34s : codeB Try.prog E ⟨f, 42, b, ro⟩ n37_34 st = plainS (runOps Try.prog E b q37_34 (ops [true, true, true, true, true, false] Try.f37) st) := GE.region_step (id := 10) (GE.reg_of (by kernel_rfl)) (by kernel_rfl)
theorem n37_35s : codeB Try.prog LL ⟨37, 42, b, ro⟩ n37_35 st = normS b ⟨[4, 5], [⟨4, 0, 1, true⟩]⟩ .ret st := GE.ret_step (by kernel_rfl) (by kernel_rfl)
theorem n37_33s : codeB Try.prog E cx n37_33 st = thenS (codeB Try.prog E cx n37_34 st) (codeB Try.prog E cx n37_35) := GE.seq_step (by kernel_rfl)
theorem n37_14s : codeB Try.prog E cx n37_14 st = thenS (codeB Try.prog E cx n37_15 st) (codeB Try.prog E cx n37_33) := GE.seq_step (by kernel_rfl)
theorem n37_12s : codeB Try.prog E cx n37_12 st = thenS (codeB Try.prog E cx n37_13 st) (codeB Try.prog E cx n37_14) := GE.seq_step (by kernel_rfl)
theorem n37_4s : codeB Try.prog E cx n37_4 st = thenS (codeB Try.prog E cx n37_5 st) (codeB Try.prog E cx n37_12) := GE.seq_step (by kernel_rfl)
theorem n37_2s : codeB Try.prog E cx n37_2 st = thenS (codeB Try.prog E cx n37_3 st) (codeB Try.prog E cx n37_4) := GE.seq_step (by kernel_rfl)
theorem n37_0s : codeB Try.prog E cx n37_0 st = thenS (codeB Try.prog E cx n37_1 st) (codeB Try.prog E cx n37_2) := GE.seq_step (by kernel_rfl)
noncomputable def n49_0 : Code := bodyOf Try.f49
noncomputable def n49_1 : Code := cl n49_0
noncomputable def q49_1 : List Oper := opsOf n49_1
noncomputable def n49_2 : Code := cr n49_0
noncomputable def n49_3 : Code := cl n49_2
noncomputable def q49_3 : List Oper := opsOf n49_3
noncomputable def n49_4 : Code := cr n49_2
noncomputable def n49_5 : Code := cl n49_4
noncomputable def n49_6 : Code := cl n49_5
noncomputable def q49_6 : List Oper := opsOf n49_6
noncomputable def n49_7 : Code := cr n49_5
noncomputable def n49_8 : Code := cl n49_7
noncomputable def n49_9 : Code := cl n49_8
noncomputable def n49_10 : Code := cl n49_9
noncomputable def q49_10 : List Oper := opsOf n49_10
noncomputable def n49_11 : Code := cr n49_9
noncomputable def n49_12 : Code := cl n49_11
noncomputable def n49_13 : Code := cl n49_12
noncomputable def n49_14 : Code := cr n49_12
noncomputable def n49_15 : Code := cr n49_11
noncomputable def n49_16 : Code := cl n49_15
noncomputable def n49_17 : Code := cl n49_16
noncomputable def n49_18 : Code := cl n49_17
noncomputable def q49_18 : List Oper := opsOf n49_18
noncomputable def n49_19 : Code := cr n49_17
noncomputable def q49_19 : List Oper := opsOf n49_19
noncomputable def n49_20 : Code := cr n49_15
noncomputable def q49_20 : List Oper := opsOf n49_20
noncomputable def n49_21 : Code := cr n49_4
noncomputable def n49_22 : Code := cl n49_21
noncomputable def q49_22 : List Oper := opsOf n49_22
noncomputable def n49_23 : Code := cr n49_21
theorem body49 : Try.f49.body = some n49_0 := by kernel_rfl
theorem run49 (E : Ev) (args : List Value) (h : List Blk) (hl : args.length ≤ 22) : runB Try.prog E 49 args h = endS Try.prog [.tmp 4] h.length (codeB Try.prog E ⟨49, 22, h.length, none⟩ n49_0 ⟨enumT 0 args, h, []⟩) := GE.run_step Try.func49 body49 (by kernel_rfl) (by decide) (by kernel_rfl) hl
theorem n49_1s : codeB Try.prog E ⟨f, 22, b, ro⟩ n49_1 st = plainS (runOps Try.prog E b q49_1 (ops [false] Try.f49) st) := GE.region_step (id := 0) (GE.reg_of (by kernel_rfl)) (by kernel_rfl)
theorem n49_3s : codeB Try.prog E ⟨f, 22, b, ro⟩ n49_3 st = plainS (runOps Try.prog E b q49_3 (ops [true, false] Try.f49) st) := GE.region_step (id := 1) (GE.reg_of (by kernel_rfl)) (by kernel_rfl)
theorem n49_6s : codeB Try.prog E ⟨f, 22, b, ro⟩ n49_6 st = plainS (runOps Try.prog E b q49_6 (ops [true, true, false, false] Try.f49) st) := GE.region_step (id := 2) (GE.reg_of (by kernel_rfl)) (by kernel_rfl)
theorem n49_10s : codeB Try.prog E ⟨f, 22, b, ro⟩ n49_10 st = plainS (runOps Try.prog E b q49_10 (ops [true, true, false, true, false, false, false] Try.f49) st) := GE.region_step (id := 3) (GE.reg_of (by kernel_rfl)) (by kernel_rfl)
theorem n49_13s : codeB Try.prog E cx n49_13 st = some (.normal, st) := GE.skip_step (by kernel_rfl)
theorem n49_14s : codeB Try.prog LL ⟨49, 22, b, ro⟩ n49_14 st = normS b ⟨[5], [⟨5, 0, 1, true⟩]⟩ (.exit 0) st := GE.exit_step (by kernel_rfl) (by kernel_rfl)
theorem n49_12s : codeB Try.prog E cx n49_12 st = condS (codeB Try.prog E cx n49_13) (codeB Try.prog E cx n49_14) (lk st.σ 11) st := GE.cond_step (c := .tmp 11) (by kernel_rfl)
theorem n49_18s : codeB Try.prog E ⟨f, 22, b, ro⟩ n49_18 st = plainS (runOps Try.prog E b q49_18 (ops [true, true, false, true, false, false, true, true, false, false, false] Try.f49) st) := GE.region_step (id := 4) (GE.reg_of (by kernel_rfl)) (by kernel_rfl)
theorem n49_19s : codeB Try.prog E ⟨f, 22, b, ro⟩ n49_19 st = plainS (runOps Try.prog E b q49_19 (ops [true, true, false, true, false, false, true, true, false, false, true] Try.f49) st) := GE.region_step (id := 5) (GE.reg_of (by kernel_rfl)) (by kernel_rfl)
theorem n49_17s : codeB Try.prog E cx n49_17 st = thenS (codeB Try.prog E cx n49_18 st) (codeB Try.prog E cx n49_19) := GE.seq_step (by kernel_rfl)
theorem n49_16s : codeB Try.prog E cx n49_16 st = blockS 1 (codeB Try.prog E cx n49_17 st) st := GE.block_step (by kernel_rfl)
theorem n49_20s : codeB Try.prog E ⟨f, 22, b, ro⟩ n49_20 st = plainS (runOps Try.prog E b q49_20 (ops [true, true, false, true, false, false, true, true, true] Try.f49) st) := GE.region_step (id := 6) (GE.reg_of (by kernel_rfl)) (by kernel_rfl)
theorem n49_15s : codeB Try.prog E cx n49_15 st = thenS (codeB Try.prog E cx n49_16 st) (codeB Try.prog E cx n49_20) := GE.seq_step (by kernel_rfl)
theorem n49_11s : codeB Try.prog E cx n49_11 st = thenS (codeB Try.prog E cx n49_12 st) (codeB Try.prog E cx n49_15) := GE.seq_step (by kernel_rfl)
theorem n49_9s : codeB Try.prog E cx n49_9 st = thenS (codeB Try.prog E cx n49_10 st) (codeB Try.prog E cx n49_11) := GE.seq_step (by kernel_rfl)
theorem n49_8k : LL.kp (⟨49, 22, b, ro⟩ : Cx).fn (4 * rid n49_9 + 3) = some ⟨[1, 5, 8, 9, 10], [⟨5, 0, 1, true⟩, ⟨8, 0, 2, true⟩]⟩ := by kernel_rfl
theorem n49_8s : codeB Try.prog LL ⟨49, 22, b, ro⟩ n49_8 st = headS b ⟨[1, 5, 8, 9, 10], [⟨5, 0, 1, true⟩, ⟨8, 0, 2, true⟩]⟩ st (lpB Try.prog LL ⟨49, 22, b, ro⟩ n49_8 n49_9) := GE.lpB_step (by kernel_rfl) (n49_8k b ro)
theorem n49_8g : LL.code ⟨49, 22, b, ro⟩ n49_8 st = headS b ⟨[1, 5, 8, 9, 10], [⟨5, 0, 1, true⟩, ⟨8, 0, 2, true⟩]⟩ st (lpB Try.prog LL ⟨49, 22, b, ro⟩ n49_8 n49_9) := GE.lpB_again (by kernel_rfl) (n49_8k b ro)
theorem n49_7s : codeB Try.prog E cx n49_7 st = blockS 0 (codeB Try.prog E cx n49_8 st) st := GE.block_step (by kernel_rfl)
theorem n49_5s : codeB Try.prog E cx n49_5 st = thenS (codeB Try.prog E cx n49_6 st) (codeB Try.prog E cx n49_7) := GE.seq_step (by kernel_rfl)
theorem n49_22s : codeB Try.prog E ⟨f, 22, b, ro⟩ n49_22 st = plainS (runOps Try.prog E b q49_22 (ops [true, true, true, false] Try.f49) st) := GE.region_step (id := 7) (GE.reg_of (by kernel_rfl)) (by kernel_rfl)
theorem n49_23s : codeB Try.prog LL ⟨49, 22, b, ro⟩ n49_23 st = normS b ⟨[4], [⟨4, 0, 1, true⟩]⟩ .ret st := GE.ret_step (by kernel_rfl) (by kernel_rfl)
theorem n49_21s : codeB Try.prog E cx n49_21 st = thenS (codeB Try.prog E cx n49_22 st) (codeB Try.prog E cx n49_23) := GE.seq_step (by kernel_rfl)
theorem n49_4s : codeB Try.prog E cx n49_4 st = thenS (codeB Try.prog E cx n49_5 st) (codeB Try.prog E cx n49_21) := GE.seq_step (by kernel_rfl)
theorem n49_2s : codeB Try.prog E cx n49_2 st = thenS (codeB Try.prog E cx n49_3 st) (codeB Try.prog E cx n49_4) := GE.seq_step (by kernel_rfl)
theorem n49_0s : codeB Try.prog E cx n49_0 st = thenS (codeB Try.prog E cx n49_1 st) (codeB Try.prog E cx n49_2) := GE.seq_step (by kernel_rfl)
noncomputable def n50_0 : Code := bodyOf Try.f50
noncomputable def n50_1 : Code := cl n50_0
noncomputable def q50_1 : List Oper := opsOf n50_1
noncomputable def n50_2 : Code := cr n50_0
noncomputable def n50_3 : Code := cl n50_2
noncomputable def n50_4 : Code := cl n50_3
noncomputable def q50_4 : List Oper := opsOf n50_4
noncomputable def n50_5 : Code := cr n50_3
noncomputable def n50_6 : Code := cl n50_5
noncomputable def q50_6 : List Oper := opsOf n50_6
noncomputable def n50_7 : Code := cr n50_5
noncomputable def n50_8 : Code := cl n50_7
noncomputable def n50_9 : Code := cr n50_7
noncomputable def n50_10 : Code := cl n50_9
noncomputable def n50_11 : Code := cl n50_10
noncomputable def q50_11 : List Oper := opsOf n50_11
noncomputable def n50_12 : Code := cr n50_10
noncomputable def n50_13 : Code := cl n50_12
noncomputable def n50_14 : Code := cl n50_13
noncomputable def q50_14 : List Oper := opsOf n50_14
noncomputable def n50_15 : Code := cr n50_13
noncomputable def n50_16 : Code := cr n50_12
noncomputable def n50_17 : Code := cr n50_9
noncomputable def n50_18 : Code := cl n50_17
noncomputable def n50_19 : Code := cl n50_18
noncomputable def q50_19 : List Oper := opsOf n50_19
noncomputable def n50_20 : Code := cr n50_18
noncomputable def n50_21 : Code := cl n50_20
noncomputable def q50_21 : List Oper := opsOf n50_21
noncomputable def n50_22 : Code := cr n50_20
noncomputable def n50_23 : Code := cl n50_22
noncomputable def n50_24 : Code := cl n50_23
noncomputable def q50_24 : List Oper := opsOf n50_24
noncomputable def n50_25 : Code := cr n50_23
noncomputable def q50_25 : List Oper := opsOf n50_25
noncomputable def n50_26 : Code := cr n50_22
noncomputable def n50_27 : Code := cr n50_17
noncomputable def n50_28 : Code := cl n50_27
noncomputable def q50_28 : List Oper := opsOf n50_28
noncomputable def n50_29 : Code := cr n50_27
noncomputable def r50_0 : Code := .seq .skip n50_9
theorem body50 : Try.f50.body = some n50_0 := by kernel_rfl
theorem run50 (E : Ev) (args : List Value) (h : List Blk) (hl : args.length ≤ 33) : runB Try.prog E 50 args h = endS Try.prog [.tmp 2] h.length (codeB Try.prog E ⟨50, 33, h.length, none⟩ n50_0 ⟨enumT 0 args, h, []⟩) := GE.run_step Try.func50 body50 (by kernel_rfl) (by decide) (by kernel_rfl) hl
theorem n50_1s : codeB Try.prog E ⟨f, 33, b, ro⟩ n50_1 st = plainS (runOps Try.prog E b q50_1 (ops [false] Try.f50) st) := GE.region_step (id := 0) (GE.reg_of (by kernel_rfl)) (by kernel_rfl)
theorem n50_4s : codeB Try.prog E ⟨f, 33, b, ro⟩ n50_4 st = plainS (runOps Try.prog E b q50_4 (ops [true, false, false] Try.f50) st) := GE.region_step (id := 1) (GE.reg_of (by kernel_rfl)) (by kernel_rfl)
theorem n50_6s : codeB Try.prog E ⟨f, 33, b, ro⟩ n50_6 st = plainS (runOps Try.prog E b q50_6 (ops [true, false, true, false] Try.f50) st) := GE.region_step (id := 2) (GE.reg_of (by kernel_rfl)) (by kernel_rfl)
theorem n50_8s : codeB Try.prog LL ⟨50, 33, b, ro⟩ n50_8 st = normS b ⟨[1, 3, 4, 5], [⟨1, 2, 3, true⟩, ⟨3, 0, 2, true⟩]⟩ .normal st := GE.label_step (n := 0) (by kernel_rfl) (by kernel_rfl)
theorem n50_11s : codeB Try.prog E ⟨f, 33, b, ro⟩ n50_11 st = plainS (runOps Try.prog E b q50_11 (ops [true, false, true, true, true, false, false] Try.f50) st) := GE.region_step (id := 3) (GE.reg_of (by kernel_rfl)) (by kernel_rfl)
theorem n50_14s : codeB Try.prog E ⟨f, 33, b, ro⟩ n50_14 st = plainS (runOps Try.prog E b q50_14 (ops [true, false, true, true, true, false, true, false, false] Try.f50) st) := GE.region_step (id := 4) (GE.reg_of (by kernel_rfl)) (by kernel_rfl)
theorem n50_15s : codeB Try.prog LL ⟨50, 33, b, ro⟩ n50_15 st = normS b ⟨[2], [⟨2, 0, 2, true⟩]⟩ .ret st := GE.ret_step (by kernel_rfl) (by kernel_rfl)
theorem n50_13s : codeB Try.prog E cx n50_13 st = thenS (codeB Try.prog E cx n50_14 st) (codeB Try.prog E cx n50_15) := GE.seq_step (by kernel_rfl)
theorem n50_16s : codeB Try.prog E cx n50_16 st = some (.normal, st) := GE.skip_step (by kernel_rfl)
theorem n50_12s : codeB Try.prog E cx n50_12 st = condS (codeB Try.prog E cx n50_13) (codeB Try.prog E cx n50_16) (lk st.σ 11) st := GE.cond_step (c := .tmp 11) (by kernel_rfl)
theorem n50_10s : codeB Try.prog E cx n50_10 st = thenS (codeB Try.prog E cx n50_11 st) (codeB Try.prog E cx n50_12) := GE.seq_step (by kernel_rfl)
theorem n50_19s : codeB Try.prog E ⟨f, 33, b, ro⟩ n50_19 st = plainS (runOps Try.prog E b q50_19 (ops [true, false, true, true, true, true, false, false] Try.f50) st) := GE.region_step (id := 5) (GE.reg_of (by kernel_rfl)) (by kernel_rfl)
theorem n50_21s : codeB Try.prog E ⟨f, 33, b, ro⟩ n50_21 st = plainS (runOps Try.prog E b q50_21 (ops [true, false, true, true, true, true, false, true, false] Try.f50) st) := GE.region_step (id := 6) (GE.reg_of (by kernel_rfl)) (by kernel_rfl)
theorem n50_24s : codeB Try.prog E ⟨f, 33, b, ro⟩ n50_24 st = plainS (runOps Try.prog E b q50_24 (ops [true, false, true, true, true, true, false, true, true, false, false] Try.f50) st) := GE.region_step (id := 7) (GE.reg_of (by kernel_rfl)) (by kernel_rfl)
theorem n50_25s : codeB Try.prog E ⟨f, 33, b, ro⟩ n50_25 st = plainS (runOps Try.prog E b q50_25 (ops [true, false, true, true, true, true, false, true, true, false, true] Try.f50) st) := GE.region_step (id := 8) (GE.reg_of (by kernel_rfl)) (by kernel_rfl)
theorem n50_23s : codeB Try.prog E cx n50_23 st = thenS (codeB Try.prog E cx n50_24 st) (codeB Try.prog E cx n50_25) := GE.seq_step (by kernel_rfl)
theorem n50_26s : codeB Try.prog E cx n50_26 st = some (.normal, st) := GE.skip_step (by kernel_rfl)
theorem n50_22s : codeB Try.prog E cx n50_22 st = condS (codeB Try.prog E cx n50_23) (codeB Try.prog E cx n50_26) (lk st.σ 21) st := GE.cond_step (c := .tmp 21) (by kernel_rfl)
theorem n50_20s : codeB Try.prog E cx n50_20 st = thenS (codeB Try.prog E cx n50_21 st) (codeB Try.prog E cx n50_22) := GE.seq_step (by kernel_rfl)
theorem n50_18s : codeB Try.prog E cx n50_18 st = thenS (codeB Try.prog E cx n50_19 st) (codeB Try.prog E cx n50_20) := GE.seq_step (by kernel_rfl)
theorem n50_28s : codeB Try.prog E ⟨f, 33, b, ro⟩ n50_28 st = plainS (runOps Try.prog E b q50_28 (ops [true, false, true, true, true, true, true, false] Try.f50) st) := GE.region_step (id := 9) (GE.reg_of (by kernel_rfl)) (by kernel_rfl)
theorem n50_29s : codeB Try.prog E cx n50_29 st = some (.goto 0, st) := GE.goto_step (by kernel_rfl)
theorem n50_27s : codeB Try.prog E cx n50_27 st = thenS (codeB Try.prog E cx n50_28 st) (codeB Try.prog E cx n50_29) := GE.seq_step (by kernel_rfl)
theorem n50_17s : codeB Try.prog E cx n50_17 st = thenS (codeB Try.prog E cx n50_18 st) (codeB Try.prog E cx n50_27) := GE.seq_step (by kernel_rfl)
theorem n50_9s : codeB Try.prog E cx n50_9 st = thenS (codeB Try.prog E cx n50_10 st) (codeB Try.prog E cx n50_17) := GE.seq_step (by kernel_rfl)
theorem n50_7s : codeB Try.prog E cx n50_7 st = thenS (codeB Try.prog E cx n50_8 st) (codeB Try.prog E cx n50_9) := GE.seq_step (by kernel_rfl)
theorem n50_5s : codeB Try.prog E cx n50_5 st = thenS (codeB Try.prog E cx n50_6 st) (codeB Try.prog E cx n50_7) := GE.seq_step (by kernel_rfl)
theorem n50_3s : codeB Try.prog E cx n50_3 st = thenS (codeB Try.prog E cx n50_4 st) (codeB Try.prog E cx n50_5) := GE.seq_step (by kernel_rfl)
theorem n50_2s : codeB Try.prog E cx n50_2 st = gotoS Try.prog E cx n50_3 (codeB Try.prog E cx n50_3 st) := GE.scopeK_step (by kernel_rfl)
theorem n50_2j0 : gotoL Try.prog LL ⟨50, 33, b, ro⟩ n50_3 0 st = headS b ⟨[1, 3, 4, 5], [⟨1, 2, 3, true⟩, ⟨3, 0, 2, true⟩]⟩ st (scpL Try.prog LL ⟨50, 33, b, ro⟩ n50_3 r50_0) := GE.gotoL_step (by kernel_rfl) (by kernel_rfl)
theorem n50_2i0 : codeB Try.prog LL ⟨f, nt, b, ro⟩ r50_0 st = codeB Try.prog LL ⟨f, nt, b, ro⟩ n50_9 st := rfl
theorem n50_0s : codeB Try.prog E cx n50_0 st = thenS (codeB Try.prog E cx n50_1 st) (codeB Try.prog E cx n50_2) := GE.seq_step (by kernel_rfl)
noncomputable def n51_0 : Code := bodyOf Try.f51
noncomputable def n51_1 : Code := cl n51_0
noncomputable def q51_1 : List Oper := opsOf n51_1
noncomputable def n51_2 : Code := cr n51_0
noncomputable def n51_3 : Code := cl n51_2
noncomputable def q51_3 : List Oper := opsOf n51_3
noncomputable def n51_4 : Code := cr n51_2
theorem body51 : Try.f51.body = some n51_0 := by kernel_rfl
theorem run51 (E : Ev) (args : List Value) (h : List Blk) (hl : args.length ≤ 12) : runB Try.prog E 51 args h = endS Try.prog [.tmp 3] h.length (codeB Try.prog E ⟨51, 12, h.length, none⟩ n51_0 ⟨enumT 0 args, h, []⟩) := GE.run_step Try.func51 body51 (by kernel_rfl) (by decide) (by kernel_rfl) hl
theorem n51_1s : codeB Try.prog E ⟨f, 12, b, ro⟩ n51_1 st = plainS (runOps Try.prog E b q51_1 (ops [false] Try.f51) st) := GE.region_step (id := 0) (GE.reg_of (by kernel_rfl)) (by kernel_rfl)
theorem n51_3s : codeB Try.prog E ⟨f, 12, b, ro⟩ n51_3 st = plainS (runOps Try.prog E b q51_3 (ops [true, false] Try.f51) st) := GE.region_step (id := 1) (GE.reg_of (by kernel_rfl)) (by kernel_rfl)
theorem n51_4s : codeB Try.prog LL ⟨51, 12, b, ro⟩ n51_4 st = normS b ⟨[3], []⟩ .ret st := GE.ret_step (by kernel_rfl) (by kernel_rfl)
theorem n51_2s : codeB Try.prog E cx n51_2 st = thenS (codeB Try.prog E cx n51_3 st) (codeB Try.prog E cx n51_4) := GE.seq_step (by kernel_rfl)
theorem n51_0s : codeB Try.prog E cx n51_0 st = thenS (codeB Try.prog E cx n51_1 st) (codeB Try.prog E cx n51_2) := GE.seq_step (by kernel_rfl)
noncomputable def n52_0 : Code := bodyOf Try.f52
noncomputable def n52_1 : Code := cl n52_0
noncomputable def q52_1 : List Oper := opsOf n52_1
noncomputable def n52_2 : Code := cr n52_0
noncomputable def n52_3 : Code := cl n52_2
noncomputable def q52_3 : List Oper := opsOf n52_3
noncomputable def n52_4 : Code := cr n52_2
noncomputable def n52_5 : Code := cl n52_4
noncomputable def q52_5 : List Oper := opsOf n52_5
noncomputable def n52_6 : Code := cr n52_4
noncomputable def n52_7 : Code := cl n52_6
noncomputable def q52_7 : List Oper := opsOf n52_7
noncomputable def n52_8 : Code := cr n52_6
noncomputable def n52_9 : Code := cl n52_8
noncomputable def n52_10 : Code := cl n52_9
noncomputable def q52_10 : List Oper := opsOf n52_10
noncomputable def n52_11 : Code := cr n52_9
noncomputable def n52_12 : Code := cl n52_11
noncomputable def n52_13 : Code := cl n52_12
noncomputable def n52_14 : Code := cl n52_13
noncomputable def n52_15 : Code := cl n52_14
noncomputable def q52_15 : List Oper := opsOf n52_15
noncomputable def n52_16 : Code := cr n52_14
noncomputable def n52_17 : Code := cl n52_16
noncomputable def n52_18 : Code := cr n52_16
noncomputable def n52_19 : Code := cr n52_13
noncomputable def n52_20 : Code := cl n52_19
noncomputable def n52_21 : Code := cl n52_20
noncomputable def n52_22 : Code := cl n52_21
noncomputable def q52_22 : List Oper := opsOf n52_22
noncomputable def n52_23 : Code := cr n52_21
noncomputable def n52_24 : Code := cl n52_23
noncomputable def n52_25 : Code := cl n52_24
noncomputable def n52_26 : Code := cl n52_25
noncomputable def n52_27 : Code := cl n52_26
noncomputable def q52_27 : List Oper := opsOf n52_27
noncomputable def n52_28 : Code := cr n52_26
noncomputable def n52_29 : Code := cl n52_28
noncomputable def n52_30 : Code := cr n52_28
noncomputable def n52_31 : Code := cr n52_25
noncomputable def n52_32 : Code := cl n52_31
noncomputable def n52_33 : Code := cl n52_32
noncomputable def n52_34 : Code := cl n52_33
noncomputable def q52_34 : List Oper := opsOf n52_34
noncomputable def n52_35 : Code := cr n52_33
noncomputable def n52_36 : Code := cl n52_35
noncomputable def n52_37 : Code := cl n52_36
noncomputable def q52_37 : List Oper := opsOf n52_37
noncomputable def n52_38 : Code := cr n52_36
noncomputable def n52_39 : Code := cl n52_38
noncomputable def q52_39 : List Oper := opsOf n52_39
noncomputable def n52_40 : Code := cr n52_38
noncomputable def n52_41 : Code := cr n52_35
noncomputable def n52_42 : Code := cr n52_31
noncomputable def q52_42 : List Oper := opsOf n52_42
noncomputable def n52_43 : Code := cr n52_19
noncomputable def q52_43 : List Oper := opsOf n52_43
noncomputable def n52_44 : Code := cr n52_8
noncomputable def n52_45 : Code := cl n52_44
noncomputable def q52_45 : List Oper := opsOf n52_45
noncomputable def n52_46 : Code := cr n52_44
theorem body52 : Try.f52.body = some n52_0 := by kernel_rfl
theorem run52 (E : Ev) (args : List Value) (h : List Blk) (hl : args.length ≤ 53) : runB Try.prog E 52 args h = endS Try.prog [.tmp 2, .tmp 3] h.length (codeB Try.prog E ⟨52, 53, h.length, none⟩ n52_0 ⟨enumT 0 args, h, []⟩) := GE.run_step Try.func52 body52 (by kernel_rfl) (by decide) (by kernel_rfl) hl
theorem n52_1s : codeB Try.prog E ⟨f, 53, b, ro⟩ n52_1 st = plainS (runOps Try.prog E b q52_1 (ops [false] Try.f52) st) := GE.region_step (id := 0) (GE.reg_of (by kernel_rfl)) (by kernel_rfl)
theorem n52_3s : codeB Try.prog E ⟨f, 53, b, ro⟩ n52_3 st = plainS (runOps Try.prog E b q52_3 (ops [true, false] Try.f52) st) := GE.region_step (id := 1) (GE.reg_of (by kernel_rfl)) (by kernel_rfl)
theorem n52_5s : codeB Try.prog E ⟨f, 53, b, ro⟩ n52_5 st = plainS (runOps Try.prog E b q52_5 (ops [true, true, false] Try.f52) st) := GE.region_step (id := 2) (GE.reg_of (by kernel_rfl)) (by kernel_rfl)
theorem n52_7s : codeB Try.prog E ⟨f, 53, b, ro⟩ n52_7 st = plainS (runOps Try.prog E b q52_7 (ops [true, true, true, false] Try.f52) st) := GE.region_step (id := 3) (GE.reg_of (by kernel_rfl)) (by kernel_rfl)
theorem n52_10s : codeB Try.prog E ⟨f, 53, b, ro⟩ n52_10 st = plainS (runOps Try.prog E b q52_10 (ops [true, true, true, true, false, false] Try.f52) st) := GE.region_step (id := 4) (GE.reg_of (by kernel_rfl)) (by kernel_rfl)
theorem n52_15s : codeB Try.prog E ⟨f, 53, b, ro⟩ n52_15 st = plainS (runOps Try.prog E b q52_15 (ops [true, true, true, true, false, true, false, false, false, false] Try.f52) st) := GE.region_step (id := 5) (GE.reg_of (by kernel_rfl)) (by kernel_rfl)
theorem n52_17s : codeB Try.prog E cx n52_17 st = some (.normal, st) := GE.skip_step (by kernel_rfl)
theorem n52_18s : codeB Try.prog LL ⟨52, 53, b, ro⟩ n52_18 st = normS b ⟨[4, 5], [⟨4, 0, 1, true⟩, ⟨5, 0, 2, true⟩]⟩ (.exit 0) st := GE.exit_step (by kernel_rfl) (by kernel_rfl)
theorem n52_16s : codeB Try.prog E cx n52_16 st = condS (codeB Try.prog E cx n52_17) (codeB Try.prog E cx n52_18) (lk st.σ 13) st := GE.cond_step (c := .tmp 13) (by kernel_rfl)
theorem n52_14s : codeB Try.prog E cx n52_14 st = thenS (codeB Try.prog E cx n52_15 st) (codeB Try.prog E cx n52_16) := GE.seq_step (by kernel_rfl)
theorem n52_22s : codeB Try.prog E ⟨f, 53, b, ro⟩ n52_22 st = plainS (runOps Try.prog E b q52_22 (ops [true, true, true, true, false, true, false, false, true, false, false, false] Try.f52) st) := GE.region_step (id := 7) (GE.reg_of (by kernel_rfl)) (by kernel_rfl)
theorem n52_27s : codeB Try.prog E ⟨f, 53, b, ro⟩ n52_27 st = plainS (runOps Try.prog E b q52_27 (ops [true, true, true, true, false, true, false, false, true, false, false, true, false, false, false, false] Try.f52) st) := GE.region_step (id := 8) (GE.reg_of (by kernel_rfl)) (by kernel_rfl)
theorem n52_29s : codeB Try.prog E cx n52_29 st = some (.normal, st) := GE.skip_step (by kernel_rfl)
theorem n52_30s : codeB Try.prog LL ⟨52, 53, b, ro⟩ n52_30 st = normS b ⟨[1, 4, 5, 6, 7], [⟨1, 2, 3, true⟩, ⟨4, 0, 1, true⟩, ⟨5, 0, 2, true⟩]⟩ (.exit 2) st := GE.exit_step (by kernel_rfl) (by kernel_rfl)
theorem n52_28s : codeB Try.prog E cx n52_28 st = condS (codeB Try.prog E cx n52_29) (codeB Try.prog E cx n52_30) (lk st.σ 19) st := GE.cond_step (c := .tmp 19) (by kernel_rfl)
theorem n52_26s : codeB Try.prog E cx n52_26 st = thenS (codeB Try.prog E cx n52_27 st) (codeB Try.prog E cx n52_28) := GE.seq_step (by kernel_rfl)
theorem n52_34s : codeB Try.prog E ⟨f, 53, b, ro⟩ n52_34 st = drawS [0, 0, 2, 0, 14, 30, 0, 64, 0, 448, 960, 2047] (runOpsF Try.prog E b q52_34 (ops [true, true, true, true, false, true, false, false, true, false, false, true, false, false, true, false, false, false] Try.f52) st) := GE.draw_step (id := 10) (GE.reg_of (by kernel_rfl)) (by kernel_rfl) (by kernel_rfl) (by kernel_rfl)
theorem n52_37s : codeB Try.prog E ⟨f, 53, b, ro⟩ n52_37 st = plainS (runOps Try.prog E b q52_37 (ops [true, true, true, true, false, true, false, false, true, false, false, true, false, false, true, false, false, true, false, false] Try.f52) st) := GE.region_step (id := 11) (GE.reg_of (by kernel_rfl)) (by kernel_rfl)
theorem n52_39s : codeB Try.prog E ⟨f, 53, b, ro⟩ n52_39 st = plainS (runOps Try.prog E b q52_39 (ops [true, true, true, true, false, true, false, false, true, false, false, true, false, false, true, false, false, true, false, true, false] Try.f52) st) := GE.region_step (id := 12) (GE.reg_of (by kernel_rfl)) (by kernel_rfl)
theorem n52_40s : codeB Try.prog LL ⟨52, 53, b, ro⟩ n52_40 st = normS b ⟨[1, 4, 5, 6, 7], [⟨1, 2, 3, true⟩, ⟨4, 0, 1, true⟩, ⟨5, 0, 2, true⟩]⟩ (.exit 2) st := GE.exit_step (by kernel_rfl) (by kernel_rfl)
theorem n52_38s : codeB Try.prog E cx n52_38 st = thenS (codeB Try.prog E cx n52_39 st) (codeB Try.prog E cx n52_40) := GE.seq_step (by kernel_rfl)
theorem n52_36s : codeB Try.prog E cx n52_36 st = thenS (codeB Try.prog E cx n52_37 st) (codeB Try.prog E cx n52_38) := GE.seq_step (by kernel_rfl)
theorem n52_41s : codeB Try.prog E cx n52_41 st = some (.normal, st) := GE.skip_step (by kernel_rfl)
theorem n52_35s : codeB Try.prog E cx n52_35 st = condS (codeB Try.prog E cx n52_36) (codeB Try.prog E cx n52_41) (lk st.σ 33) st := GE.cond_step (c := .tmp 33) (by kernel_rfl)
theorem n52_33s : codeB Try.prog E cx n52_33 st = thenS (codeB Try.prog E cx n52_34 st) (codeB Try.prog E cx n52_35) := GE.seq_step (by kernel_rfl)
theorem n52_32s : codeB Try.prog E cx n52_32 st = blockS 3 (codeB Try.prog E cx n52_33 st) st := GE.block_step (by kernel_rfl)
theorem n52_42s : codeB Try.prog E ⟨f, 53, b, ro⟩ n52_42 st = plainS (runOps Try.prog E b q52_42 (ops [true, true, true, true, false, true, false, false, true, false, false, true, false, false, true, true] Try.f52) st) := GE.region_step (id := 9) (GE.reg_of (by kernel_rfl)) (by kernel_rfl)
theorem n52_31s : codeB Try.prog E cx n52_31 st = thenS (codeB Try.prog E cx n52_32 st) (codeB Try.prog E cx n52_42) := GE.seq_step (by kernel_rfl)
theorem n52_25s : codeB Try.prog E cx n52_25 st = thenS (codeB Try.prog E cx n52_26 st) (codeB Try.prog E cx n52_31) := GE.seq_step (by kernel_rfl)
theorem n52_24k : LL.kp (⟨52, 53, b, ro⟩ : Cx).fn (4 * rid n52_25 + 3) = some ⟨[1, 4, 5, 6, 7, 8], [⟨1, 2, 3, true⟩, ⟨4, 0, 1, true⟩, ⟨5, 0, 2, true⟩]⟩ := by kernel_rfl
theorem n52_24s : codeB Try.prog LL ⟨52, 53, b, ro⟩ n52_24 st = headS b ⟨[1, 4, 5, 6, 7, 8], [⟨1, 2, 3, true⟩, ⟨4, 0, 1, true⟩, ⟨5, 0, 2, true⟩]⟩ st (lpB Try.prog LL ⟨52, 53, b, ro⟩ n52_24 n52_25) := GE.lpB_step (by kernel_rfl) (n52_24k b ro)
theorem n52_24g : LL.code ⟨52, 53, b, ro⟩ n52_24 st = headS b ⟨[1, 4, 5, 6, 7, 8], [⟨1, 2, 3, true⟩, ⟨4, 0, 1, true⟩, ⟨5, 0, 2, true⟩]⟩ st (lpB Try.prog LL ⟨52, 53, b, ro⟩ n52_24 n52_25) := GE.lpB_again (by kernel_rfl) (n52_24k b ro)
theorem n52_23s : codeB Try.prog E cx n52_23 st = blockS 2 (codeB Try.prog E cx n52_24 st) st := GE.block_step (by kernel_rfl)
theorem n52_21s : codeB Try.prog E cx n52_21 st = thenS (codeB Try.prog E cx n52_22 st) (codeB Try.prog E cx n52_23) := GE.seq_step (by kernel_rfl)
theorem n52_20s : codeB Try.prog E cx n52_20 st = blockS 1 (codeB Try.prog E cx n52_21 st) st := GE.block_step (by kernel_rfl)
theorem n52_43s : codeB Try.prog E ⟨f, 53, b, ro⟩ n52_43 st = plainS (runOps Try.prog E b q52_43 (ops [true, true, true, true, false, true, false, false, true, true] Try.f52) st) := GE.region_step (id := 6) (GE.reg_of (by kernel_rfl)) (by kernel_rfl)
theorem n52_19s : codeB Try.prog E cx n52_19 st = thenS (codeB Try.prog E cx n52_20 st) (codeB Try.prog E cx n52_43) := GE.seq_step (by kernel_rfl)
theorem n52_13s : codeB Try.prog E cx n52_13 st = thenS (codeB Try.prog E cx n52_14 st) (codeB Try.prog E cx n52_19) := GE.seq_step (by kernel_rfl)
theorem n52_12k : LL.kp (⟨52, 53, b, ro⟩ : Cx).fn (4 * rid n52_13 + 3) = some ⟨[1, 4, 5, 6, 7], [⟨1, 2, 3, true⟩, ⟨4, 0, 1, true⟩, ⟨5, 0, 2, true⟩]⟩ := by kernel_rfl
theorem n52_12s : codeB Try.prog LL ⟨52, 53, b, ro⟩ n52_12 st = headS b ⟨[1, 4, 5, 6, 7], [⟨1, 2, 3, true⟩, ⟨4, 0, 1, true⟩, ⟨5, 0, 2, true⟩]⟩ st (lpB Try.prog LL ⟨52, 53, b, ro⟩ n52_12 n52_13) := GE.lpB_step (by kernel_rfl) (n52_12k b ro)
theorem n52_12g : LL.code ⟨52, 53, b, ro⟩ n52_12 st = headS b ⟨[1, 4, 5, 6, 7], [⟨1, 2, 3, true⟩, ⟨4, 0, 1, true⟩, ⟨5, 0, 2, true⟩]⟩ st (lpB Try.prog LL ⟨52, 53, b, ro⟩ n52_12 n52_13) := GE.lpB_again (by kernel_rfl) (n52_12k b ro)
theorem n52_11s : codeB Try.prog E cx n52_11 st = blockS 0 (codeB Try.prog E cx n52_12 st) st := GE.block_step (by kernel_rfl)
theorem n52_9s : codeB Try.prog E cx n52_9 st = thenS (codeB Try.prog E cx n52_10 st) (codeB Try.prog E cx n52_11) := GE.seq_step (by kernel_rfl)
theorem n52_45s : codeB Try.prog E ⟨f, 53, b, ro⟩ n52_45 st = plainS (runOps Try.prog E b q52_45 (ops [true, true, true, true, true, false] Try.f52) st) := GE.region_step (id := 13) (GE.reg_of (by kernel_rfl)) (by kernel_rfl)
theorem n52_46s : codeB Try.prog LL ⟨52, 53, b, ro⟩ n52_46 st = normS b ⟨[2, 3], [⟨2, 0, 1, true⟩, ⟨3, 0, 2, true⟩]⟩ .ret st := GE.ret_step (by kernel_rfl) (by kernel_rfl)
theorem n52_44s : codeB Try.prog E cx n52_44 st = thenS (codeB Try.prog E cx n52_45 st) (codeB Try.prog E cx n52_46) := GE.seq_step (by kernel_rfl)
theorem n52_8s : codeB Try.prog E cx n52_8 st = thenS (codeB Try.prog E cx n52_9 st) (codeB Try.prog E cx n52_44) := GE.seq_step (by kernel_rfl)
theorem n52_6s : codeB Try.prog E cx n52_6 st = thenS (codeB Try.prog E cx n52_7 st) (codeB Try.prog E cx n52_8) := GE.seq_step (by kernel_rfl)
theorem n52_4s : codeB Try.prog E cx n52_4 st = thenS (codeB Try.prog E cx n52_5 st) (codeB Try.prog E cx n52_6) := GE.seq_step (by kernel_rfl)
theorem n52_2s : codeB Try.prog E cx n52_2 st = thenS (codeB Try.prog E cx n52_3 st) (codeB Try.prog E cx n52_4) := GE.seq_step (by kernel_rfl)
theorem n52_0s : codeB Try.prog E cx n52_0 st = thenS (codeB Try.prog E cx n52_1 st) (codeB Try.prog E cx n52_2) := GE.seq_step (by kernel_rfl)
noncomputable def n61_0 : Code := bodyOf Try.f61
noncomputable def n61_1 : Code := cl n61_0
noncomputable def q61_1 : List Oper := opsOf n61_1
noncomputable def n61_2 : Code := cr n61_0
noncomputable def n61_3 : Code := cl n61_2
noncomputable def q61_3 : List Oper := opsOf n61_3
noncomputable def n61_4 : Code := cr n61_2
noncomputable def n61_5 : Code := cl n61_4
noncomputable def q61_5 : List Oper := opsOf n61_5
noncomputable def n61_6 : Code := cr n61_4
noncomputable def n61_7 : Code := cl n61_6
noncomputable def n61_8 : Code := cl n61_7
noncomputable def q61_8 : List Oper := opsOf n61_8
noncomputable def n61_9 : Code := cr n61_7
noncomputable def n61_10 : Code := cl n61_9
noncomputable def n61_11 : Code := cl n61_10
noncomputable def q61_11 : List Oper := opsOf n61_11
noncomputable def n61_12 : Code := cr n61_10
noncomputable def n61_13 : Code := cl n61_12
noncomputable def q61_13 : List Oper := opsOf n61_13
noncomputable def n61_14 : Code := cr n61_6
noncomputable def n61_15 : Code := cl n61_14
noncomputable def q61_15 : List Oper := opsOf n61_15
noncomputable def n61_16 : Code := cr n61_14
theorem body61 : Try.f61.body = some n61_0 := by kernel_rfl
theorem run61 (E : Ev) (args : List Value) (h : List Blk) (hl : args.length ≤ 25) : runB Try.prog E 61 args h = endS Try.prog [.cell 4 127] h.length (codeB Try.prog E ⟨61, 25, h.length, none⟩ n61_0 ⟨enumT 0 args, h, []⟩) := GE.run_step Try.func61 body61 (by kernel_rfl) (by decide) (by kernel_rfl) hl
theorem n61_1s : codeB Try.prog E ⟨f, 25, b, ro⟩ n61_1 st = plainS (runOps Try.prog E b q61_1 (ops [false] Try.f61) st) := GE.region_step (id := 0) (GE.reg_of (by kernel_rfl)) (by kernel_rfl)
theorem n61_3s : codeB Try.prog E ⟨f, 25, b, ro⟩ n61_3 st = plainS (runOps Try.prog E b q61_3 (ops [true, false] Try.f61) st) := GE.region_step (id := 1) (GE.reg_of (by kernel_rfl)) (by kernel_rfl)
theorem n61_5s : codeB Try.prog E ⟨f, 25, b, ro⟩ n61_5 st = plainS (runOps Try.prog E b q61_5 (ops [true, true, false] Try.f61) st) := GE.region_step (id := 2) (GE.reg_of (by kernel_rfl)) (by kernel_rfl)
theorem n61_8s : codeB Try.prog E ⟨f, 25, b, ro⟩ n61_8 st = drawS [0, 0, 0, 6, 15] (runOpsF Try.prog E b q61_8 (ops [true, true, true, false, false] Try.f61) st) := GE.draw_step (id := 3) (GE.reg_of (by kernel_rfl)) (by kernel_rfl) (by kernel_rfl) (by kernel_rfl)
theorem n61_11s : codeB Try.prog E ⟨f, 25, b, ro⟩ n61_11 st = plainS (runOps Try.prog E b q61_11 (ops [true, true, true, false, true, false, false] Try.f61) st) := GE.region_step (id := 4) (GE.reg_of (by kernel_rfl)) (by kernel_rfl)
theorem n61_13s : codeB Try.prog E ⟨f, 25, b, ro⟩ n61_13 st = drawS [0, 0, 2, 0, 0, 30, 63] (runOpsF Try.prog E b q61_13 (ops [true, true, true, false, true, false, true, false] Try.f61) st) := GE.draw_step (id := 5) (GE.reg_of (by kernel_rfl)) (by kernel_rfl) (by kernel_rfl) (by kernel_rfl)
theorem n61_12s : codeB Try.prog E cx n61_12 st = blockS 1 (codeB Try.prog E cx n61_13 st) st := GE.block_step (by kernel_rfl)
theorem n61_10e : n61_10 = .rangeFunc (.tmp 14) #[15, 16] n61_11 n61_12 := by kernel_rfl
theorem n61_10k : (ue n61_11).1 ++ (ue n61_12).1 = [16, 6, 2, 8, 3] := by kernel_rfl
theorem n61_9s : codeB Try.prog E cx n61_9 st = blockS 0 (codeB Try.prog E cx n61_10 st) st := GE.block_step (by kernel_rfl)
theorem n61_7s : codeB Try.prog E cx n61_7 st = thenS (codeB Try.prog E cx n61_8 st) (codeB Try.prog E cx n61_9) := GE.seq_step (by kernel_rfl)
theorem n61_15s : codeB Try.prog E ⟨f, 25, b, ro⟩ n61_15 st = plainS (runOps Try.prog E b q61_15 (ops [true, true, true, true, false] Try.f61) st) := GE.region_step (id := 6) (GE.reg_of (by kernel_rfl)) (by kernel_rfl)
theorem n61_16s : codeB Try.prog LL ⟨61, 25, b, ro⟩ n61_16 st = normS b ⟨[4], []⟩ .ret st := GE.ret_step (by kernel_rfl) (by kernel_rfl)
theorem n61_14s : codeB Try.prog E cx n61_14 st = thenS (codeB Try.prog E cx n61_15 st) (codeB Try.prog E cx n61_16) := GE.seq_step (by kernel_rfl)
theorem n61_6s : codeB Try.prog E cx n61_6 st = thenS (codeB Try.prog E cx n61_7 st) (codeB Try.prog E cx n61_14) := GE.seq_step (by kernel_rfl)
theorem n61_4s : codeB Try.prog E cx n61_4 st = thenS (codeB Try.prog E cx n61_5 st) (codeB Try.prog E cx n61_6) := GE.seq_step (by kernel_rfl)
theorem n61_2s : codeB Try.prog E cx n61_2 st = thenS (codeB Try.prog E cx n61_3 st) (codeB Try.prog E cx n61_4) := GE.seq_step (by kernel_rfl)
theorem n61_0s : codeB Try.prog E cx n61_0 st = thenS (codeB Try.prog E cx n61_1 st) (codeB Try.prog E cx n61_2) := GE.seq_step (by kernel_rfl)
noncomputable def n69_0 : Code := bodyOf Try.f69
noncomputable def n69_1 : Code := cl n69_0
noncomputable def q69_1 : List Oper := opsOf n69_1
noncomputable def n69_2 : Code := cr n69_0
noncomputable def n69_3 : Code := cl n69_2
noncomputable def q69_3 : List Oper := opsOf n69_3
noncomputable def n69_4 : Code := cr n69_2
noncomputable def n69_5 : Code := cl n69_4
noncomputable def n69_6 : Code := cl n69_5
noncomputable def q69_6 : List Oper := opsOf n69_6
noncomputable def n69_7 : Code := cr n69_5
noncomputable def n69_8 : Code := cl n69_7
noncomputable def n69_9 : Code := cl n69_8
noncomputable def n69_10 : Code := cl n69_9
noncomputable def n69_11 : Code := cl n69_10
noncomputable def q69_11 : List Oper := opsOf n69_11
noncomputable def n69_12 : Code := cr n69_10
noncomputable def n69_13 : Code := cl n69_12
noncomputable def n69_14 : Code := cr n69_12
noncomputable def n69_15 : Code := cr n69_9
noncomputable def n69_16 : Code := cl n69_15
noncomputable def n69_17 : Code := cl n69_16
noncomputable def n69_18 : Code := cl n69_17
noncomputable def q69_18 : List Oper := opsOf n69_18
noncomputable def n69_19 : Code := cr n69_17
noncomputable def n69_20 : Code := cl n69_19
noncomputable def n69_21 : Code := cl n69_20
noncomputable def q69_21 : List Oper := opsOf n69_21
noncomputable def n69_22 : Code := cr n69_20
noncomputable def n69_23 : Code := cl n69_22
noncomputable def n69_24 : Code := cr n69_22
noncomputable def n69_25 : Code := cr n69_19
noncomputable def n69_26 : Code := cl n69_25
noncomputable def q69_26 : List Oper := opsOf n69_26
noncomputable def n69_27 : Code := cr n69_25
noncomputable def n69_28 : Code := cl n69_27
noncomputable def q69_28 : List Oper := opsOf n69_28
noncomputable def n69_29 : Code := cr n69_27
noncomputable def n69_30 : Code := cl n69_29
noncomputable def n69_31 : Code := cl n69_30
noncomputable def q69_31 : List Oper := opsOf n69_31
noncomputable def n69_32 : Code := cr n69_30
noncomputable def n69_33 : Code := cl n69_32
noncomputable def q69_33 : List Oper := opsOf n69_33
noncomputable def n69_34 : Code := cr n69_32
noncomputable def n69_35 : Code := cr n69_29
noncomputable def n69_36 : Code := cl n69_35
noncomputable def q69_36 : List Oper := opsOf n69_36
noncomputable def n69_37 : Code := cr n69_35
noncomputable def n69_38 : Code := cl n69_37
noncomputable def n69_39 : Code := cl n69_38
noncomputable def q69_39 : List Oper := opsOf n69_39
noncomputable def n69_40 : Code := cr n69_38
noncomputable def n69_41 : Code := cl n69_40
noncomputable def q69_41 : List Oper := opsOf n69_41
noncomputable def n69_42 : Code := cr n69_40
noncomputable def n69_43 : Code := cr n69_37
noncomputable def n69_44 : Code := cl n69_43
noncomputable def n69_45 : Code := cl n69_44
noncomputable def q69_45 : List Oper := opsOf n69_45
noncomputable def n69_46 : Code := cr n69_44
noncomputable def n69_47 : Code := cl n69_46
noncomputable def q69_47 : List Oper := opsOf n69_47
noncomputable def n69_48 : Code := cr n69_46
noncomputable def n69_49 : Code := cr n69_43
noncomputable def q69_49 : List Oper := opsOf n69_49
noncomputable def n69_50 : Code := cr n69_15
noncomputable def q69_50 : List Oper := opsOf n69_50
noncomputable def n69_51 : Code := cr n69_4
noncomputable def n69_52 : Code := cl n69_51
noncomputable def q69_52 : List Oper := opsOf n69_52
noncomputable def n69_53 : Code := cr n69_51
theorem body69 : Try.f69.body = some n69_0 := by kernel_rfl
theorem run69 (E : Ev) (args : List Value) (h : List Blk) (hl : args.length ≤ 90) : runB Try.prog E 69 args h = endS Try.prog [.cell 6 57, .tmp 7] h.length (codeB Try.prog E ⟨69, 90, h.length, none⟩ n69_0 ⟨enumT 0 args, h, []⟩) := GE.run_step Try.func69 body69 (by kernel_rfl) (by decide) (by kernel_rfl) hl
theorem n69_1s : codeB Try.prog E ⟨f, 90, b, ro⟩ n69_1 st = plainS (runOps Try.prog E b q69_1 (ops [false] Try.f69) st) := GE.region_step (id := 0) (GE.reg_of (by kernel_rfl)) (by kernel_rfl)
theorem n69_3s : codeB Try.prog E ⟨f, 90, b, ro⟩ n69_3 st = plainS (runOps Try.prog E b q69_3 (ops [true, false] Try.f69) st) := GE.region_step (id := 1) (GE.reg_of (by kernel_rfl)) (by kernel_rfl)
theorem n69_6s : codeB Try.prog E ⟨f, 90, b, ro⟩ n69_6 st = plainS (runOps Try.prog E b q69_6 (ops [true, true, false, false] Try.f69) st) := GE.region_step (id := 2) (GE.reg_of (by kernel_rfl)) (by kernel_rfl)
theorem n69_11s : codeB Try.prog E ⟨f, 90, b, ro⟩ n69_11 st = plainS (runOps Try.prog E b q69_11 (ops [true, true, false, true, false, false, false, false] Try.f69) st) := GE.region_step (id := 3) (GE.reg_of (by kernel_rfl)) (by kernel_rfl)
theorem n69_13s : codeB Try.prog E cx n69_13 st = some (.normal, st) := GE.skip_step (by kernel_rfl)
theorem n69_14s : codeB Try.prog LL ⟨69, 90, b, ro⟩ n69_14 st = normS b ⟨[6, 8, 9], []⟩ (.exit 0) st := GE.exit_step (by kernel_rfl) (by kernel_rfl)
theorem n69_12s : codeB Try.prog E cx n69_12 st = condS (codeB Try.prog E cx n69_13) (codeB Try.prog E cx n69_14) (lk st.σ 22) st := GE.cond_step (c := .tmp 22) (by kernel_rfl)
theorem n69_10s : codeB Try.prog E cx n69_10 st = thenS (codeB Try.prog E cx n69_11 st) (codeB Try.prog E cx n69_12) := GE.seq_step (by kernel_rfl)
theorem n69_18s : codeB Try.prog E ⟨f, 90, b, ro⟩ n69_18 st = plainS (runOps Try.prog E b q69_18 (ops [true, true, false, true, false, false, true, false, false, false] Try.f69) st) := GE.region_step (id := 5) (GE.reg_of (by kernel_rfl)) (by kernel_rfl)
theorem n69_21s : codeB Try.prog E ⟨f, 90, b, ro⟩ n69_21 st = plainS (runOps Try.prog E b q69_21 (ops [true, true, false, true, false, false, true, false, false, true, false, false] Try.f69) st) := GE.region_step (id := 6) (GE.reg_of (by kernel_rfl)) (by kernel_rfl)
theorem n69_23s : codeB Try.prog LL ⟨69, 90, b, ro⟩ n69_23 st = normS b ⟨[1, 2, 3, 6, 8, 9, 10], [⟨1, 0, 1, true⟩, ⟨3, 2, 3, true⟩]⟩ (.exit 1) st := GE.exit_step (by kernel_rfl) (by kernel_rfl)
theorem n69_24s : codeB Try.prog E cx n69_24 st = some (.normal, st) := GE.skip_step (by kernel_rfl)
theorem n69_22s : codeB Try.prog E cx n69_22 st = condS (codeB Try.prog E cx n69_23) (codeB Try.prog E cx n69_24) (lk st.σ 37) st := GE.cond_step (c := .tmp 37) (by kernel_rfl)
theorem n69_20s : codeB Try.prog E cx n69_20 st = thenS (codeB Try.prog E cx n69_21 st) (codeB Try.prog E cx n69_22) := GE.seq_step (by kernel_rfl)
theorem n69_26s : codeB Try.prog E ⟨f, 90, b, ro⟩ n69_26 st = drawS [0, 1, 0, 4, 3, 31] (runOpsF Try.prog E b q69_26 (ops [true, true, false, true, false, false, true, false, false, true, true, false] Try.f69) st) := GE.draw_step (id := 7) (GE.reg_of (by kernel_rfl)) (by kernel_rfl) (by kernel_rfl) (by kernel_rfl)
theorem n69_28s : codeB Try.prog E ⟨f, 90, b, ro⟩ n69_28 st = plainS (runOps Try.prog E b q69_28 (ops [true, true, false, true, false, false, true, false, false, true, true, true, false] Try.f69) st) := GE.region_step (id := 8) (GE.reg_of (by kernel_rfl)) (by kernel_rfl)
theorem n69_31s : codeB Try.prog E ⟨f, 90, b, ro⟩ n69_31 st = plainS (runOps Try.prog E b q69_31 (ops [true, true, false, true, false, false, true, false, false, true, true, true, true, false, false] Try.f69) st) := GE.region_step (id := 9) (GE.reg_of (by kernel_rfl)) (by kernel_rfl)
theorem n69_33s : codeB Try.prog E ⟨f, 90, b, ro⟩ n69_33 st = drawS [0, 1, 0, 4, 0, 16, 3, 79, 255] (runOpsF Try.prog E b q69_33 (ops [true, true, false, true, false, false, true, false, false, true, true, true, true, false, true, false] Try.f69) st) := GE.draw_step (id := 10) (GE.reg_of (by kernel_rfl)) (by kernel_rfl) (by kernel_rfl) (by kernel_rfl)
theorem n69_34s : codeB Try.prog E cx n69_34 st = some (.normal, st) := GE.skip_step (by kernel_rfl)
theorem n69_32s : codeB Try.prog E cx n69_32 st = condS (codeB Try.prog E cx n69_33) (codeB Try.prog E cx n69_34) (lk st.σ 47) st := GE.cond_step (c := .tmp 47) (by kernel_rfl)
theorem n69_30s : codeB Try.prog E cx n69_30 st = thenS (codeB Try.prog E cx n69_31 st) (codeB Try.prog E cx n69_32) := GE.seq_step (by kernel_rfl)
theorem n69_36s : codeB Try.prog E ⟨f, 90, b, ro⟩ n69_36 st = drawS [0, 1, 3, 0, 0, 24, 63, 0, 128, 384, 0, 0, 3072, 8064, 127, 32767] (runOpsF Try.prog E b q69_36 (ops [true, true, false, true, false, false, true, false, false, true, true, true, true, true, false] Try.f69) st) := GE.draw_step (id := 11) (GE.reg_of (by kernel_rfl)) (by kernel_rfl) (by kernel_rfl) (by kernel_rfl)
theorem q69_39g2 : gd q69_39 2 = some 70 := by kernel_rfl
theorem n69_39s : codeB Try.prog E ⟨f, 90, b, ro⟩ n69_39 st = plainS (runOps Try.prog E b q69_39 (ops [true, true, false, true, false, false, true, false, false, true, true, true, true, true, true, false, false] Try.f69) st) := GE.region_step (id := 12) (GE.reg_of (by kernel_rfl)) (by kernel_rfl)
theorem n69_41s : codeB Try.prog E ⟨f, 90, b, ro⟩ n69_41 st = plainS (runOps Try.prog E b q69_41 (ops [true, true, false, true, false, false, true, false, false, true, true, true, true, true, true, false, true, false] Try.f69) st) := GE.region_step (id := 13) (GE.reg_of (by kernel_rfl)) (by kernel_rfl)
theorem n69_42s : codeB Try.prog E cx n69_42 st = some (.normal, st) := GE.skip_step (by kernel_rfl)
theorem n69_40s : codeB Try.prog E cx n69_40 st = condS (codeB Try.prog E cx n69_41) (codeB Try.prog E cx n69_42) (lk st.σ 75) st := GE.cond_step (c := .tmp 75) (by kernel_rfl)
theorem n69_38s : codeB Try.prog E cx n69_38 st = thenS (codeB Try.prog E cx n69_39 st) (codeB Try.prog E cx n69_40) := GE.seq_step (by kernel_rfl)
theorem q69_45g2 : gd q69_45 2 = some 80 := by kernel_rfl
theorem n69_45s : codeB Try.prog E ⟨f, 90, b, ro⟩ n69_45 st = plainS (runOps Try.prog E b q69_45 (ops [true, true, false, true, false, false, true, false, false, true, true, true, true, true, true, true, false, false] Try.f69) st) := GE.region_step (id := 14) (GE.reg_of (by kernel_rfl)) (by kernel_rfl)
theorem n69_47s : codeB Try.prog E ⟨f, 90, b, ro⟩ n69_47 st = plainS (runOps Try.prog E b q69_47 (ops [true, true, false, true, false, false, true, false, false, true, true, true, true, true, true, true, false, true, false] Try.f69) st) := GE.region_step (id := 15) (GE.reg_of (by kernel_rfl)) (by kernel_rfl)
theorem n69_48s : codeB Try.prog E cx n69_48 st = some (.normal, st) := GE.skip_step (by kernel_rfl)
theorem n69_46s : codeB Try.prog E cx n69_46 st = condS (codeB Try.prog E cx n69_47) (codeB Try.prog E cx n69_48) (lk st.σ 85) st := GE.cond_step (c := .tmp 85) (by kernel_rfl)
theorem n69_44s : codeB Try.prog E cx n69_44 st = thenS (codeB Try.prog E cx n69_45 st) (codeB Try.prog E cx n69_46) := GE.seq_step (by kernel_rfl)
theorem n69_49s : codeB Try.prog E ⟨f, 90, b, ro⟩ n69_49 st = plainS (runOps Try.prog E b q69_49 (ops [true, true, false, true, false, false, true, false, false, true, true, true, true, true, true, true, true] Try.f69) st) := GE.region_step (id := 16) (GE.reg_of (by kernel_rfl)) (by kernel_rfl)
theorem n69_43s : codeB Try.prog E cx n69_43 st = thenS (codeB Try.prog E cx n69_44 st) (codeB Try.prog E cx n69_49) := GE.seq_step (by kernel_rfl)
theorem n69_37s : codeB Try.prog E cx n69_37 st = thenS (codeB Try.prog E cx n69_38 st) (codeB Try.prog E cx n69_43) := GE.seq_step (by kernel_rfl)
theorem n69_35s : codeB Try.prog E cx n69_35 st = thenS (codeB Try.prog E cx n69_36 st) (codeB Try.prog E cx n69_37) := GE.seq_step (by kernel_rfl)
theorem n69_29s : codeB Try.prog E cx n69_29 st = thenS (codeB Try.prog E cx n69_30 st) (codeB Try.prog E cx n69_35) := GE.seq_step (by kernel_rfl)
theorem n69_27s : codeB Try.prog E cx n69_27 st = thenS (codeB Try.prog E cx n69_28 st) (codeB Try.prog E cx n69_29) := GE.seq_step (by kernel_rfl)
theorem n69_25s : codeB Try.prog E cx n69_25 st = thenS (codeB Try.prog E cx n69_26 st) (codeB Try.prog E cx n69_27) := GE.seq_step (by kernel_rfl)
theorem n69_19s : codeB Try.prog E cx n69_19 st = thenS (codeB Try.prog E cx n69_20 st) (codeB Try.prog E cx n69_25) := GE.seq_step (by kernel_rfl)
theorem n69_17s : codeB Try.prog E cx n69_17 st = thenS (codeB Try.prog E cx n69_18 st) (codeB Try.prog E cx n69_19) := GE.seq_step (by kernel_rfl)
theorem n69_16s : codeB Try.prog E cx n69_16 st = blockS 1 (codeB Try.prog E cx n69_17 st) st := GE.block_step (by kernel_rfl)
theorem n69_50s : codeB Try.prog E ⟨f, 90, b, ro⟩ n69_50 st = plainS (runOps Try.prog E b q69_50 (ops [true, true, false, true, false, false, true, true] Try.f69) st) := GE.region_step (id := 4) (GE.reg_of (by kernel_rfl)) (by kernel_rfl)
theorem n69_15s : codeB Try.prog E cx n69_15 st = thenS (codeB Try.prog E cx n69_16 st) (codeB Try.prog E cx n69_50) := GE.seq_step (by kernel_rfl)
theorem n69_9s : codeB Try.prog E cx n69_9 st = thenS (codeB Try.prog E cx n69_10 st) (codeB Try.prog E cx n69_15) := GE.seq_step (by kernel_rfl)
theorem n69_8k : LL.kp (⟨69, 90, b, ro⟩ : Cx).fn (4 * rid n69_9 + 3) = some ⟨[1, 2, 3, 6, 8, 9, 10], [⟨1, 0, 1, true⟩, ⟨3, 2, 3, true⟩]⟩ := by kernel_rfl
theorem n69_8s : codeB Try.prog LL ⟨69, 90, b, ro⟩ n69_8 st = headS b ⟨[1, 2, 3, 6, 8, 9, 10], [⟨1, 0, 1, true⟩, ⟨3, 2, 3, true⟩]⟩ st (lpB Try.prog LL ⟨69, 90, b, ro⟩ n69_8 n69_9) := GE.lpB_step (by kernel_rfl) (n69_8k b ro)
theorem n69_8g : LL.code ⟨69, 90, b, ro⟩ n69_8 st = headS b ⟨[1, 2, 3, 6, 8, 9, 10], [⟨1, 0, 1, true⟩, ⟨3, 2, 3, true⟩]⟩ st (lpB Try.prog LL ⟨69, 90, b, ro⟩ n69_8 n69_9) := GE.lpB_again (by kernel_rfl) (n69_8k b ro)
theorem n69_7s : codeB Try.prog E cx n69_7 st = blockS 0 (codeB Try.prog E cx n69_8 st) st := GE.block_step (by kernel_rfl)
theorem n69_5s : codeB Try.prog E cx n69_5 st = thenS (codeB Try.prog E cx n69_6 st) (codeB Try.prog E cx n69_7) := GE.seq_step (by kernel_rfl)
theorem n69_52s : codeB Try.prog E ⟨f, 90, b, ro⟩ n69_52 st = plainS (runOps Try.prog E b q69_52 (ops [true, true, true, false] Try.f69) st) := GE.region_step (id := 17) (GE.reg_of (by kernel_rfl)) (by kernel_rfl)
theorem n69_53s : codeB Try.prog LL ⟨69, 90, b, ro⟩ n69_53 st = normS b ⟨[6, 7], []⟩ .ret st := GE.ret_step (by kernel_rfl) (by kernel_rfl)
theorem n69_51s : codeB Try.prog E cx n69_51 st = thenS (codeB Try.prog E cx n69_52 st) (codeB Try.prog E cx n69_53) := GE.seq_step (by kernel_rfl)
theorem n69_4s : codeB Try.prog E cx n69_4 st = thenS (codeB Try.prog E cx n69_5 st) (codeB Try.prog E cx n69_51) := GE.seq_step (by kernel_rfl)
theorem n69_2s : codeB Try.prog E cx n69_2 st = thenS (codeB Try.prog E cx n69_3 st) (codeB Try.prog E cx n69_4) := GE.seq_step (by kernel_rfl)
theorem n69_0s : codeB Try.prog E cx n69_0 st = thenS (codeB Try.prog E cx n69_1 st) (codeB Try.prog E cx n69_2) := GE.seq_step (by kernel_rfl)
noncomputable def n70_0 : Code := bodyOf Try.f70
noncomputable def n70_1 : Code := cl n70_0
noncomputable def q70_1 : List Oper := opsOf n70_1
noncomputable def n70_2 : Code := cr n70_0
noncomputable def n70_3 : Code := cl n70_2
noncomputable def q70_3 : List Oper := opsOf n70_3
noncomputable def n70_4 : Code := cr n70_2
noncomputable def n70_5 : Code := cl n70_4
noncomputable def n70_6 : Code := cl n70_5
noncomputable def q70_6 : List Oper := opsOf n70_6
noncomputable def n70_7 : Code := cr n70_5
noncomputable def n70_8 : Code := cl n70_7
noncomputable def n70_9 : Code := cl n70_8
noncomputable def n70_10 : Code := cl n70_9
noncomputable def q70_10 : List Oper := opsOf n70_10
noncomputable def n70_11 : Code := cr n70_9
noncomputable def n70_12 : Code := cl n70_11
noncomputable def n70_13 : Code := cl n70_12
noncomputable def n70_14 : Code := cr n70_12
noncomputable def n70_15 : Code := cr n70_11
noncomputable def n70_16 : Code := cl n70_15
noncomputable def n70_17 : Code := cl n70_16
noncomputable def n70_18 : Code := cl n70_17
noncomputable def q70_18 : List Oper := opsOf n70_18
noncomputable def n70_19 : Code := cr n70_17
noncomputable def q70_19 : List Oper := opsOf n70_19
noncomputable def n70_20 : Code := cr n70_15
noncomputable def q70_20 : List Oper := opsOf n70_20
noncomputable def n70_21 : Code := cr n70_4
noncomputable def n70_22 : Code := cl n70_21
noncomputable def q70_22 : List Oper := opsOf n70_22
noncomputable def n70_23 : Code := cr n70_21
theorem body70 : Try.f70.body = some n70_0 := by kernel_rfl
theorem run70 (E : Ev) (args : List Value) (h : List Blk) (hl : args.length ≤ 22) : runB Try.prog E 70 args h = endS Try.prog [.tmp 4] h.length (codeB Try.prog E ⟨70, 22, h.length, none⟩ n70_0 ⟨enumT 0 args, h, []⟩) := GE.run_step Try.func70 body70 (by kernel_rfl) (by decide) (by kernel_rfl) hl
theorem n70_1s : codeB Try.prog E ⟨f, 22, b, ro⟩ n70_1 st = plainS (runOps Try.prog E b q70_1 (ops [false] Try.f70) st) := GE.region_step (id := 0) (GE.reg_of (by kernel_rfl)) (by kernel_rfl)
theorem n70_3s : codeB Try.prog E ⟨f, 22, b, ro⟩ n70_3 st = plainS (runOps Try.prog E b q70_3 (ops [true, false] Try.f70) st) := GE.region_step (id := 1) (GE.reg_of (by kernel_rfl)) (by kernel_rfl)
theorem n70_6s : codeB Try.prog E ⟨f, 22, b, ro⟩ n70_6 st = plainS (runOps Try.prog E b q70_6 (ops [true, true, false, false] Try.f70) st) := GE.region_step (id := 2) (GE.reg_of (by kernel_rfl)) (by kernel_rfl)
theorem n70_10s : codeB Try.prog E ⟨f, 22, b, ro⟩ n70_10 st = plainS (runOps Try.prog E b q70_10 (ops [true, true, false, true, false, false, false] Try.f70) st) := GE.region_step (id := 3) (GE.reg_of (by kernel_rfl)) (by kernel_rfl)
theorem n70_13s : codeB Try.prog E cx n70_13 st = some (.normal, st) := GE.skip_step (by kernel_rfl)
theorem n70_14s : codeB Try.prog LL ⟨70, 22, b, ro⟩ n70_14 st = normS b ⟨[5], [⟨5, 0, 1, true⟩]⟩ (.exit 0) st := GE.exit_step (by kernel_rfl) (by kernel_rfl)
theorem n70_12s : codeB Try.prog E cx n70_12 st = condS (codeB Try.prog E cx n70_13) (codeB Try.prog E cx n70_14) (lk st.σ 11) st := GE.cond_step (c := .tmp 11) (by kernel_rfl)
theorem n70_18s : codeB Try.prog E ⟨f, 22, b, ro⟩ n70_18 st = plainS (runOps Try.prog E b q70_18 (ops [true, true, false, true, false, false, true, true, false, false, false] Try.f70) st) := GE.region_step (id := 4) (GE.reg_of (by kernel_rfl)) (by kernel_rfl)
theorem n70_19s : codeB Try.prog E ⟨f, 22, b, ro⟩ n70_19 st = plainS (runOps Try.prog E b q70_19 (ops [true, true, false, true, false, false, true, true, false, false, true] Try.f70) st) := GE.region_step (id := 5) (GE.reg_of (by kernel_rfl)) (by kernel_rfl)
theorem n70_17s : codeB Try.prog E cx n70_17 st = thenS (codeB Try.prog E cx n70_18 st) (codeB Try.prog E cx n70_19) := GE.seq_step (by kernel_rfl)
theorem n70_16s : codeB Try.prog E cx n70_16 st = blockS 1 (codeB Try.prog E cx n70_17 st) st := GE.block_step (by kernel_rfl)
theorem n70_20s : codeB Try.prog E ⟨f, 22, b, ro⟩ n70_20 st = plainS (runOps Try.prog E b q70_20 (ops [true, true, false, true, false, false, true, true, true] Try.f70) st) := GE.region_step (id := 6) (GE.reg_of (by kernel_rfl)) (by kernel_rfl)
theorem n70_15s : codeB Try.prog E cx n70_15 st = thenS (codeB Try.prog E cx n70_16 st) (codeB Try.prog E cx n70_20) := GE.seq_step (by kernel_rfl)
theorem n70_11s : codeB Try.prog E cx n70_11 st = thenS (codeB Try.prog E cx n70_12 st) (codeB Try.prog E cx n70_15) := GE.seq_step (by kernel_rfl)
theorem n70_9s : codeB Try.prog E cx n70_9 st = thenS (codeB Try.prog E cx n70_10 st) (codeB Try.prog E cx n70_11) := GE.seq_step (by kernel_rfl)
theorem n70_8k : LL.kp (⟨70, 22, b, ro⟩ : Cx).fn (4 * rid n70_9 + 3) = some ⟨[1, 5, 8, 9, 10], [⟨5, 0, 1, true⟩, ⟨8, 0, 3, true⟩]⟩ := by kernel_rfl
theorem n70_8s : codeB Try.prog LL ⟨70, 22, b, ro⟩ n70_8 st = headS b ⟨[1, 5, 8, 9, 10], [⟨5, 0, 1, true⟩, ⟨8, 0, 3, true⟩]⟩ st (lpB Try.prog LL ⟨70, 22, b, ro⟩ n70_8 n70_9) := GE.lpB_step (by kernel_rfl) (n70_8k b ro)
theorem n70_8g : LL.code ⟨70, 22, b, ro⟩ n70_8 st = headS b ⟨[1, 5, 8, 9, 10], [⟨5, 0, 1, true⟩, ⟨8, 0, 3, true⟩]⟩ st (lpB Try.prog LL ⟨70, 22, b, ro⟩ n70_8 n70_9) := GE.lpB_again (by kernel_rfl) (n70_8k b ro)
theorem n70_7s : codeB Try.prog E cx n70_7 st = blockS 0 (codeB Try.prog E cx n70_8 st) st := GE.block_step (by kernel_rfl)
theorem n70_5s : codeB Try.prog E cx n70_5 st = thenS (codeB Try.prog E cx n70_6 st) (codeB Try.prog E cx n70_7) := GE.seq_step (by kernel_rfl)
theorem n70_22s : codeB Try.prog E ⟨f, 22, b, ro⟩ n70_22 st = plainS (runOps Try.prog E b q70_22 (ops [true, true, true, false] Try.f70) st) := GE.region_step (id := 7) (GE.reg_of (by kernel_rfl)) (by kernel_rfl)
theorem n70_23s : codeB Try.prog LL ⟨70, 22, b, ro⟩ n70_23 st = normS b ⟨[4], [⟨4, 0, 1, true⟩]⟩ .ret st := GE.ret_step (by kernel_rfl) (by kernel_rfl)
theorem n70_21s : codeB Try.prog E cx n70_21 st = thenS (codeB Try.prog E cx n70_22 st) (codeB Try.prog E cx n70_23) := GE.seq_step (by kernel_rfl)
theorem n70_4s : codeB Try.prog E cx n70_4 st = thenS (codeB Try.prog E cx n70_5 st) (codeB Try.prog E cx n70_21) := GE.seq_step (by kernel_rfl)
theorem n70_2s : codeB Try.prog E cx n70_2 st = thenS (codeB Try.prog E cx n70_3 st) (codeB Try.prog E cx n70_4) := GE.seq_step (by kernel_rfl)
theorem n70_0s : codeB Try.prog E cx n70_0 st = thenS (codeB Try.prog E cx n70_1 st) (codeB Try.prog E cx n70_2) := GE.seq_step (by kernel_rfl)
noncomputable def n71_0 : Code := bodyOf Try.f71
noncomputable def n71_1 : Code := cl n71_0
noncomputable def q71_1 : List Oper := opsOf n71_1
noncomputable def n71_2 : Code := cr n71_0
noncomputable def n71_3 : Code := cl n71_2
noncomputable def q71_3 : List Oper := opsOf n71_3
noncomputable def n71_4 : Code := cr n71_2
theorem body71 : Try.f71.body = some n71_0 := by kernel_rfl
theorem run71 (E : Ev) (args : List Value) (h : List Blk) (hl : args.length ≤ 10) : runB Try.prog E 71 args h = endS Try.prog [.tmp 3] h.length (codeB Try.prog E ⟨71, 10, h.length, none⟩ n71_0 ⟨enumT 0 args, h, []⟩) := GE.run_step Try.func71 body71 (by kernel_rfl) (by decide) (by kernel_rfl) hl
theorem n71_1s : codeB Try.prog E ⟨f, 10, b, ro⟩ n71_1 st = plainS (runOps Try.prog E b q71_1 (ops [false] Try.f71) st) := GE.region_step (id := 0) (GE.reg_of (by kernel_rfl)) (by kernel_rfl)
theorem n71_3s : codeB Try.prog E ⟨f, 10, b, ro⟩ n71_3 st = plainS (runOps Try.prog E b q71_3 (ops [true, false] Try.f71) st) := GE.region_step (id := 1) (GE.reg_of (by kernel_rfl)) (by kernel_rfl)
theorem n71_4s : codeB Try.prog LL ⟨71, 10, b, ro⟩ n71_4 st = normS b ⟨[3], []⟩ .ret st := GE.ret_step (by kernel_rfl) (by kernel_rfl)
theorem n71_2s : codeB Try.prog E cx n71_2 st = thenS (codeB Try.prog E cx n71_3 st) (codeB Try.prog E cx n71_4) := GE.seq_step (by kernel_rfl)
theorem n71_0s : codeB Try.prog E cx n71_0 st = thenS (codeB Try.prog E cx n71_1 st) (codeB Try.prog E cx n71_2) := GE.seq_step (by kernel_rfl)
noncomputable def n82_0 : Code := bodyOf Try.f82
noncomputable def n82_1 : Code := cl n82_0
noncomputable def q82_1 : List Oper := opsOf n82_1
noncomputable def n82_2 : Code := cr n82_0
noncomputable def n82_3 : Code := cl n82_2
noncomputable def n82_4 : Code := cl n82_3
noncomputable def q82_4 : List Oper := opsOf n82_4
noncomputable def n82_5 : Code := cr n82_3
noncomputable def n82_6 : Code := cl n82_5
noncomputable def n82_7 : Code := cl n82_6
noncomputable def n82_8 : Code := cl n82_7
noncomputable def q82_8 : List Oper := opsOf n82_8
noncomputable def n82_9 : Code := cr n82_7
noncomputable def n82_10 : Code := cl n82_9
noncomputable def n82_11 : Code := cl n82_10
noncomputable def n82_12 : Code := cr n82_10
noncomputable def n82_13 : Code := cr n82_9
noncomputable def n82_14 : Code := cl n82_13
noncomputable def n82_15 : Code := cl n82_14
noncomputable def n82_16 : Code := cl n82_15
noncomputable def q82_16 : List Oper := opsOf n82_16
noncomputable def n82_17 : Code := cr n82_15
noncomputable def n82_18 : Code := cl n82_17
noncomputable def q82_18 : List Oper := opsOf n82_18
noncomputable def n82_19 : Code := cr n82_17
noncomputable def n82_20 : Code := cl n82_19
noncomputable def n82_21 : Code := cl n82_20
noncomputable def q82_21 : List Oper := opsOf n82_21
noncomputable def n82_22 : Code := cr n82_20
noncomputable def n82_23 : Code := cr n82_19
noncomputable def n82_24 : Code := cr n82_13
noncomputable def q82_24 : List Oper := opsOf n82_24
noncomputable def n82_25 : Code := cr n82_2
noncomputable def n82_26 : Code := cl n82_25
noncomputable def q82_26 : List Oper := opsOf n82_26
noncomputable def n82_27 : Code := cr n82_25
theorem body82 : Try.f82.body = some n82_0 := by kernel_rfl
theorem run82 (E : Ev) (args : List Value) (h : List Blk) (hl : args.length ≤ 19) : runB Try.prog E 82 args h = endS Try.prog [.tmp 4] h.length (codeB Try.prog E ⟨82, 19, h.length, none⟩ n82_0 ⟨enumT 0 args, h, []⟩) := GE.run_step Try.func82 body82 (by kernel_rfl) (by decide) (by kernel_rfl) hl
theorem n82_1s : codeB Try.prog E ⟨f, 19, b, ro⟩ n82_1 st = plainS (runOps Try.prog E b q82_1 (ops [false] Try.f82) st) := GE.region_step (id := 0) (GE.reg_of (by kernel_rfl)) (by kernel_rfl)
theorem n82_4s : codeB Try.prog E ⟨f, 19, b, ro⟩ n82_4 st = plainS (runOps Try.prog E b q82_4 (ops [true, false, false] Try.f82) st) := GE.region_step (id := 1) (GE.reg_of (by kernel_rfl)) (by kernel_rfl)
theorem n82_8s : codeB Try.prog E ⟨f, 19, b, ro⟩ n82_8 st = plainS (runOps Try.prog E b q82_8 (ops [true, false, true, false, false, false] Try.f82) st) := GE.region_step (id := 2) (GE.reg_of (by kernel_rfl)) (by kernel_rfl)
theorem n82_11s : codeB Try.prog E cx n82_11 st = some (.normal, st) := GE.skip_step (by kernel_rfl)
theorem n82_12s : codeB Try.prog LL ⟨82, 19, b, ro⟩ n82_12 st = normS b ⟨[], []⟩ (.exit 0) st := GE.exit_step (by kernel_rfl) (by kernel_rfl)
theorem n82_10s : codeB Try.prog E cx n82_10 st = condS (codeB Try.prog E cx n82_11) (codeB Try.prog E cx n82_12) (lk st.σ 9) st := GE.cond_step (c := .tmp 9) (by kernel_rfl)
theorem n82_16s : codeB Try.prog E ⟨f, 19, b, ro⟩ n82_16 st = plainS (runOps Try.prog E b q82_16 (ops [true, false, true, false, false, true, true, false, false, false] Try.f82) st) := GE.region_step (id := 3) (GE.reg_of (by kernel_rfl)) (by kernel_rfl)
theorem n82_18s : codeB Try.prog E ⟨f, 19, b, ro⟩ n82_18 st = plainS (runOps Try.prog E b q82_18 (ops [true, false, true, false, false, true, true, false, false, true, false] Try.f82) st) := GE.region_step (id := 4) (GE.reg_of (by kernel_rfl)) (by kernel_rfl)
theorem n82_21s : codeB Try.prog E ⟨f, 19, b, ro⟩ n82_21 st = plainS (runOps Try.prog E b q82_21 (ops [true, false, true, false, false, true, true, false, false, true, true, false, false] Try.f82) st) := GE.region_step (id := 5) (GE.reg_of (by kernel_rfl)) (by kernel_rfl)
theorem n82_22s : codeB Try.prog LL ⟨82, 19, b, ro⟩ n82_22 st = normS b ⟨[4], []⟩ .ret st := GE.ret_step (by kernel_rfl) (by kernel_rfl)
theorem n82_20s : codeB Try.prog E cx n82_20 st = thenS (codeB Try.prog E cx n82_21 st) (codeB Try.prog E cx n82_22) := GE.seq_step (by kernel_rfl)
theorem n82_23s : codeB Try.prog E cx n82_23 st = some (.normal, st) := GE.skip_step (by kernel_rfl)
theorem n82_19s : codeB Try.prog E cx n82_19 st = condS (codeB Try.prog E cx n82_20) (codeB Try.prog E cx n82_23) (lk st.σ 16) st := GE.cond_step (c := .tmp 16) (by kernel_rfl)
theorem n82_17s : codeB Try.prog E cx n82_17 st = thenS (codeB Try.prog E cx n82_18 st) (codeB Try.prog E cx n82_19) := GE.seq_step (by kernel_rfl)
theorem n82_15s : codeB Try.prog E cx n82_15 st = thenS (codeB Try.prog E cx n82_16 st) (codeB Try.prog E cx n82_17) := GE.seq_step (by kernel_rfl)
theorem n82_14s : codeB Try.prog E cx n82_14 st = blockS 1 (codeB Try.prog E cx n82_15 st) st := GE.block_step (by kernel_rfl)
theorem n82_24s : codeB Try.prog E ⟨f, 19, b, ro⟩ n82_24 st = plainS (runOps Try.prog E b q82_24 (ops [true, false, true, false, false, true, true, true] Try.f82) st) := GE.region_step (id := 6) (GE.reg_of (by kernel_rfl)) (by kernel_rfl)
theorem n82_13s : codeB Try.prog E cx n82_13 st = thenS (codeB Try.prog E cx n82_14 st) (codeB Try.prog E cx n82_24) := GE.seq_step (by kernel_rfl)
theorem n82_9s : codeB Try.prog E cx n82_9 st = thenS (codeB Try.prog E cx n82_10 st) (codeB Try.prog E cx n82_13) := GE.seq_step (by kernel_rfl)
theorem n82_7s : codeB Try.prog E cx n82_7 st = thenS (codeB Try.prog E cx n82_8 st) (codeB Try.prog E cx n82_9) := GE.seq_step (by kernel_rfl)
theorem n82_6k : LL.kp (⟨82, 19, b, ro⟩ : Cx).fn (4 * rid n82_7 + 3) = some ⟨[0, 1, 7, 8], [⟨0, 0, 3, true⟩]⟩ := by kernel_rfl
theorem n82_6s : codeB Try.prog LL ⟨82, 19, b, ro⟩ n82_6 st = headS b ⟨[0, 1, 7, 8], [⟨0, 0, 3, true⟩]⟩ st (lpB Try.prog LL ⟨82, 19, b, ro⟩ n82_6 n82_7) := GE.lpB_step (by kernel_rfl) (n82_6k b ro)
theorem n82_6g : LL.code ⟨82, 19, b, ro⟩ n82_6 st = headS b ⟨[0, 1, 7, 8], [⟨0, 0, 3, true⟩]⟩ st (lpB Try.prog LL ⟨82, 19, b, ro⟩ n82_6 n82_7) := GE.lpB_again (by kernel_rfl) (n82_6k b ro)
theorem n82_5s : codeB Try.prog E cx n82_5 st = blockS 0 (codeB Try.prog E cx n82_6 st) st := GE.block_step (by kernel_rfl)
theorem n82_3s : codeB Try.prog E cx n82_3 st = thenS (codeB Try.prog E cx n82_4 st) (codeB Try.prog E cx n82_5) := GE.seq_step (by kernel_rfl)
theorem n82_26s : codeB Try.prog E ⟨f, 19, b, ro⟩ n82_26 st = plainS (runOps Try.prog E b q82_26 (ops [true, true, false] Try.f82) st) := GE.region_step (id := 7) (GE.reg_of (by kernel_rfl)) (by kernel_rfl)
theorem n82_27s : codeB Try.prog LL ⟨82, 19, b, ro⟩ n82_27 st = normS b ⟨[4], []⟩ .ret st := GE.ret_step (by kernel_rfl) (by kernel_rfl)
theorem n82_25s : codeB Try.prog E cx n82_25 st = thenS (codeB Try.prog E cx n82_26 st) (codeB Try.prog E cx n82_27) := GE.seq_step (by kernel_rfl)
theorem n82_2s : codeB Try.prog E cx n82_2 st = thenS (codeB Try.prog E cx n82_3 st) (codeB Try.prog E cx n82_25) := GE.seq_step (by kernel_rfl)
theorem n82_0s : codeB Try.prog E cx n82_0 st = thenS (codeB Try.prog E cx n82_1 st) (codeB Try.prog E cx n82_2) := GE.seq_step (by kernel_rfl)
noncomputable def n83_0 : Code := bodyOf Try.f83
noncomputable def n83_1 : Code := cl n83_0
noncomputable def q83_1 : List Oper := opsOf n83_1
noncomputable def n83_2 : Code := cr n83_0
noncomputable def n83_3 : Code := cl n83_2
noncomputable def q83_3 : List Oper := opsOf n83_3
noncomputable def n83_4 : Code := cr n83_2
theorem body83 : Try.f83.body = some n83_0 := by kernel_rfl
theorem run83 (E : Ev) (args : List Value) (h : List Blk) (hl : args.length ≤ 13) : runB Try.prog E 83 args h = endS Try.prog [.tmp 4] h.length (codeB Try.prog E ⟨83, 13, h.length, none⟩ n83_0 ⟨enumT 0 args, h, []⟩) := GE.run_step Try.func83 body83 (by kernel_rfl) (by decide) (by kernel_rfl) hl
theorem n83_1s : codeB Try.prog E ⟨f, 13, b, ro⟩ n83_1 st = plainS (runOps Try.prog E b q83_1 (ops [false] Try.f83) st) := GE.region_step (id := 0) (GE.reg_of (by kernel_rfl)) (by kernel_rfl)
theorem n83_3s : codeB Try.prog E ⟨f, 13, b, ro⟩ n83_3 st = drawS [0, 0, 0, 4, 0, 28, 60, 127, 255] (runOpsF Try.prog E b q83_3 (ops [true, false] Try.f83) st) := GE.draw_step (id := 1) (GE.reg_of (by kernel_rfl)) (by kernel_rfl) (by kernel_rfl) (by kernel_rfl)
theorem n83_4s : codeB Try.prog LL ⟨83, 13, b, ro⟩ n83_4 st = normS b ⟨[4], []⟩ .ret st := GE.ret_step (by kernel_rfl) (by kernel_rfl)
theorem n83_2s : codeB Try.prog E cx n83_2 st = thenS (codeB Try.prog E cx n83_3 st) (codeB Try.prog E cx n83_4) := GE.seq_step (by kernel_rfl)
theorem n83_0s : codeB Try.prog E cx n83_0 st = thenS (codeB Try.prog E cx n83_1 st) (codeB Try.prog E cx n83_2) := GE.seq_step (by kernel_rfl)
noncomputable def n86_0 : Code := bodyOf Try.f86
noncomputable def n86_1 : Code := cl n86_0
noncomputable def q86_1 : List Oper := opsOf n86_1
noncomputable def n86_2 : Code := cr n86_0
noncomputable def n86_3 : Code := cl n86_2
noncomputable def n86_4 : Code := cl n86_3
noncomputable def q86_4 : List Oper := opsOf n86_4
noncomputable def n86_5 : Code := cr n86_3
noncomputable def n86_6 : Code := cl n86_5
noncomputable def q86_6 : List Oper := opsOf n86_6
noncomputable def n86_7 : Code := cr n86_5
noncomputable def n86_8 : Code := cr n86_2
noncomputable def q86_8 : List Oper := opsOf n86_8
theorem body86 : Try.f86.body = some n86_0 := by kernel_rfl
theorem run86 (E : Ev) (args : List Value) (h : List Blk) (hl : args.length ≤ 32) : runB Try.prog E 86 args h = endS Try.prog [] h.length (codeB Try.prog E ⟨86, 32, h.length, none⟩ n86_0 ⟨enumT 0 args, h, []⟩) := GE.run_step Try.func86 body86 (by kernel_rfl) (by decide) (by kernel_rfl) hl
theorem n86_1s : codeB Try.prog E ⟨f, 32, b, ro⟩ n86_1 st = plainS (runOps Try.prog E b q86_1 (ops [false] Try.f86) st) := GE.region_step (id := 0) (GE.reg_of (by kernel_rfl)) (by kernel_rfl)
theorem n86_4s : codeB Try.prog E ⟨f, 32, b, ro⟩ n86_4 st = plainS (runOps Try.prog E b q86_4 (ops [true, false, false] Try.f86) st) := GE.region_step (id := 1) (GE.reg_of (by kernel_rfl)) (by kernel_rfl)
theorem n86_6s : codeB Try.prog E ⟨f, 32, b, ro⟩ n86_6 st = drawS [0, 1, 3, 7, 15, 0, 32, 127, 0, 256, 768, 1792, 3840, 0, 8192, 32512, 65535, 131071] (runOpsF Try.prog E b q86_6 (ops [true, false, true, false] Try.f86) st) := GE.draw_step (id := 2) (GE.reg_of (by kernel_rfl)) (by kernel_rfl) (by kernel_rfl) (by kernel_rfl)
theorem n86_7s : codeB Try.prog E cx n86_7 st = some (.normal, st) := GE.skip_step (by kernel_rfl)
theorem n86_5s : codeB Try.prog E cx n86_5 st = condS (codeB Try.prog E cx n86_6) (codeB Try.prog E cx n86_7) (lk st.σ 7) st := GE.cond_step (c := .tmp 7) (by kernel_rfl)
theorem n86_3s : codeB Try.prog E cx n86_3 st = thenS (codeB Try.prog E cx n86_4 st) (codeB Try.prog E cx n86_5) := GE.seq_step (by kernel_rfl)
theorem n86_8s : codeB Try.prog E ⟨f, 32, b, ro⟩ n86_8 st = plainS (runOps Try.prog E b q86_8 (ops [true, true] Try.f86) st) := GE.region_step (id := 3) (GE.reg_of (by kernel_rfl)) (by kernel_rfl)
theorem n86_2s : codeB Try.prog E cx n86_2 st = thenS (codeB Try.prog E cx n86_3 st) (codeB Try.prog E cx n86_8) := GE.seq_step (by kernel_rfl)
theorem n86_0s : codeB Try.prog E cx n86_0 st = thenS (codeB Try.prog E cx n86_1 st) (codeB Try.prog E cx n86_2) := GE.seq_step (by kernel_rfl)
theorem za_29 : zeroA Try.prog 29 = some (.agg #[(.int .i64 (0)), (.int .i64 (0)), (.slice none 0 0)]) := by kernel_rfl
theorem sz_29 : aggSize Try.prog 29 = some 3 := by kernel_rfl
theorem lk_41 : lenK Try.prog 41 = some .sl := by kernel_rfl
theorem pl_29 : plK Try.prog 29 = some [(0, 1), (1, 1), (2, 1)] := by kernel_rfl
theorem ze_27 : zeroE Try.prog 27 = some (.agg #[(.int .i64 (0)), (.int .i64 (0)), (.int .i64 (0))]) := by kernel_rfl
theorem ba_27_1 : baseArr (Value.cells (.agg #[(.int .i64 (0)), (.int .i64 (0)), (.int .i64 (0))])) (1 * 3) = #[(.int .i64 (0)), (.int .i64 (0)), (.int .i64 (0))] := by kernel_rfl
theorem ap_27 : apK Try.prog 27 = some (3, 24) := by kernel_rfl
theorem ni_27 : notInt Try.prog 27 = true := by kernel_rfl
theorem sz_27 : aggSize Try.prog 27 = some 1 := by kernel_rfl
theorem lk_46 : lenK Try.prog 46 = some .sl := by kernel_rfl
theorem es_46 : elemK Try.prog 46 = some (none, 2) := by kernel_rfl
theorem ia_121 : aggK Try.prog 121 = some (true, 2) := by kernel_rfl
theorem za_121 : zeroA Try.prog 121 = some (.agg #[(.int .i64 (0)), (.int .i64 (0))]) := by kernel_rfl
theorem sz_121 : aggSize Try.prog 121 = some 2 := by kernel_rfl
theorem fa_121_0 : fieldAt Try.prog 121 0 = some (0, 1) := by kernel_rfl
theorem fa_121_1 : fieldAt Try.prog 121 1 = some (1, 1) := by kernel_rfl
theorem es_41 : elemK Try.prog 41 = some (none, 2) := by kernel_rfl
theorem ia_95 : aggK Try.prog 95 = some (true, 2) := by kernel_rfl
theorem ze_46 : zeroE Try.prog 46 = some (.agg #[(.int .i64 (0)), (.int .i64 (0))]) := by kernel_rfl
theorem ba_46_1 : baseArr (Value.cells (.agg #[(.int .i64 (0)), (.int .i64 (0))])) (1 * 2) = #[(.int .i64 (0)), (.int .i64 (0))] := by kernel_rfl
theorem ap_46 : apK Try.prog 46 = some (2, 16) := by kernel_rfl
theorem ni_46 : notInt Try.prog 46 = true := by kernel_rfl
theorem za_127 : zeroA Try.prog 127 = some (.agg #[(.int .i64 (0)), (.int .i64 (0)), (.bool false)]) := by kernel_rfl
theorem sz_127 : aggSize Try.prog 127 = some 3 := by kernel_rfl
theorem fa_127_1 : fieldAt Try.prog 127 1 = some (2, 1) := by kernel_rfl
theorem fa_127_0 : fieldAt Try.prog 127 0 = some (0, 2) := by kernel_rfl
theorem ze_25 : zeroE Try.prog 25 = some (.int .i64 (0)) := by kernel_rfl
theorem ba_25_1 : baseArr (Value.cells (.int .i64 (0))) (1 * 1) = #[(.int .i64 (0))] := by kernel_rfl
theorem ap_25 : apK Try.prog 25 = some (1, 8) := by kernel_rfl
theorem ni_25 : notInt Try.prog 25 = true := by kernel_rfl
theorem za_95 : zeroA Try.prog 95 = some (.agg #[(.int .i64 (0)), (.int .i64 (0))]) := by kernel_rfl
theorem sz_95 : aggSize Try.prog 95 = some 2 := by kernel_rfl
theorem sl_22 : elemK Try.prog 22 = some (none, 3) := by kernel_rfl
theorem pl_95 : plK Try.prog 95 = some [(0, 1), (1, 1)] := by kernel_rfl
theorem ze_41 : zeroE Try.prog 41 = some (.agg #[(.int .i64 (0)), (.int .i64 (0))]) := by kernel_rfl
theorem ba_41_1 : baseArr (Value.cells (.agg #[(.int .i64 (0)), (.int .i64 (0))])) (1 * 2) = #[(.int .i64 (0)), (.int .i64 (0))] := by kernel_rfl
theorem ap_41 : apK Try.prog 41 = some (2, 16) := by kernel_rfl
theorem ni_41 : notInt Try.prog 41 = true := by kernel_rfl
theorem fa_95_1 : fieldAt Try.prog 95 1 = some (1, 1) := by kernel_rfl
theorem pl_121 : plK Try.prog 121 = some [(0, 1), (1, 1)] := by kernel_rfl
theorem za_155 : zeroA Try.prog 155 = some .nilFunc := by kernel_rfl
theorem sz_155 : aggSize Try.prog 155 = some 1 := by kernel_rfl
theorem ia_155 : aggK Try.prog 155 = some (false, 1) := by kernel_rfl
theorem ia_127 : aggK Try.prog 127 = some (true, 3) := by kernel_rfl
theorem fk_127_0 : fieldK Try.prog 127 0 = some (0, 2, true) := by kernel_rfl
theorem fk_57_1 : fieldK Try.prog 57 1 = some (1, 1, false) := by kernel_rfl

end Go.Proofs.Ytiafgimgcbmgaaa.bl
