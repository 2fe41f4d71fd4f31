/-
  Names for the nodes of the code of some functions (projections of their bodies), the step of each node, and the facts of types that they use.
-/
import Derived.Test.YtkmompbfcgjgmaaKp
namespace Go.Proofs.Ytkmompbfcgjgmaa.nt
open Go.GE
set_option maxRecDepth 100000
variable (E : Ev) (cx : Cx) (st : St) (f nt b : Nat) (ro : Option Nat)
noncomputable def n7_0 : Code := bodyOf Try.f7
noncomputable def n7_1 : Code := cl n7_0
noncomputable def q7_1 : List Oper := opsOf n7_1
noncomputable def n7_2 : Code := cr n7_0
noncomputable def n7_3 : Code := cl n7_2
noncomputable def q7_3 : List Oper := opsOf n7_3
noncomputable def n7_4 : Code := cr n7_2
noncomputable def n7_5 : Code := cl n7_4
noncomputable def n7_6 : Code := cl n7_5
noncomputable def q7_6 : List Oper := opsOf n7_6
noncomputable def n7_7 : Code := cr n7_5
noncomputable def n7_8 : Code := cl n7_7
noncomputable def n7_9 : Code := cl n7_8
noncomputable def q7_9 : List Oper := opsOf n7_9
noncomputable def n7_10 : Code := cr n7_8
noncomputable def n7_11 : Code := cr n7_7
noncomputable def n7_12 : Code := cr n7_4
noncomputable def n7_13 : Code := cl n7_12
noncomputable def q7_13 : List Oper := opsOf n7_13
noncomputable def n7_14 : Code := cr n7_12
noncomputable def n7_15 : Code := cl n7_14
noncomputable def q7_15 : List Oper := opsOf n7_15
noncomputable def n7_16 : Code := cr n7_14
noncomputable def n7_17 : Code := cl n7_16
noncomputable def n7_18 : Code := cl n7_17
noncomputable def q7_18 : List Oper := opsOf n7_18
noncomputable def n7_19 : Code := cr n7_17
noncomputable def n7_20 : Code := cl n7_19
noncomputable def n7_21 : Code := cl n7_20
noncomputable def n7_22 : Code := cl n7_21
noncomputable def n7_23 : Code := cl n7_22
noncomputable def q7_23 : List Oper := opsOf n7_23
noncomputable def n7_24 : Code := cr n7_22
noncomputable def n7_25 : Code := cl n7_24
noncomputable def n7_26 : Code := cr n7_24
noncomputable def n7_27 : Code := cr n7_21
noncomputable def n7_28 : Code := cl n7_27
noncomputable def n7_29 : Code := cl n7_28
noncomputable def q7_29 : List Oper := opsOf n7_29
noncomputable def n7_30 : Code := cr n7_28
noncomputable def n7_31 : Code := cl n7_30
noncomputable def n7_32 : Code := cl n7_31
noncomputable def n7_33 : Code := cl n7_32
noncomputable def n7_34 : Code := cl n7_33
noncomputable def n7_35 : Code := cl n7_34
noncomputable def q7_35 : List Oper := opsOf n7_35
noncomputable def n7_36 : Code := cr n7_34
noncomputable def n7_37 : Code := cl n7_36
noncomputable def n7_38 : Code := cr n7_36
noncomputable def n7_39 : Code := cr n7_33
noncomputable def n7_40 : Code := cl n7_39
noncomputable def q7_40 : List Oper := opsOf n7_40
noncomputable def n7_41 : Code := cr n7_30
noncomputable def n7_42 : Code := cl n7_41
noncomputable def n7_43 : Code := cl n7_42
noncomputable def q7_43 : List Oper := opsOf n7_43
noncomputable def n7_44 : Code := cr n7_42
noncomputable def n7_45 : Code := cl n7_44
noncomputable def n7_46 : Code := cl n7_45
noncomputable def q7_46 : List Oper := opsOf n7_46
noncomputable def n7_47 : Code := cr n7_45
noncomputable def n7_48 : Code := cr n7_44
noncomputable def n7_49 : Code := cr n7_41
noncomputable def n7_50 : Code := cl n7_49
noncomputable def q7_50 : List Oper := opsOf n7_50
noncomputable def n7_51 : Code := cr n7_49
noncomputable def q7_51 : List Oper := opsOf n7_51
noncomputable def n7_52 : Code := cr n7_16
noncomputable def n7_53 : Code := cl n7_52
noncomputable def q7_53 : List Oper := opsOf n7_53
noncomputable def n7_54 : Code := cr n7_52
theorem body7 : Try.f7.body = some n7_0 := by kernel_rfl
theorem run7 (E : Ev) (args : List Value) (h : List Blk) (hl : args.length ≤ 99) : runB Try.prog E 7 args h = endS Try.prog [.tmp 2] h.length (codeB Try.prog E ⟨7, 99, h.length, none⟩ n7_0 ⟨enumT 0 args, h, []⟩) := GE.run_step Try.func7 body7 (by kernel_rfl) (by decide) (by kernel_rfl) hl
theorem n7_1s : codeB Try.prog E ⟨f, 99, b, ro⟩ n7_1 st = plainS (runOps Try.prog E b q7_1 (ops [false] Try.f7) st) := GE.region_step (id := 0) (GE.reg_of (by kernel_rfl)) (by kernel_rfl)
theorem n7_3s : codeB Try.prog E ⟨f, 99, b, ro⟩ n7_3 st = plainS (runOps Try.prog E b q7_3 (ops [true, false] Try.f7) st) := GE.region_step (id := 1) (GE.reg_of (by kernel_rfl)) (by kernel_rfl)
theorem n7_6s : codeB Try.prog E ⟨f, 99, b, ro⟩ n7_6 st = plainS (runOps Try.prog E b q7_6 (ops [true, true, false, false] Try.f7) st) := GE.region_step (id := 2) (GE.reg_of (by kernel_rfl)) (by kernel_rfl)
theorem n7_9s : codeB Try.prog E ⟨f, 99, b, ro⟩ n7_9 st = plainS (runOps Try.prog E b q7_9 (ops [true, true, false, true, false, false] Try.f7) st) := GE.region_step (id := 3) (GE.reg_of (by kernel_rfl)) (by kernel_rfl)
theorem n7_10s : codeB Try.prog LL ⟨7, 99, b, ro⟩ n7_10 st = normS b ⟨[2], []⟩ .ret st := GE.ret_step (by kernel_rfl) (by kernel_rfl)
theorem n7_8s : codeB Try.prog E cx n7_8 st = thenS (codeB Try.prog E cx n7_9 st) (codeB Try.prog E cx n7_10) := GE.seq_step (by kernel_rfl)
theorem n7_11s : codeB Try.prog E cx n7_11 st = some (.normal, st) := GE.skip_step (by kernel_rfl)
theorem n7_7s : codeB Try.prog E cx n7_7 st = condS (codeB Try.prog E cx n7_8) (codeB Try.prog E cx n7_11) (lk st.σ 18) st := GE.cond_step (c := .tmp 18) (by kernel_rfl)
theorem n7_5s : codeB Try.prog E cx n7_5 st = thenS (codeB Try.prog E cx n7_6 st) (codeB Try.prog E cx n7_7) := GE.seq_step (by kernel_rfl)
theorem n7_13s : codeB Try.prog E ⟨f, 99, b, ro⟩ n7_13 st = plainS (runOps Try.prog E b q7_13 (ops [true, true, true, false] Try.f7) st) := GE.region_step (id := 4) (GE.reg_of (by kernel_rfl)) (by kernel_rfl)
theorem n7_15s : codeB Try.prog E ⟨f, 99, b, ro⟩ n7_15 st = plainS (runOps Try.prog E b q7_15 (ops [true, true, true, true, false] Try.f7) st) := GE.region_step (id := 5) (GE.reg_of (by kernel_rfl)) (by kernel_rfl)
theorem n7_18s : codeB Try.prog E ⟨f, 99, b, ro⟩ n7_18 st = plainS (runOps Try.prog E b q7_18 (ops [true, true, true, true, true, false, false] Try.f7) st) := GE.region_step (id := 6) (GE.reg_of (by kernel_rfl)) (by kernel_rfl)
theorem n7_23s : codeB Try.prog E ⟨f, 99, b, ro⟩ n7_23 st = plainS (runOps Try.prog E b q7_23 (ops [true, true, true, true, true, false, true, false, false, false, false] Try.f7) st) := GE.region_step (id := 7) (GE.reg_of (by kernel_rfl)) (by kernel_rfl)
theorem n7_25s : codeB Try.prog E cx n7_25 st = some (.normal, st) := GE.skip_step (by kernel_rfl)
theorem n7_26s : codeB Try.prog LL ⟨7, 99, b, ro⟩ n7_26 st = normS b ⟨[6, 7, 8], [⟨6, 0, 2, true⟩]⟩ (.exit 0) st := GE.exit_step (by kernel_rfl) (by kernel_rfl)
theorem n7_24s : codeB Try.prog E cx n7_24 st = condS (codeB Try.prog E cx n7_25) (codeB Try.prog E cx n7_26) (lk st.σ 28) st := GE.cond_step (c := .tmp 28) (by kernel_rfl)
theorem n7_22s : codeB Try.prog E cx n7_22 st = thenS (codeB Try.prog E cx n7_23 st) (codeB Try.prog E cx n7_24) := GE.seq_step (by kernel_rfl)
theorem n7_29s : codeB Try.prog E ⟨f, 99, b, ro⟩ n7_29 st = plainS (runOps Try.prog E b q7_29 (ops [true, true, true, true, true, false, true, false, false, true, false, false] Try.f7) st) := GE.region_step (id := 8) (GE.reg_of (by kernel_rfl)) (by kernel_rfl)
theorem q7_35g6 : gd q7_35 6 = some 35 := by kernel_rfl
theorem n7_35s : codeB Try.prog E ⟨f, 99, b, ro⟩ n7_35 st = drawS [0, 0, 3, 0, 8, 31, 63, 127, 127, 127, 895, 2047, 4095, 127, 127, 24703, 57471, 131071, 262143] (runOpsF Try.prog E b q7_35 (ops [true, true, true, true, true, false, true, false, false, true, false, true, false, false, false, false, false] Try.f7) st) := GE.draw_step (id := 9) (GE.reg_of (by kernel_rfl)) (by kernel_rfl) (by kernel_rfl) (by kernel_rfl)
theorem n7_37s : codeB Try.prog E cx n7_37 st = some (.normal, st) := GE.skip_step (by kernel_rfl)
theorem n7_38s : codeB Try.prog LL ⟨7, 99, b, ro⟩ n7_38 st = normS b ⟨[10, 4, 6, 7, 8, 9], [⟨4, 0, 2, true⟩, ⟨6, 0, 2, true⟩]⟩ (.exit 2) st := GE.exit_step (by kernel_rfl) (by kernel_rfl)
theorem n7_36s : codeB Try.prog E cx n7_36 st = condS (codeB Try.prog E cx n7_37) (codeB Try.prog E cx n7_38) (lk st.σ 47) st := GE.cond_step (c := .tmp 47) (by kernel_rfl)
theorem n7_34s : codeB Try.prog E cx n7_34 st = thenS (codeB Try.prog E cx n7_35 st) (codeB Try.prog E cx n7_36) := GE.seq_step (by kernel_rfl)
theorem n7_40s : codeB Try.prog E ⟨f, 99, b, ro⟩ n7_40 st = plainS (runOps Try.prog E b q7_40 (ops [true, true, true, true, true, false, true, false, false, true, false, true, false, false, false, true, false] Try.f7) st) := GE.region_step (id := 10) (GE.reg_of (by kernel_rfl)) (by kernel_rfl)
theorem n7_39s : codeB Try.prog E cx n7_39 st = blockS 3 (codeB Try.prog E cx n7_40 st) st := GE.block_step (by kernel_rfl)
theorem n7_33s : codeB Try.prog E cx n7_33 st = thenS (codeB Try.prog E cx n7_34 st) (codeB Try.prog E cx n7_39) := GE.seq_step (by kernel_rfl)
theorem n7_32k : LL.kp (⟨7, 99, b, ro⟩ : Cx).fn (4 * rid n7_33 + 3) = some ⟨[10, 4, 6, 7, 8, 9], [⟨4, 0, 2, true⟩, ⟨6, 0, 2, true⟩]⟩ := by kernel_rfl
theorem n7_32s : codeB Try.prog LL ⟨7, 99, b, ro⟩ n7_32 st = headS b ⟨[10, 4, 6, 7, 8, 9], [⟨4, 0, 2, true⟩, ⟨6, 0, 2, true⟩]⟩ st (lpB Try.prog LL ⟨7, 99, b, ro⟩ n7_32 n7_33) := GE.lpB_step (by kernel_rfl) (n7_32k b ro)
theorem n7_32g : LL.code ⟨7, 99, b, ro⟩ n7_32 st = headS b ⟨[10, 4, 6, 7, 8, 9], [⟨4, 0, 2, true⟩, ⟨6, 0, 2, true⟩]⟩ st (lpB Try.prog LL ⟨7, 99, b, ro⟩ n7_32 n7_33) := GE.lpB_again (by kernel_rfl) (n7_32k b ro)
theorem n7_31s : codeB Try.prog E cx n7_31 st = blockS 2 (codeB Try.prog E cx n7_32 st) st := GE.block_step (by kernel_rfl)
theorem q7_43g4 : gd q7_43 4 = some 54 := by kernel_rfl
theorem q7_43g13 : gd q7_43 13 = some 63 := by kernel_rfl
theorem n7_43s : codeB Try.prog E ⟨f, 99, b, ro⟩ n7_43 st = drawS [0, 0, 2, 7, 15, 31, 31, 127, 255, 511, 31, 2047, 4095, 8191, 16383, 16383, 65535, 131071, 262143, 16383, 16383, 1589247, 3686399, 7880703, 16777215, 16383, 16383, 100679679, 234897407, 503332863, 1040203775, 2147483647, 4294967295] (runOpsF Try.prog E b q7_43 (ops [true, true, true, true, true, false, true, false, false, true, false, true, true, false, false] Try.f7) st) := GE.draw_step (id := 11) (GE.reg_of (by kernel_rfl)) (by kernel_rfl) (by kernel_rfl) (by kernel_rfl)
theorem n7_46s : codeB Try.prog E ⟨f, 99, b, ro⟩ n7_46 st = plainS (runOps Try.prog E b q7_46 (ops [true, true, true, true, true, false, true, false, false, true, false, true, true, false, true, false, false] Try.f7) st) := GE.region_step (id := 12) (GE.reg_of (by kernel_rfl)) (by kernel_rfl)
theorem n7_47s : codeB Try.prog LL ⟨7, 99, b, ro⟩ n7_47 st = normS b ⟨[2], []⟩ .ret st := GE.ret_step (by kernel_rfl) (by kernel_rfl)
theorem n7_45s : codeB Try.prog E cx n7_45 st = thenS (codeB Try.prog E cx n7_46 st) (codeB Try.prog E cx n7_47) := GE.seq_step (by kernel_rfl)
theorem n7_48s : codeB Try.prog E cx n7_48 st = some (.normal, st) := GE.skip_step (by kernel_rfl)
theorem n7_44s : codeB Try.prog E cx n7_44 st = condS (codeB Try.prog E cx n7_45) (codeB Try.prog E cx n7_48) (lk st.σ 82) st := GE.cond_step (c := .tmp 82) (by kernel_rfl)
theorem n7_42s : codeB Try.prog E cx n7_42 st = thenS (codeB Try.prog E cx n7_43 st) (codeB Try.prog E cx n7_44) := GE.seq_step (by kernel_rfl)
theorem n7_50s : codeB Try.prog E ⟨f, 99, b, ro⟩ n7_50 st = plainS (runOps Try.prog E b q7_50 (ops [true, true, true, true, true, false, true, false, false, true, false, true, true, true, false] Try.f7) st) := GE.region_step (id := 13) (GE.reg_of (by kernel_rfl)) (by kernel_rfl)
theorem n7_51s : codeB Try.prog E ⟨f, 99, b, ro⟩ n7_51 st = plainS (runOps Try.prog E b q7_51 (ops [true, true, true, true, true, false, true, false, false, true, false, true, true, true, true] Try.f7) st) := GE.region_step (id := 14) (GE.reg_of (by kernel_rfl)) (by kernel_rfl)
theorem n7_49s : codeB Try.prog E cx n7_49 st = thenS (codeB Try.prog E cx n7_50 st) (codeB Try.prog E cx n7_51) := GE.seq_step (by kernel_rfl)
theorem n7_41s : codeB Try.prog E cx n7_41 st = thenS (codeB Try.prog E cx n7_42 st) (codeB Try.prog E cx n7_49) := GE.seq_step (by kernel_rfl)
theorem n7_30s : codeB Try.prog E cx n7_30 st = thenS (codeB Try.prog E cx n7_31 st) (codeB Try.prog E cx n7_41) := GE.seq_step (by kernel_rfl)
theorem n7_28s : codeB Try.prog E cx n7_28 st = thenS (codeB Try.prog E cx n7_29 st) (codeB Try.prog E cx n7_30) := GE.seq_step (by kernel_rfl)
theorem n7_27s : codeB Try.prog E cx n7_27 st = blockS 1 (codeB Try.prog E cx n7_28 st) st := GE.block_step (by kernel_rfl)
theorem n7_21s : codeB Try.prog E cx n7_21 st = thenS (codeB Try.prog E cx n7_22 st) (codeB Try.prog E cx n7_27) := GE.seq_step (by kernel_rfl)
theorem n7_20k : LL.kp (⟨7, 99, b, ro⟩ : Cx).fn (4 * rid n7_21 + 3) = some ⟨[4, 6, 7, 8, 9], [⟨4, 0, 2, true⟩, ⟨6, 0, 2, true⟩]⟩ := by kernel_rfl
theorem n7_20s : codeB Try.prog LL ⟨7, 99, b, ro⟩ n7_20 st = headS b ⟨[4, 6, 7, 8, 9], [⟨4, 0, 2, true⟩, ⟨6, 0, 2, true⟩]⟩ st (lpB Try.prog LL ⟨7, 99, b, ro⟩ n7_20 n7_21) := GE.lpB_step (by kernel_rfl) (n7_20k b ro)
theorem n7_20g : LL.code ⟨7, 99, b, ro⟩ n7_20 st = headS b ⟨[4, 6, 7, 8, 9], [⟨4, 0, 2, true⟩, ⟨6, 0, 2, true⟩]⟩ st (lpB Try.prog LL ⟨7, 99, b, ro⟩ n7_20 n7_21) := GE.lpB_again (by kernel_rfl) (n7_20k b ro)
theorem n7_19s : codeB Try.prog E cx n7_19 st = blockS 0 (codeB Try.prog E cx n7_20 st) st := GE.block_step (by kernel_rfl)
theorem n7_17s : codeB Try.prog E cx n7_17 st = thenS (codeB Try.prog E cx n7_18 st) (codeB Try.prog E cx n7_19) := GE.seq_step (by kernel_rfl)
theorem q7_53g2 : gd q7_53 2 = some 90 := by kernel_rfl
theorem q7_53g8 : gd q7_53 8 = some 96 := by kernel_rfl
theorem n7_53s : codeB Try.prog E ⟨f, 99, b, ro⟩ n7_53 st = plainS (runOps Try.prog E b q7_53 (ops [true, true, true, true, true, true, false] Try.f7) st) := GE.region_step (id := 15) (GE.reg_of (by kernel_rfl)) (by kernel_rfl)
theorem n7_54s : codeB Try.prog LL ⟨7, 99, b, ro⟩ n7_54 st = normS b ⟨[2], []⟩ .ret st := GE.ret_step (by kernel_rfl) (by kernel_rfl)
theorem n7_52s : codeB Try.prog E cx n7_52 st = thenS (codeB Try.prog E cx n7_53 st) (codeB Try.prog E cx n7_54) := GE.seq_step (by kernel_rfl)
theorem n7_16s : codeB Try.prog E cx n7_16 st = thenS (codeB Try.prog E cx n7_17 st) (codeB Try.prog E cx n7_52) := GE.seq_step (by kernel_rfl)
theorem n7_14s : codeB Try.prog E cx n7_14 st = thenS (codeB Try.prog E cx n7_15 st) (codeB Try.prog E cx n7_16) := GE.seq_step (by kernel_rfl)
theorem n7_12s : codeB Try.prog E cx n7_12 st = thenS (codeB Try.prog E cx n7_13 st) (codeB Try.prog E cx n7_14) := GE.seq_step (by kernel_rfl)
theorem n7_4s : codeB Try.prog E cx n7_4 st = thenS (codeB Try.prog E cx n7_5 st) (codeB Try.prog E cx n7_12) := GE.seq_step (by kernel_rfl)
theorem n7_2s : codeB Try.prog E cx n7_2 st = thenS (codeB Try.prog E cx n7_3 st) (codeB Try.prog E cx n7_4) := GE.seq_step (by kernel_rfl)
theorem n7_0s : codeB Try.prog E cx n7_0 st = thenS (codeB Try.prog E cx n7_1 st) (codeB Try.prog E cx n7_2) := GE.seq_step (by kernel_rfl)
noncomputable def n21_0 : Code := bodyOf Try.f21
noncomputable def n21_1 : Code := cl n21_0
noncomputable def q21_1 : List Oper := opsOf n21_1
noncomputable def n21_2 : Code := cr n21_0
noncomputable def n21_3 : Code := cl n21_2
noncomputable def n21_4 : Code := cl n21_3
noncomputable def n21_5 : Code := cl n21_4
noncomputable def q21_5 : List Oper := opsOf n21_5
noncomputable def n21_6 : Code := cr n21_4
noncomputable def n21_7 : Code := cl n21_6
noncomputable def n21_8 : Code := cl n21_7
noncomputable def q21_8 : List Oper := opsOf n21_8
noncomputable def n21_9 : Code := cr n21_7
noncomputable def n21_10 : Code := cr n21_6
noncomputable def n21_11 : Code := cl n21_10
noncomputable def q21_11 : List Oper := opsOf n21_11
noncomputable def n21_12 : Code := cr n21_10
noncomputable def n21_13 : Code := cl n21_12
noncomputable def n21_14 : Code := cl n21_13
noncomputable def q21_14 : List Oper := opsOf n21_14
noncomputable def n21_15 : Code := cr n21_13
noncomputable def n21_16 : Code := cr n21_12
noncomputable def n21_17 : Code := cl n21_16
noncomputable def q21_17 : List Oper := opsOf n21_17
noncomputable def n21_18 : Code := cr n21_16
noncomputable def n21_19 : Code := cl n21_18
noncomputable def n21_20 : Code := cl n21_19
noncomputable def q21_20 : List Oper := opsOf n21_20
noncomputable def n21_21 : Code := cr n21_19
noncomputable def n21_22 : Code := cr n21_18
noncomputable def n21_23 : Code := cl n21_22
noncomputable def q21_23 : List Oper := opsOf n21_23
noncomputable def n21_24 : Code := cr n21_22
noncomputable def n21_25 : Code := cl n21_24
noncomputable def n21_26 : Code := cl n21_25
noncomputable def q21_26 : List Oper := opsOf n21_26
noncomputable def n21_27 : Code := cr n21_25
noncomputable def n21_28 : Code := cr n21_24
noncomputable def n21_29 : Code := cr n21_2
noncomputable def n21_30 : Code := cl n21_29
noncomputable def q21_30 : List Oper := opsOf n21_30
noncomputable def n21_31 : Code := cr n21_29
theorem body21 : Try.f21.body = some n21_0 := by kernel_rfl
theorem run21 (E : Ev) (args : List Value) (h : List Blk) (hl : args.length ≤ 27) : runB Try.prog E 21 args h = endS Try.prog [.tmp 2] h.length (codeB Try.prog E ⟨21, 27, h.length, none⟩ n21_0 ⟨enumT 0 args, h, []⟩) := GE.run_step Try.func21 body21 (by kernel_rfl) (by decide) (by kernel_rfl) hl
theorem n21_1s : codeB Try.prog E ⟨f, 27, b, ro⟩ n21_1 st = plainS (runOps Try.prog E b q21_1 (ops [false] Try.f21) st) := GE.region_step (id := 0) (GE.reg_of (by kernel_rfl)) (by kernel_rfl)
theorem n21_5s : codeB Try.prog E ⟨f, 27, b, ro⟩ n21_5 st = plainS (runOps Try.prog E b q21_5 (ops [true, false, false, false] Try.f21) st) := GE.region_step (id := 1) (GE.reg_of (by kernel_rfl)) (by kernel_rfl)
theorem n21_8s : codeB Try.prog E ⟨f, 27, b, ro⟩ n21_8 st = plainS (runOps Try.prog E b q21_8 (ops [true, false, false, true, false, false] Try.f21) st) := GE.region_step (id := 2) (GE.reg_of (by kernel_rfl)) (by kernel_rfl)
theorem n21_9s : codeB Try.prog LL ⟨21, 27, b, ro⟩ n21_9 st = normS b ⟨[2], []⟩ .ret st := GE.ret_step (by kernel_rfl) (by kernel_rfl)
theorem n21_7s : codeB Try.prog E cx n21_7 st = thenS (codeB Try.prog E cx n21_8 st) (codeB Try.prog E cx n21_9) := GE.seq_step (by kernel_rfl)
theorem n21_11s : codeB Try.prog E ⟨f, 27, b, ro⟩ n21_11 st = plainS (runOps Try.prog E b q21_11 (ops [true, false, false, true, true, false] Try.f21) st) := GE.region_step (id := 3) (GE.reg_of (by kernel_rfl)) (by kernel_rfl)
theorem n21_14s : codeB Try.prog E ⟨f, 27, b, ro⟩ n21_14 st = plainS (runOps Try.prog E b q21_14 (ops [true, false, false, true, true, true, false, false] Try.f21) st) := GE.region_step (id := 4) (GE.reg_of (by kernel_rfl)) (by kernel_rfl)
theorem n21_15s : codeB Try.prog LL ⟨21, 27, b, ro⟩ n21_15 st = normS b ⟨[2], []⟩ .ret st := GE.ret_step (by kernel_rfl) (by kernel_rfl)
theorem n21_13s : codeB Try.prog E cx n21_13 st = thenS (codeB Try.prog E cx n21_14 st) (codeB Try.prog E cx n21_15) := GE.seq_step (by kernel_rfl)
theorem n21_17s : codeB Try.prog E ⟨f, 27, b, ro⟩ n21_17 st = plainS (runOps Try.prog E b q21_17 (ops [true, false, false, true, true, true, true, false] Try.f21) st) := GE.region_step (id := 5) (GE.reg_of (by kernel_rfl)) (by kernel_rfl)
theorem n21_20s : codeB Try.prog E ⟨f, 27, b, ro⟩ n21_20 st = plainS (runOps Try.prog E b q21_20 (ops [true, false, false, true, true, true, true, true, false, false] Try.f21) st) := GE.region_step (id := 6) (GE.reg_of (by kernel_rfl)) (by kernel_rfl)
theorem n21_21s : codeB Try.prog LL ⟨21, 27, b, ro⟩ n21_21 st = normS b ⟨[2], []⟩ .ret st := GE.ret_step (by kernel_rfl) (by kernel_rfl)
theorem n21_19s : codeB Try.prog E cx n21_19 st = thenS (codeB Try.prog E cx n21_20 st) (codeB Try.prog E cx n21_21) := GE.seq_step (by kernel_rfl)
theorem q21_23g3 : gd q21_23 3 = some 18 := by kernel_rfl
theorem n21_23s : codeB Try.prog E ⟨f, 27, b, ro⟩ n21_23 st = plainS (runOps Try.prog E b q21_23 (ops [true, false, false, true, true, true, true, true, true, false] Try.f21) st) := GE.region_step (id := 7) (GE.reg_of (by kernel_rfl)) (by kernel_rfl)
theorem n21_26s : codeB Try.prog E ⟨f, 27, b, ro⟩ n21_26 st = plainS (runOps Try.prog E b q21_26 (ops [true, false, false, true, true, true, true, true, true, true, false, false] Try.f21) st) := GE.region_step (id := 8) (GE.reg_of (by kernel_rfl)) (by kernel_rfl)
theorem n21_27s : codeB Try.prog LL ⟨21, 27, b, ro⟩ n21_27 st = normS b ⟨[2], []⟩ .ret st := GE.ret_step (by kernel_rfl) (by kernel_rfl)
theorem n21_25s : codeB Try.prog E cx n21_25 st = thenS (codeB Try.prog E cx n21_26 st) (codeB Try.prog E cx n21_27) := GE.seq_step (by kernel_rfl)
theorem n21_28s : codeB Try.prog E cx n21_28 st = some (.normal, st) := GE.skip_step (by kernel_rfl)
theorem n21_24s : codeB Try.prog E cx n21_24 st = condS (codeB Try.prog E cx n21_25) (codeB Try.prog E cx n21_28) (lk st.σ 14) st := GE.cond_step (c := .tmp 14) (by kernel_rfl)
theorem n21_22s : codeB Try.prog E cx n21_22 st = thenS (codeB Try.prog E cx n21_23 st) (codeB Try.prog E cx n21_24) := GE.seq_step (by kernel_rfl)
theorem n21_18s : codeB Try.prog E cx n21_18 st = condS (codeB Try.prog E cx n21_19) (codeB Try.prog E cx n21_22) (lk st.σ 11) st := GE.cond_step (c := .tmp 11) (by kernel_rfl)
theorem n21_16s : codeB Try.prog E cx n21_16 st = thenS (codeB Try.prog E cx n21_17 st) (codeB Try.prog E cx n21_18) := GE.seq_step (by kernel_rfl)
theorem n21_12s : codeB Try.prog E cx n21_12 st = condS (codeB Try.prog E cx n21_13) (codeB Try.prog E cx n21_16) (lk st.σ 7) st := GE.cond_step (c := .tmp 7) (by kernel_rfl)
theorem n21_10s : codeB Try.prog E cx n21_10 st = thenS (codeB Try.prog E cx n21_11 st) (codeB Try.prog E cx n21_12) := GE.seq_step (by kernel_rfl)
theorem n21_6s : codeB Try.prog E cx n21_6 st = condS (codeB Try.prog E cx n21_7) (codeB Try.prog E cx n21_10) (lk st.σ 3) st := GE.cond_step (c := .tmp 3) (by kernel_rfl)
theorem n21_4s : codeB Try.prog E cx n21_4 st = thenS (codeB Try.prog E cx n21_5 st) (codeB Try.prog E cx n21_6) := GE.seq_step (by kernel_rfl)
theorem n21_3s : codeB Try.prog E cx n21_3 st = blockS 0 (codeB Try.prog E cx n21_4 st) st := GE.block_step (by kernel_rfl)
theorem n21_30s : codeB Try.prog E ⟨f, 27, b, ro⟩ n21_30 st = plainS (runOps Try.prog E b q21_30 (ops [true, true, false] Try.f21) st) := GE.region_step (id := 9) (GE.reg_of (by kernel_rfl)) (by kernel_rfl)
theorem n21_31s : codeB Try.prog LL ⟨21, 27, b, ro⟩ n21_31 st = normS b ⟨[2], []⟩ .ret st := GE.ret_step (by kernel_rfl) (by kernel_rfl)
theorem n21_29s : codeB Try.prog E cx n21_29 st = thenS (codeB Try.prog E cx n21_30 st) (codeB Try.prog E cx n21_31) := GE.seq_step (by kernel_rfl)
theorem n21_2s : codeB Try.prog E cx n21_2 st = thenS (codeB Try.prog E cx n21_3 st) (codeB Try.prog E cx n21_29) := GE.seq_step (by kernel_rfl)
theorem n21_0s : codeB Try.prog E cx n21_0 st = thenS (codeB Try.prog E cx n21_1 st) (codeB Try.prog E cx n21_2) := GE.seq_step (by kernel_rfl)
noncomputable def n29_0 : Code := bodyOf Try.f29
noncomputable def n29_1 : Code := cl n29_0
noncomputable def q29_1 : List Oper := opsOf n29_1
noncomputable def n29_2 : Code := cr n29_0
noncomputable def n29_3 : Code := cl n29_2
noncomputable def n29_4 : Code := cl n29_3
noncomputable def q29_4 : List Oper := opsOf n29_4
noncomputable def n29_5 : Code := cr n29_3
noncomputable def n29_6 : Code := cl n29_5
noncomputable def q29_6 : List Oper := opsOf n29_6
noncomputable def n29_7 : Code := cr n29_5
noncomputable def n29_8 : Code := cl n29_7
noncomputable def n29_9 : Code := cl n29_8
noncomputable def q29_9 : List Oper := opsOf n29_9
noncomputable def n29_10 : Code := cr n29_8
noncomputable def n29_11 : Code := cr n29_7
noncomputable def n29_12 : Code := cr n29_2
noncomputable def n29_13 : Code := cl n29_12
noncomputable def q29_13 : List Oper := opsOf n29_13
noncomputable def n29_14 : Code := cr n29_12
noncomputable def n29_15 : Code := cl n29_14
noncomputable def q29_15 : List Oper := opsOf n29_15
noncomputable def n29_16 : Code := cr n29_14
noncomputable def n29_17 : Code := cl n29_16
noncomputable def q29_17 : List Oper := opsOf n29_17
noncomputable def n29_18 : Code := cr n29_16
noncomputable def n29_19 : Code := cl n29_18
noncomputable def q29_19 : List Oper := opsOf n29_19
noncomputable def n29_20 : Code := cr n29_18
noncomputable def n29_21 : Code := cl n29_20
noncomputable def n29_22 : Code := cl n29_21
noncomputable def q29_22 : List Oper := opsOf n29_22
noncomputable def n29_23 : Code := cr n29_21
noncomputable def n29_24 : Code := cl n29_23
noncomputable def n29_25 : Code := cl n29_24
noncomputable def n29_26 : Code := cl n29_25
noncomputable def q29_26 : List Oper := opsOf n29_26
noncomputable def n29_27 : Code := cr n29_25
noncomputable def n29_28 : Code := cl n29_27
noncomputable def n29_29 : Code := cl n29_28
noncomputable def n29_30 : Code := cr n29_28
noncomputable def n29_31 : Code := cr n29_27
noncomputable def n29_32 : Code := cl n29_31
noncomputable def n29_33 : Code := cl n29_32
noncomputable def n29_34 : Code := cl n29_33
noncomputable def q29_34 : List Oper := opsOf n29_34
noncomputable def n29_35 : Code := cr n29_33
noncomputable def n29_36 : Code := cl n29_35
noncomputable def q29_36 : List Oper := opsOf n29_36
noncomputable def n29_37 : Code := cr n29_35
noncomputable def q29_37 : List Oper := opsOf n29_37
noncomputable def n29_38 : Code := cr n29_31
noncomputable def q29_38 : List Oper := opsOf n29_38
noncomputable def n29_39 : Code := cr n29_20
noncomputable def n29_40 : Code := cl n29_39
noncomputable def n29_41 : Code := cl n29_40
noncomputable def q29_41 : List Oper := opsOf n29_41
noncomputable def n29_42 : Code := cr n29_40
noncomputable def n29_43 : Code := cl n29_42
noncomputable def q29_43 : List Oper := opsOf n29_43
noncomputable def n29_44 : Code := cr n29_42
noncomputable def n29_45 : Code := cl n29_44
noncomputable def n29_46 : Code := cl n29_45
noncomputable def q29_46 : List Oper := opsOf n29_46
noncomputable def n29_47 : Code := cr n29_45
noncomputable def n29_48 : Code := cl n29_47
noncomputable def q29_48 : List Oper := opsOf n29_48
noncomputable def n29_49 : Code := cr n29_47
noncomputable def q29_49 : List Oper := opsOf n29_49
noncomputable def n29_50 : Code := cr n29_44
noncomputable def n29_51 : Code := cr n29_39
noncomputable def n29_52 : Code := cl n29_51
noncomputable def q29_52 : List Oper := opsOf n29_52
noncomputable def n29_53 : Code := cr n29_51
theorem body29 : Try.f29.body = some n29_0 := by kernel_rfl
theorem run29 (E : Ev) (args : List Value) (h : List Blk) (hl : args.length ≤ 65) : runB Try.prog E 29 args h = endS Try.prog [.tmp 2, .tmp 3] h.length (codeB Try.prog E ⟨29, 65, h.length, none⟩ n29_0 ⟨enumT 0 args, h, []⟩) := GE.run_step Try.func29 body29 (by kernel_rfl) (by decide) (by kernel_rfl) hl
theorem n29_1s : codeB Try.prog E ⟨f, 65, b, ro⟩ n29_1 st = plainS (runOps Try.prog E b q29_1 (ops [false] Try.f29) st) := GE.region_step (id := 0) (GE.reg_of (by kernel_rfl)) (by kernel_rfl)
theorem n29_4s : codeB Try.prog E ⟨f, 65, b, ro⟩ n29_4 st = plainS (runOps Try.prog E b q29_4 (ops [true, false, false] Try.f29) st) := GE.region_step (id := 1) (GE.reg_of (by kernel_rfl)) (by kernel_rfl)
theorem n29_6s : codeB Try.prog E ⟨f, 65, b, ro⟩ n29_6 st = plainS (runOps Try.prog E b q29_6 (ops [true, false, true, false] Try.f29) st) := GE.region_step (id := 2) (GE.reg_of (by kernel_rfl)) (by kernel_rfl)
theorem n29_9s : codeB Try.prog E ⟨f, 65, b, ro⟩ n29_9 st = plainS (runOps Try.prog E b q29_9 (ops [true, false, true, true, false, false] Try.f29) st) := GE.region_step (id := 3) (GE.reg_of (by kernel_rfl)) (by kernel_rfl)
theorem n29_10s : codeB Try.prog LL ⟨29, 65, b, ro⟩ n29_10 st = normS b ⟨[2, 3], [⟨2, 0, 2, true⟩]⟩ .ret st := GE.ret_step (by kernel_rfl) (by kernel_rfl)
theorem n29_8s : codeB Try.prog E cx n29_8 st = thenS (codeB Try.prog E cx n29_9 st) (codeB Try.prog E cx n29_10) := GE.seq_step (by kernel_rfl)
theorem n29_11s : codeB Try.prog E cx n29_11 st = some (.normal, st) := GE.skip_step (by kernel_rfl)
theorem n29_7s : codeB Try.prog E cx n29_7 st = condS (codeB Try.prog E cx n29_8) (codeB Try.prog E cx n29_11) (lk st.σ 17) st := GE.cond_step (c := .tmp 17) (by kernel_rfl)
theorem n29_5s : codeB Try.prog E cx n29_5 st = thenS (codeB Try.prog E cx n29_6 st) (codeB Try.prog E cx n29_7) := GE.seq_step (by kernel_rfl)
theorem n29_3s : codeB Try.prog E cx n29_3 st = thenS (codeB Try.prog E cx n29_4 st) (codeB Try.prog E cx n29_5) := GE.seq_step (by kernel_rfl)
theorem n29_13s : codeB Try.prog E ⟨f, 65, b, ro⟩ n29_13 st = plainS (runOps Try.prog E b q29_13 (ops [true, true, false] Try.f29) st) := GE.region_step (id := 4) (GE.reg_of (by kernel_rfl)) (by kernel_rfl)
theorem n29_15s : codeB Try.prog E ⟨f, 65, b, ro⟩ n29_15 st = plainS (runOps Try.prog E b q29_15 (ops [true, true, true, false] Try.f29) st) := GE.region_step (id := 5) (GE.reg_of (by kernel_rfl)) (by kernel_rfl)
theorem n29_17s : codeB Try.prog E ⟨f, 65, b, ro⟩ n29_17 st = plainS (runOps Try.prog E b q29_17 (ops [true, true, true, true, false] Try.f29) st) := GE.region_step (id := 6) (GE.reg_of (by kernel_rfl)) (by kernel_rfl)
theorem n29_19s : codeB Try.prog E ⟨f, 65, b, ro⟩ n29_19 st = plainS (runOps Try.prog E b q29_19 (ops [true, true, true, true, true, false] Try.f29) st) := GE.region_step (id := 7) (GE.reg_of (by kernel_rfl)) (by kernel_rfl)
theorem n29_22s : codeB Try.prog E ⟨f, 65, b, ro⟩ n29_22 st = plainS (runOps Try.prog E b q29_22 (ops [true, true, true, true, true, true, false, false] Try.f29) st) := GE.region_step (id := 8) (GE.reg_of (by kernel_rfl)) (by kernel_rfl)
theorem n29_26s : codeB Try.prog E ⟨f, 65, b, ro⟩ n29_26 st = plainS (runOps Try.prog E b q29_26 (ops [true, true, true, true, true, true, false, true, false, false, false] Try.f29) st) := GE.region_step (id := 9) (GE.reg_of (by kernel_rfl)) (by kernel_rfl)
theorem n29_29s : codeB Try.prog E cx n29_29 st = some (.normal, st) := GE.skip_step (by kernel_rfl)
theorem n29_30s : codeB Try.prog LL ⟨29, 65, b, ro⟩ n29_30 st = normS b ⟨[0, 5, 6, 8], [⟨0, 0, 1, true⟩, ⟨5, 0, 1, false⟩, ⟨8, 0, 2, true⟩]⟩ (.exit 0) st := GE.exit_step (by kernel_rfl) (by kernel_rfl)
theorem n29_28s : codeB Try.prog E cx n29_28 st = condS (codeB Try.prog E cx n29_29) (codeB Try.prog E cx n29_30) (lk st.σ 26) st := GE.cond_step (c := .tmp 26) (by kernel_rfl)
theorem n29_34s : codeB Try.prog E ⟨f, 65, b, ro⟩ n29_34 st = plainS (runOps Try.prog E b q29_34 (ops [true, true, true, true, true, true, false, true, false, false, true, true, false, false, false] Try.f29) st) := GE.region_step (id := 10) (GE.reg_of (by kernel_rfl)) (by kernel_rfl)
theorem n29_36s : codeB Try.prog E ⟨f, 65, b, ro⟩ n29_36 st = plainS (runOps Try.prog E b q29_36 (ops [true, true, true, true, true, true, false, true, false, false, true, true, false, false, true, false] Try.f29) st) := GE.region_step (id := 11) (GE.reg_of (by kernel_rfl)) (by kernel_rfl)
theorem n29_37s : codeB Try.prog E ⟨f, 65, b, ro⟩ n29_37 st = plainS (runOps Try.prog E b q29_37 (ops [true, true, true, true, true, true, false, true, false, false, true, true, false, false, true, true] Try.f29) st) := GE.region_step (id := 12) (GE.reg_of (by kernel_rfl)) (by kernel_rfl)
theorem n29_35s : codeB Try.prog E cx n29_35 st = thenS (codeB Try.prog E cx n29_36 st) (codeB Try.prog E cx n29_37) := GE.seq_step (by kernel_rfl)
theorem n29_33s : codeB Try.prog E cx n29_33 st = thenS (codeB Try.prog E cx n29_34 st) (codeB Try.prog E cx n29_35) := GE.seq_step (by kernel_rfl)
theorem n29_32s : codeB Try.prog E cx n29_32 st = blockS 1 (codeB Try.prog E cx n29_33 st) st := GE.block_step (by kernel_rfl)
theorem n29_38s : codeB Try.prog E ⟨f, 65, b, ro⟩ n29_38 st = plainS (runOps Try.prog E b q29_38 (ops [true, true, true, true, true, true, false, true, false, false, true, true, true] Try.f29) st) := GE.region_step (id := 13) (GE.reg_of (by kernel_rfl)) (by kernel_rfl)
theorem n29_31s : codeB Try.prog E cx n29_31 st = thenS (codeB Try.prog E cx n29_32 st) (codeB Try.prog E cx n29_38) := GE.seq_step (by kernel_rfl)
theorem n29_27s : codeB Try.prog E cx n29_27 st = thenS (codeB Try.prog E cx n29_28 st) (codeB Try.prog E cx n29_31) := GE.seq_step (by kernel_rfl)
theorem n29_25s : codeB Try.prog E cx n29_25 st = thenS (codeB Try.prog E cx n29_26 st) (codeB Try.prog E cx n29_27) := GE.seq_step (by kernel_rfl)
theorem n29_24k : LL.kp (⟨29, 65, b, ro⟩ : Cx).fn (4 * rid n29_25 + 3) = some ⟨[0, 5, 6, 7, 8, 24, 25], [⟨0, 0, 1, true⟩, ⟨5, 0, 1, false⟩, ⟨8, 0, 2, true⟩]⟩ := by kernel_rfl
theorem n29_24s : codeB Try.prog LL ⟨29, 65, b, ro⟩ n29_24 st = headS b ⟨[0, 5, 6, 7, 8, 24, 25], [⟨0, 0, 1, true⟩, ⟨5, 0, 1, false⟩, ⟨8, 0, 2, true⟩]⟩ st (lpB Try.prog LL ⟨29, 65, b, ro⟩ n29_24 n29_25) := GE.lpB_step (by kernel_rfl) (n29_24k b ro)
theorem n29_24g : LL.code ⟨29, 65, b, ro⟩ n29_24 st = headS b ⟨[0, 5, 6, 7, 8, 24, 25], [⟨0, 0, 1, true⟩, ⟨5, 0, 1, false⟩, ⟨8, 0, 2, true⟩]⟩ st (lpB Try.prog LL ⟨29, 65, b, ro⟩ n29_24 n29_25) := GE.lpB_again (by kernel_rfl) (n29_24k b ro)
theorem n29_23s : codeB Try.prog E cx n29_23 st = blockS 0 (codeB Try.prog E cx n29_24 st) st := GE.block_step (by kernel_rfl)
theorem n29_21s : codeB Try.prog E cx n29_21 st = thenS (codeB Try.prog E cx n29_22 st) (codeB Try.prog E cx n29_23) := GE.seq_step (by kernel_rfl)
theorem n29_41s : codeB Try.prog E ⟨f, 65, b, ro⟩ n29_41 st = plainS (runOps Try.prog E b q29_41 (ops [true, true, true, true, true, true, true, false, false] Try.f29) st) := GE.region_step (id := 14) (GE.reg_of (by kernel_rfl)) (by kernel_rfl)
theorem n29_43s : codeB Try.prog E ⟨f, 65, b, ro⟩ n29_43 st = plainS (runOps Try.prog E b q29_43 (ops [true, true, true, true, true, true, true, false, true, false] Try.f29) st) := GE.region_step (id := 15) (GE.reg_of (by kernel_rfl)) (by kernel_rfl)
theorem n29_46s : codeB Try.prog E ⟨f, 65, b, ro⟩ n29_46 st = plainS (runOps Try.prog E b q29_46 (ops [true, true, true, true, true, true, true, false, true, true, false, false] Try.f29) st) := GE.region_step (id := 16) (GE.reg_of (by kernel_rfl)) (by kernel_rfl)
theorem n29_48s : codeB Try.prog E ⟨f, 65, b, ro⟩ n29_48 st = drawS [0, 0, 0, 4, 12, 28, 0, 64, 192, 508, 1023, 2047] (runOpsF Try.prog E b q29_48 (ops [true, true, true, true, true, true, true, false, true, true, false, true, false] Try.f29) st) := GE.draw_step (id := 17) (GE.reg_of (by kernel_rfl)) (by kernel_rfl) (by kernel_rfl) (by kernel_rfl)
theorem n29_49s : codeB Try.prog E ⟨f, 65, b, ro⟩ n29_49 st = plainS (runOps Try.prog E b q29_49 (ops [true, true, true, true, true, true, true, false, true, true, false, true, true] Try.f29) st) := GE.region_step (id := 18) (GE.reg_of (by kernel_rfl)) (by kernel_rfl)
theorem n29_47s : codeB Try.prog E cx n29_47 st = thenS (codeB Try.prog E cx n29_48 st) (codeB Try.prog E cx n29_49) := GE.seq_step (by kernel_rfl)
theorem n29_45s : codeB Try.prog E cx n29_45 st = thenS (codeB Try.prog E cx n29_46 st) (codeB Try.prog E cx n29_47) := GE.seq_step (by kernel_rfl)
theorem n29_50s : codeB Try.prog E cx n29_50 st = some (.normal, st) := GE.skip_step (by kernel_rfl)
theorem n29_44s : codeB Try.prog E cx n29_44 st = condS (codeB Try.prog E cx n29_45) (codeB Try.prog E cx n29_50) (lk st.σ 43) st := GE.cond_step (c := .tmp 43) (by kernel_rfl)
theorem n29_42s : codeB Try.prog E cx n29_42 st = thenS (codeB Try.prog E cx n29_43 st) (codeB Try.prog E cx n29_44) := GE.seq_step (by kernel_rfl)
theorem n29_40s : codeB Try.prog E cx n29_40 st = thenS (codeB Try.prog E cx n29_41 st) (codeB Try.prog E cx n29_42) := GE.seq_step (by kernel_rfl)
theorem n29_52s : codeB Try.prog E ⟨f, 65, b, ro⟩ n29_52 st = plainS (runOps Try.prog E b q29_52 (ops [true, true, true, true, true, true, true, true, false] Try.f29) st) := GE.region_step (id := 19) (GE.reg_of (by kernel_rfl)) (by kernel_rfl)
theorem n29_53s : codeB Try.prog LL ⟨29, 65, b, ro⟩ n29_53 st = normS b ⟨[2, 3], [⟨2, 0, 2, true⟩]⟩ .ret st := GE.ret_step (by kernel_rfl) (by kernel_rfl)
theorem n29_51s : codeB Try.prog E cx n29_51 st = thenS (codeB Try.prog E cx n29_52 st) (codeB Try.prog E cx n29_53) := GE.seq_step (by kernel_rfl)
theorem n29_39s : codeB Try.prog E cx n29_39 st = thenS (codeB Try.prog E cx n29_40 st) (codeB Try.prog E cx n29_51) := GE.seq_step (by kernel_rfl)
theorem n29_20s : codeB Try.prog E cx n29_20 st = thenS (codeB Try.prog E cx n29_21 st) (codeB Try.prog E cx n29_39) := GE.seq_step (by kernel_rfl)
theorem n29_18s : codeB Try.prog E cx n29_18 st = thenS (codeB Try.prog E cx n29_19 st) (codeB Try.prog E cx n29_20) := GE.seq_step (by kernel_rfl)
theorem n29_16s : codeB Try.prog E cx n29_16 st = thenS (codeB Try.prog E cx n29_17 st) (codeB Try.prog E cx n29_18) := GE.seq_step (by kernel_rfl)
theorem n29_14s : codeB Try.prog E cx n29_14 st = thenS (codeB Try.prog E cx n29_15 st) (codeB Try.prog E cx n29_16) := GE.seq_step (by kernel_rfl)
theorem n29_12s : codeB Try.prog E cx n29_12 st = thenS (codeB Try.prog E cx n29_13 st) (codeB Try.prog E cx n29_14) := GE.seq_step (by kernel_rfl)
theorem n29_2s : codeB Try.prog E cx n29_2 st = thenS (codeB Try.prog E cx n29_3 st) (codeB Try.prog E cx n29_12) := GE.seq_step (by kernel_rfl)
theorem n29_0s : codeB Try.prog E cx n29_0 st = thenS (codeB Try.prog E cx n29_1 st) (codeB Try.prog E cx n29_2) := GE.seq_step (by kernel_rfl)
noncomputable def n31_0 : Code := bodyOf Try.f31
noncomputable def n31_1 : Code := cl n31_0
noncomputable def q31_1 : List Oper := opsOf n31_1
noncomputable def n31_2 : Code := cr n31_0
noncomputable def n31_3 : Code := cl n31_2
noncomputable def q31_3 : List Oper := opsOf n31_3
noncomputable def n31_4 : Code := cr n31_2
noncomputable def n31_5 : Code := cl n31_4
noncomputable def q31_5 : List Oper := opsOf n31_5
noncomputable def n31_6 : Code := cr n31_4
noncomputable def n31_7 : Code := cl n31_6
noncomputable def n31_8 : Code := cl n31_7
noncomputable def q31_8 : List Oper := opsOf n31_8
noncomputable def n31_9 : Code := cr n31_7
noncomputable def n31_10 : Code := cl n31_9
noncomputable def n31_11 : Code := cl n31_10
noncomputable def q31_11 : List Oper := opsOf n31_11
noncomputable def n31_12 : Code := cr n31_10
noncomputable def n31_13 : Code := cl n31_12
noncomputable def n31_14 : Code := cl n31_13
noncomputable def q31_14 : List Oper := opsOf n31_14
noncomputable def n31_15 : Code := cr n31_13
noncomputable def n31_16 : Code := cl n31_15
noncomputable def q31_16 : List Oper := opsOf n31_16
noncomputable def n31_17 : Code := cr n31_15
noncomputable def n31_18 : Code := cr n31_12
noncomputable def q31_18 : List Oper := opsOf n31_18
noncomputable def n31_19 : Code := cr n31_9
noncomputable def n31_20 : Code := cr n31_6
noncomputable def n31_21 : Code := cl n31_20
noncomputable def n31_22 : Code := cl n31_21
noncomputable def q31_22 : List Oper := opsOf n31_22
noncomputable def n31_23 : Code := cr n31_21
noncomputable def n31_24 : Code := cl n31_23
noncomputable def n31_25 : Code := cl n31_24
noncomputable def n31_26 : Code := cl n31_25
noncomputable def n31_27 : Code := cl n31_26
noncomputable def q31_27 : List Oper := opsOf n31_27
noncomputable def n31_28 : Code := cr n31_26
noncomputable def n31_29 : Code := cl n31_28
noncomputable def n31_30 : Code := cr n31_28
noncomputable def n31_31 : Code := cr n31_25
noncomputable def n31_32 : Code := cl n31_31
noncomputable def n31_33 : Code := cl n31_32
noncomputable def n31_34 : Code := cl n31_33
noncomputable def q31_34 : List Oper := opsOf n31_34
noncomputable def n31_35 : Code := cr n31_33
noncomputable def n31_36 : Code := cl n31_35
noncomputable def q31_36 : List Oper := opsOf n31_36
noncomputable def n31_37 : Code := cr n31_35
noncomputable def n31_38 : Code := cl n31_37
noncomputable def q31_38 : List Oper := opsOf n31_38
noncomputable def n31_39 : Code := cr n31_37
noncomputable def n31_40 : Code := cl n31_39
noncomputable def n31_41 : Code := cl n31_40
noncomputable def n31_42 : Code := cl n31_41
noncomputable def n31_43 : Code := cl n31_42
noncomputable def n31_44 : Code := cl n31_43
noncomputable def q31_44 : List Oper := opsOf n31_44
noncomputable def n31_45 : Code := cr n31_43
noncomputable def n31_46 : Code := cl n31_45
noncomputable def n31_47 : Code := cr n31_45
noncomputable def n31_48 : Code := cr n31_42
noncomputable def n31_49 : Code := cl n31_48
noncomputable def q31_49 : List Oper := opsOf n31_49
noncomputable def n31_50 : Code := cr n31_39
noncomputable def q31_50 : List Oper := opsOf n31_50
noncomputable def n31_51 : Code := cr n31_31
noncomputable def q31_51 : List Oper := opsOf n31_51
noncomputable def n31_52 : Code := cr n31_20
noncomputable def n31_53 : Code := cl n31_52
noncomputable def q31_53 : List Oper := opsOf n31_53
noncomputable def n31_54 : Code := cr n31_52
noncomputable def n31_55 : Code := cl n31_54
noncomputable def n31_56 : Code := cl n31_55
noncomputable def q31_56 : List Oper := opsOf n31_56
noncomputable def n31_57 : Code := cr n31_55
noncomputable def n31_58 : Code := cl n31_57
noncomputable def n31_59 : Code := cl n31_58
noncomputable def n31_60 : Code := cl n31_59
noncomputable def q31_60 : List Oper := opsOf n31_60
noncomputable def n31_61 : Code := cr n31_59
noncomputable def n31_62 : Code := cl n31_61
noncomputable def n31_63 : Code := cl n31_62
noncomputable def n31_64 : Code := cr n31_62
noncomputable def n31_65 : Code := cr n31_61
noncomputable def n31_66 : Code := cl n31_65
noncomputable def n31_67 : Code := cl n31_66
noncomputable def n31_68 : Code := cl n31_67
noncomputable def q31_68 : List Oper := opsOf n31_68
noncomputable def n31_69 : Code := cr n31_67
noncomputable def n31_70 : Code := cl n31_69
noncomputable def n31_71 : Code := cl n31_70
noncomputable def q31_71 : List Oper := opsOf n31_71
noncomputable def n31_72 : Code := cr n31_70
noncomputable def n31_73 : Code := cl n31_72
noncomputable def q31_73 : List Oper := opsOf n31_73
noncomputable def n31_74 : Code := cr n31_72
noncomputable def n31_75 : Code := cr n31_69
noncomputable def q31_75 : List Oper := opsOf n31_75
noncomputable def n31_76 : Code := cr n31_65
noncomputable def q31_76 : List Oper := opsOf n31_76
noncomputable def n31_77 : Code := cr n31_54
noncomputable def n31_78 : Code := cl n31_77
noncomputable def q31_78 : List Oper := opsOf n31_78
noncomputable def n31_79 : Code := cr n31_77
theorem body31 : Try.f31.body = some n31_0 := by kernel_rfl
theorem run31 (E : Ev) (args : List Value) (h : List Blk) (hl : args.length ≤ 129) : runB Try.prog E 31 args h = endS Try.prog [.tmp 2, .tmp 3, .tmp 4] h.length (codeB Try.prog E ⟨31, 129, h.length, none⟩ n31_0 ⟨enumT 0 args, h, []⟩) := GE.run_step Try.func31 body31 (by kernel_rfl) (by decide) (by kernel_rfl) hl
theorem n31_1s : codeB Try.prog E ⟨f, 129, b, ro⟩ n31_1 st = plainS (runOps Try.prog E b q31_1 (ops [false] Try.f31) st) := GE.region_step (id := 0) (GE.reg_of (by kernel_rfl)) (by kernel_rfl)
theorem n31_3s : codeB Try.prog E ⟨f, 129, b, ro⟩ n31_3 st = plainS (runOps Try.prog E b q31_3 (ops [true, false] Try.f31) st) := GE.region_step (id := 1) (GE.reg_of (by kernel_rfl)) (by kernel_rfl)
theorem n31_5s : codeB Try.prog E ⟨f, 129, b, ro⟩ n31_5 st = plainS (runOps Try.prog E b q31_5 (ops [true, true, false] Try.f31) st) := GE.region_step (id := 2) (GE.reg_of (by kernel_rfl)) (by kernel_rfl)
theorem n31_8s : codeB Try.prog E ⟨f, 129, b, ro⟩ n31_8 st = plainS (runOps Try.prog E b q31_8 (ops [true, true, true, false, false] Try.f31) st) := GE.region_step (id := 3) (GE.reg_of (by kernel_rfl)) (by kernel_rfl)
theorem n31_11s : codeB Try.prog E ⟨f, 129, b, ro⟩ n31_11 st = plainS (runOps Try.prog E b q31_11 (ops [true, true, true, false, true, false, false] Try.f31) st) := GE.region_step (id := 4) (GE.reg_of (by kernel_rfl)) (by kernel_rfl)
theorem n31_14s : codeB Try.prog E ⟨f, 129, b, ro⟩ n31_14 st = plainS (runOps Try.prog E b q31_14 (ops [true, true, true, false, true, false, true, false, false] Try.f31) st) := GE.region_step (id := 5) (GE.reg_of (by kernel_rfl)) (by kernel_rfl)
theorem n31_16s : codeB Try.prog E ⟨f, 129, b, ro⟩ n31_16 st = plainS (runOps Try.prog E b q31_16 (ops [true, true, true, false, true, false, true, false, true, false] Try.f31) st) := GE.region_step (id := 6) (GE.reg_of (by kernel_rfl)) (by kernel_rfl)
theorem n31_17s : codeB Try.prog E cx n31_17 st = some (.normal, st) := GE.skip_step (by kernel_rfl)
theorem n31_15s : codeB Try.prog E cx n31_15 st = condS (codeB Try.prog E cx n31_16) (codeB Try.prog E cx n31_17) (lk st.σ 22) st := GE.cond_step (c := .tmp 22) (by kernel_rfl)
theorem n31_13s : codeB Try.prog E cx n31_13 st = thenS (codeB Try.prog E cx n31_14 st) (codeB Try.prog E cx n31_15) := GE.seq_step (by kernel_rfl)
theorem n31_18s : codeB Try.prog E ⟨f, 129, b, ro⟩ n31_18 st = plainS (runOps Try.prog E b q31_18 (ops [true, true, true, false, true, false, true, true] Try.f31) st) := GE.region_step (id := 7) (GE.reg_of (by kernel_rfl)) (by kernel_rfl)
theorem n31_12s : codeB Try.prog E cx n31_12 st = thenS (codeB Try.prog E cx n31_13 st) (codeB Try.prog E cx n31_18) := GE.seq_step (by kernel_rfl)
theorem n31_10s : codeB Try.prog E cx n31_10 st = thenS (codeB Try.prog E cx n31_11 st) (codeB Try.prog E cx n31_12) := GE.seq_step (by kernel_rfl)
theorem n31_19s : codeB Try.prog E cx n31_19 st = some (.normal, st) := GE.skip_step (by kernel_rfl)
theorem n31_9s : codeB Try.prog E cx n31_9 st = condS (codeB Try.prog E cx n31_10) (codeB Try.prog E cx n31_19) (lk st.σ 17) st := GE.cond_step (c := .tmp 17) (by kernel_rfl)
theorem n31_7s : codeB Try.prog E cx n31_7 st = thenS (codeB Try.prog E cx n31_8 st) (codeB Try.prog E cx n31_9) := GE.seq_step (by kernel_rfl)
theorem n31_22s : codeB Try.prog E ⟨f, 129, b, ro⟩ n31_22 st = plainS (runOps Try.prog E b q31_22 (ops [true, true, true, true, false, false] Try.f31) st) := GE.region_step (id := 8) (GE.reg_of (by kernel_rfl)) (by kernel_rfl)
theorem n31_27s : codeB Try.prog E ⟨f, 129, b, ro⟩ n31_27 st = plainS (runOps Try.prog E b q31_27 (ops [true, true, true, true, false, true, false, false, false, false] Try.f31) st) := GE.region_step (id := 9) (GE.reg_of (by kernel_rfl)) (by kernel_rfl)
theorem n31_29s : codeB Try.prog E cx n31_29 st = some (.normal, st) := GE.skip_step (by kernel_rfl)
theorem n31_30s : codeB Try.prog LL ⟨31, 129, b, ro⟩ n31_30 st = normS b ⟨[1, 2, 3], [⟨2, 0, 1, true⟩, ⟨3, 0, 2, true⟩]⟩ (.exit 0) st := GE.exit_step (by kernel_rfl) (by kernel_rfl)
theorem n31_28s : codeB Try.prog E cx n31_28 st = condS (codeB Try.prog E cx n31_29) (codeB Try.prog E cx n31_30) (lk st.σ 30) st := GE.cond_step (c := .tmp 30) (by kernel_rfl)
theorem n31_26s : codeB Try.prog E cx n31_26 st = thenS (codeB Try.prog E cx n31_27 st) (codeB Try.prog E cx n31_28) := GE.seq_step (by kernel_rfl)
theorem n31_34s : codeB Try.prog E ⟨f, 129, b, ro⟩ n31_34 st = drawS [0, 0, 3, 7, 15, 31, 63, 0, 0, 384, 896, 1920, 3968, 8064, 16256, 32767, 0, 131071] (runOpsF Try.prog E b q31_34 (ops [true, true, true, true, false, true, false, false, true, false, false, false] Try.f31) st) := GE.draw_step (id := 11) (GE.reg_of (by kernel_rfl)) (by kernel_rfl) (by kernel_rfl) (by kernel_rfl)
theorem n31_36s : codeB Try.prog E ⟨f, 129, b, ro⟩ n31_36 st = plainS (runOps Try.prog E b q31_36 (ops [true, true, true, true, false, true, false, false, true, false, false, true, false] Try.f31) st) := GE.region_step (id := 12) (GE.reg_of (by kernel_rfl)) (by kernel_rfl)
theorem n31_38s : codeB Try.prog E ⟨f, 129, b, ro⟩ n31_38 st = plainS (runOps Try.prog E b q31_38 (ops [true, true, true, true, false, true, false, false, true, false, false, true, true, false] Try.f31) st) := GE.region_step (id := 13) (GE.reg_of (by kernel_rfl)) (by kernel_rfl)
theorem q31_44g4 : gd q31_44 4 = some 61 := by kernel_rfl
theorem n31_44s : codeB Try.prog E ⟨f, 129, b, ro⟩ n31_44 st = drawS [0, 0, 2, 7, 15, 31, 31, 127, 255, 511, 31, 1055, 4095, 31, 8223, 31, 31, 98335, 229407, 491551, 1040415, 2097151, 4194303] (runOpsF Try.prog E b q31_44 (ops [true, true, true, true, false, true, false, false, true, false, false, true, true, true, false, false, false, false, false] Try.f31) st) := GE.draw_step (id := 14) (GE.reg_of (by kernel_rfl)) (by kernel_rfl) (by kernel_rfl) (by kernel_rfl)
theorem n31_46s : codeB Try.prog E cx n31_46 st = some (.normal, st) := GE.skip_step (by kernel_rfl)
theorem n31_47s : codeB Try.prog LL ⟨31, 129, b, ro⟩ n31_47 st = normS b ⟨[7, 8, 1, 2, 3, 5, 6], [⟨2, 0, 1, true⟩, ⟨3, 0, 2, true⟩]⟩ (.exit 2) st := GE.exit_step (by kernel_rfl) (by kernel_rfl)
theorem n31_45s : codeB Try.prog E cx n31_45 st = condS (codeB Try.prog E cx n31_46) (codeB Try.prog E cx n31_47) (lk st.σ 79) st := GE.cond_step (c := .tmp 79) (by kernel_rfl)
theorem n31_43s : codeB Try.prog E cx n31_43 st = thenS (codeB Try.prog E cx n31_44 st) (codeB Try.prog E cx n31_45) := GE.seq_step (by kernel_rfl)
theorem n31_49s : codeB Try.prog E ⟨f, 129, b, ro⟩ n31_49 st = plainS (runOps Try.prog E b q31_49 (ops [true, true, true, true, false, true, false, false, true, false, false, true, true, true, false, false, false, true, false] Try.f31) st) := GE.region_step (id := 15) (GE.reg_of (by kernel_rfl)) (by kernel_rfl)
theorem n31_48s : codeB Try.prog E cx n31_48 st = blockS 3 (codeB Try.prog E cx n31_49 st) st := GE.block_step (by kernel_rfl)
theorem n31_42s : codeB Try.prog E cx n31_42 st = thenS (codeB Try.prog E cx n31_43 st) (codeB Try.prog E cx n31_48) := GE.seq_step (by kernel_rfl)
theorem n31_41k : LL.kp (⟨31, 129, b, ro⟩ : Cx).fn (4 * rid n31_42 + 3) = some ⟨[7, 8, 1, 2, 3, 5, 6], [⟨2, 0, 1, true⟩, ⟨3, 0, 2, true⟩]⟩ := by kernel_rfl
theorem n31_41s : codeB Try.prog LL ⟨31, 129, b, ro⟩ n31_41 st = headS b ⟨[7, 8, 1, 2, 3, 5, 6], [⟨2, 0, 1, true⟩, ⟨3, 0, 2, true⟩]⟩ st (lpB Try.prog LL ⟨31, 129, b, ro⟩ n31_41 n31_42) := GE.lpB_step (by kernel_rfl) (n31_41k b ro)
theorem n31_41g : LL.code ⟨31, 129, b, ro⟩ n31_41 st = headS b ⟨[7, 8, 1, 2, 3, 5, 6], [⟨2, 0, 1, true⟩, ⟨3, 0, 2, true⟩]⟩ st (lpB Try.prog LL ⟨31, 129, b, ro⟩ n31_41 n31_42) := GE.lpB_again (by kernel_rfl) (n31_41k b ro)
theorem n31_40s : codeB Try.prog E cx n31_40 st = blockS 2 (codeB Try.prog E cx n31_41 st) st := GE.block_step (by kernel_rfl)
theorem n31_50s : codeB Try.prog E ⟨f, 129, b, ro⟩ n31_50 st = drawS [0, 0, 0, 6, 15, 0, 32, 127, 0, 0, 768, 2047, 4095] (runOpsF Try.prog E b q31_50 (ops [true, true, true, true, false, true, false, false, true, false, false, true, true, true, true] Try.f31) st) := GE.draw_step (id := 16) (GE.reg_of (by kernel_rfl)) (by kernel_rfl) (by kernel_rfl) (by kernel_rfl)
theorem n31_39s : codeB Try.prog E cx n31_39 st = thenS (codeB Try.prog E cx n31_40 st) (codeB Try.prog E cx n31_50) := GE.seq_step (by kernel_rfl)
theorem n31_37s : codeB Try.prog E cx n31_37 st = thenS (codeB Try.prog E cx n31_38 st) (codeB Try.prog E cx n31_39) := GE.seq_step (by kernel_rfl)
theorem n31_35s : codeB Try.prog E cx n31_35 st = thenS (codeB Try.prog E cx n31_36 st) (codeB Try.prog E cx n31_37) := GE.seq_step (by kernel_rfl)
theorem n31_33s : codeB Try.prog E cx n31_33 st = thenS (codeB Try.prog E cx n31_34 st) (codeB Try.prog E cx n31_35) := GE.seq_step (by kernel_rfl)
theorem n31_32s : codeB Try.prog E cx n31_32 st = blockS 1 (codeB Try.prog E cx n31_33 st) st := GE.block_step (by kernel_rfl)
theorem n31_51s : codeB Try.prog E ⟨f, 129, b, ro⟩ n31_51 st = plainS (runOps Try.prog E b q31_51 (ops [true, true, true, true, false, true, false, false, true, true] Try.f31) st) := GE.region_step (id := 10) (GE.reg_of (by kernel_rfl)) (by kernel_rfl)
theorem n31_31s : codeB Try.prog E cx n31_31 st = thenS (codeB Try.prog E cx n31_32 st) (codeB Try.prog E cx n31_51) := GE.seq_step (by kernel_rfl)
theorem n31_25s : codeB Try.prog E cx n31_25 st = thenS (codeB Try.prog E cx n31_26 st) (codeB Try.prog E cx n31_31) := GE.seq_step (by kernel_rfl)
theorem n31_24k : LL.kp (⟨31, 129, b, ro⟩ : Cx).fn (4 * rid n31_25 + 3) = some ⟨[1, 2, 3, 5, 6], [⟨2, 0, 1, true⟩, ⟨3, 0, 2, true⟩]⟩ := by kernel_rfl
theorem n31_24s : codeB Try.prog LL ⟨31, 129, b, ro⟩ n31_24 st = headS b ⟨[1, 2, 3, 5, 6], [⟨2, 0, 1, true⟩, ⟨3, 0, 2, true⟩]⟩ st (lpB Try.prog LL ⟨31, 129, b, ro⟩ n31_24 n31_25) := GE.lpB_step (by kernel_rfl) (n31_24k b ro)
theorem n31_24g : LL.code ⟨31, 129, b, ro⟩ n31_24 st = headS b ⟨[1, 2, 3, 5, 6], [⟨2, 0, 1, true⟩, ⟨3, 0, 2, true⟩]⟩ st (lpB Try.prog LL ⟨31, 129, b, ro⟩ n31_24 n31_25) := GE.lpB_again (by kernel_rfl) (n31_24k b ro)
theorem n31_23s : codeB Try.prog E cx n31_23 st = blockS 0 (codeB Try.prog E cx n31_24 st) st := GE.block_step (by kernel_rfl)
theorem n31_21s : codeB Try.prog E cx n31_21 st = thenS (codeB Try.prog E cx n31_22 st) (codeB Try.prog E cx n31_23) := GE.seq_step (by kernel_rfl)
theorem n31_53s : codeB Try.prog E ⟨f, 129, b, ro⟩ n31_53 st = plainS (runOps Try.prog E b q31_53 (ops [true, true, true, true, true, false] Try.f31) st) := GE.region_step (id := 17) (GE.reg_of (by kernel_rfl)) (by kernel_rfl)
theorem n31_56s : codeB Try.prog E ⟨f, 129, b, ro⟩ n31_56 st = plainS (runOps Try.prog E b q31_56 (ops [true, true, true, true, true, true, false, false] Try.f31) st) := GE.region_step (id := 18) (GE.reg_of (by kernel_rfl)) (by kernel_rfl)
theorem n31_60s : codeB Try.prog E ⟨f, 129, b, ro⟩ n31_60 st = plainS (runOps Try.prog E b q31_60 (ops [true, true, true, true, true, true, false, true, false, false, false] Try.f31) st) := GE.region_step (id := 19) (GE.reg_of (by kernel_rfl)) (by kernel_rfl)
theorem n31_63s : codeB Try.prog E cx n31_63 st = some (.normal, st) := GE.skip_step (by kernel_rfl)
theorem n31_64s : codeB Try.prog LL ⟨31, 129, b, ro⟩ n31_64 st = normS b ⟨[2, 3, 4], [⟨2, 0, 1, true⟩, ⟨3, 0, 2, true⟩]⟩ (.exit 4) st := GE.exit_step (by kernel_rfl) (by kernel_rfl)
theorem n31_62s : codeB Try.prog E cx n31_62 st = condS (codeB Try.prog E cx n31_63) (codeB Try.prog E cx n31_64) (lk st.σ 97) st := GE.cond_step (c := .tmp 97) (by kernel_rfl)
theorem n31_68s : codeB Try.prog E ⟨f, 129, b, ro⟩ n31_68 st = plainS (runOps Try.prog E b q31_68 (ops [true, true, true, true, true, true, false, true, false, false, true, true, false, false, false] Try.f31) st) := GE.region_step (id := 20) (GE.reg_of (by kernel_rfl)) (by kernel_rfl)
theorem n31_71s : codeB Try.prog E ⟨f, 129, b, ro⟩ n31_71 st = plainS (runOps Try.prog E b q31_71 (ops [true, true, true, true, true, true, false, true, false, false, true, true, false, false, true, false, false] Try.f31) st) := GE.region_step (id := 21) (GE.reg_of (by kernel_rfl)) (by kernel_rfl)
theorem n31_73s : codeB Try.prog E ⟨f, 129, b, ro⟩ n31_73 st = plainS (runOps Try.prog E b q31_73 (ops [true, true, true, true, true, true, false, true, false, false, true, true, false, false, true, false, true, false] Try.f31) st) := GE.region_step (id := 22) (GE.reg_of (by kernel_rfl)) (by kernel_rfl)
theorem n31_74s : codeB Try.prog E cx n31_74 st = some (.normal, st) := GE.skip_step (by kernel_rfl)
theorem n31_72s : codeB Try.prog E cx n31_72 st = condS (codeB Try.prog E cx n31_73) (codeB Try.prog E cx n31_74) (lk st.σ 101) st := GE.cond_step (c := .tmp 101) (by kernel_rfl)
theorem n31_70s : codeB Try.prog E cx n31_70 st = thenS (codeB Try.prog E cx n31_71 st) (codeB Try.prog E cx n31_72) := GE.seq_step (by kernel_rfl)
theorem q31_75g1 : gd q31_75 1 = some 111 := by kernel_rfl
theorem q31_75g8 : gd q31_75 8 = some 118 := by kernel_rfl
theorem n31_75s : codeB Try.prog E ⟨f, 129, b, ro⟩ n31_75 st = plainS (runOps Try.prog E b q31_75 (ops [true, true, true, true, true, true, false, true, false, false, true, true, false, false, true, true] Try.f31) st) := GE.region_step (id := 23) (GE.reg_of (by kernel_rfl)) (by kernel_rfl)
theorem n31_69s : codeB Try.prog E cx n31_69 st = thenS (codeB Try.prog E cx n31_70 st) (codeB Try.prog E cx n31_75) := GE.seq_step (by kernel_rfl)
theorem n31_67s : codeB Try.prog E cx n31_67 st = thenS (codeB Try.prog E cx n31_68 st) (codeB Try.prog E cx n31_69) := GE.seq_step (by kernel_rfl)
theorem n31_66s : codeB Try.prog E cx n31_66 st = blockS 5 (codeB Try.prog E cx n31_67 st) st := GE.block_step (by kernel_rfl)
theorem n31_76s : codeB Try.prog E ⟨f, 129, b, ro⟩ n31_76 st = plainS (runOps Try.prog E b q31_76 (ops [true, true, true, true, true, true, false, true, false, false, true, true, true] Try.f31) st) := GE.region_step (id := 24) (GE.reg_of (by kernel_rfl)) (by kernel_rfl)
theorem n31_65s : codeB Try.prog E cx n31_65 st = thenS (codeB Try.prog E cx n31_66 st) (codeB Try.prog E cx n31_76) := GE.seq_step (by kernel_rfl)
theorem n31_61s : codeB Try.prog E cx n31_61 st = thenS (codeB Try.prog E cx n31_62 st) (codeB Try.prog E cx n31_65) := GE.seq_step (by kernel_rfl)
theorem n31_59s : codeB Try.prog E cx n31_59 st = thenS (codeB Try.prog E cx n31_60 st) (codeB Try.prog E cx n31_61) := GE.seq_step (by kernel_rfl)
theorem n31_58k : LL.kp (⟨31, 129, b, ro⟩ : Cx).fn (4 * rid n31_59 + 3) = some ⟨[1, 2, 3, 4, 95, 96], [⟨2, 0, 1, true⟩, ⟨3, 0, 2, true⟩]⟩ := by kernel_rfl
theorem n31_58s : codeB Try.prog LL ⟨31, 129, b, ro⟩ n31_58 st = headS b ⟨[1, 2, 3, 4, 95, 96], [⟨2, 0, 1, true⟩, ⟨3, 0, 2, true⟩]⟩ st (lpB Try.prog LL ⟨31, 129, b, ro⟩ n31_58 n31_59) := GE.lpB_step (by kernel_rfl) (n31_58k b ro)
theorem n31_58g : LL.code ⟨31, 129, b, ro⟩ n31_58 st = headS b ⟨[1, 2, 3, 4, 95, 96], [⟨2, 0, 1, true⟩, ⟨3, 0, 2, true⟩]⟩ st (lpB Try.prog LL ⟨31, 129, b, ro⟩ n31_58 n31_59) := GE.lpB_again (by kernel_rfl) (n31_58k b ro)
theorem n31_57s : codeB Try.prog E cx n31_57 st = blockS 4 (codeB Try.prog E cx n31_58 st) st := GE.block_step (by kernel_rfl)
theorem n31_55s : codeB Try.prog E cx n31_55 st = thenS (codeB Try.prog E cx n31_56 st) (codeB Try.prog E cx n31_57) := GE.seq_step (by kernel_rfl)
theorem n31_78s : codeB Try.prog E ⟨f, 129, b, ro⟩ n31_78 st = plainS (runOps Try.prog E b q31_78 (ops [true, true, true, true, true, true, true, false] Try.f31) st) := GE.region_step (id := 25) (GE.reg_of (by kernel_rfl)) (by kernel_rfl)
theorem n31_79s : codeB Try.prog LL ⟨31, 129, b, ro⟩ n31_79 st = normS b ⟨[2, 3, 4], [⟨2, 0, 1, true⟩, ⟨3, 0, 2, true⟩]⟩ .ret st := GE.ret_step (by kernel_rfl) (by kernel_rfl)
theorem n31_77s : codeB Try.prog E cx n31_77 st = thenS (codeB Try.prog E cx n31_78 st) (codeB Try.prog E cx n31_79) := GE.seq_step (by kernel_rfl)
theorem n31_54s : codeB Try.prog E cx n31_54 st = thenS (codeB Try.prog E cx n31_55 st) (codeB Try.prog E cx n31_77) := GE.seq_step (by kernel_rfl)
theorem n31_52s : codeB Try.prog E cx n31_52 st = thenS (codeB Try.prog E cx n31_53 st) (codeB Try.prog E cx n31_54) := GE.seq_step (by kernel_rfl)
theorem n31_20s : codeB Try.prog E cx n31_20 st = thenS (codeB Try.prog E cx n31_21 st) (codeB Try.prog E cx n31_52) := GE.seq_step (by kernel_rfl)
theorem n31_6s : codeB Try.prog E cx n31_6 st = thenS (codeB Try.prog E cx n31_7 st) (codeB Try.prog E cx n31_20) := GE.seq_step (by kernel_rfl)
theorem n31_4s : codeB Try.prog E cx n31_4 st = thenS (codeB Try.prog E cx n31_5 st) (codeB Try.prog E cx n31_6) := GE.seq_step (by kernel_rfl)
theorem n31_2s : codeB Try.prog E cx n31_2 st = thenS (codeB Try.prog E cx n31_3 st) (codeB Try.prog E cx n31_4) := GE.seq_step (by kernel_rfl)
theorem n31_0s : codeB Try.prog E cx n31_0 st = thenS (codeB Try.prog E cx n31_1 st) (codeB Try.prog E cx n31_2) := GE.seq_step (by kernel_rfl)
noncomputable def n33_0 : Code := bodyOf Try.f33
noncomputable def n33_1 : Code := cl n33_0
noncomputable def q33_1 : List Oper := opsOf n33_1
noncomputable def n33_2 : Code := cr n33_0
noncomputable def n33_3 : Code := cl n33_2
noncomputable def q33_3 : List Oper := opsOf n33_3
noncomputable def n33_4 : Code := cr n33_2
theorem body33 : Try.f33.body = some n33_0 := by kernel_rfl
theorem run33 (E : Ev) (args : List Value) (h : List Blk) (hl : args.length ≤ 16) : runB Try.prog E 33 args h = endS Try.prog [.tmp 4] h.length (codeB Try.prog E ⟨33, 16, h.length, none⟩ n33_0 ⟨enumT 0 args, h, []⟩) := GE.run_step Try.func33 body33 (by kernel_rfl) (by decide) (by kernel_rfl) hl
theorem n33_1s : codeB Try.prog E ⟨f, 16, b, ro⟩ n33_1 st = plainS (runOps Try.prog E b q33_1 (ops [false] Try.f33) st) := GE.region_step (id := 0) (GE.reg_of (by kernel_rfl)) (by kernel_rfl)
theorem n33_3s : codeB Try.prog E ⟨f, 16, b, ro⟩ n33_3 st = plainS (runOps Try.prog E b q33_3 (ops [true, false] Try.f33) st) := GE.region_step (id := 1) (GE.reg_of (by kernel_rfl)) (by kernel_rfl)
theorem n33_4s : codeB Try.prog LL ⟨33, 16, b, ro⟩ n33_4 st = normS b ⟨[4], []⟩ .ret st := GE.ret_step (by kernel_rfl) (by kernel_rfl)
theorem n33_2s : codeB Try.prog E cx n33_2 st = thenS (codeB Try.prog E cx n33_3 st) (codeB Try.prog E cx n33_4) := GE.seq_step (by kernel_rfl)
theorem n33_0s : codeB Try.prog E cx n33_0 st = thenS (codeB Try.prog E cx n33_1 st) (codeB Try.prog E cx n33_2) := GE.seq_step (by kernel_rfl)
noncomputable def n35_0 : Code := bodyOf Try.f35
noncomputable def n35_1 : Code := cl n35_0
noncomputable def q35_1 : List Oper := opsOf n35_1
noncomputable def n35_2 : Code := cr n35_0
noncomputable def n35_3 : Code := cl n35_2
noncomputable def q35_3 : List Oper := opsOf n35_3
noncomputable def n35_4 : Code := cr n35_2
theorem body35 : Try.f35.body = some n35_0 := by kernel_rfl
theorem run35 (E : Ev) (args : List Value) (h : List Blk) (hl : args.length ≤ 8) : runB Try.prog E 35 args h = endS Try.prog [.cell 4 24] h.length (codeB Try.prog E ⟨35, 8, h.length, none⟩ n35_0 ⟨enumT 0 args, h, []⟩) := GE.run_step Try.func35 body35 (by kernel_rfl) (by decide) (by kernel_rfl) hl
theorem n35_1s : codeB Try.prog E ⟨f, 8, b, ro⟩ n35_1 st = plainS (runOps Try.prog E b q35_1 (ops [false] Try.f35) st) := GE.region_step (id := 0) (GE.reg_of (by kernel_rfl)) (by kernel_rfl)
theorem n35_3s : codeB Try.prog E ⟨f, 8, b, ro⟩ n35_3 st = plainS (runOps Try.prog E b q35_3 (ops [true, false] Try.f35) st) := GE.region_step (id := 1) (GE.reg_of (by kernel_rfl)) (by kernel_rfl)
theorem n35_4s : codeB Try.prog LL ⟨35, 8, b, ro⟩ n35_4 st = normS b ⟨[4], []⟩ .ret st := GE.ret_step (by kernel_rfl) (by kernel_rfl)
theorem n35_2s : codeB Try.prog E cx n35_2 st = thenS (codeB Try.prog E cx n35_3 st) (codeB Try.prog E cx n35_4) := GE.seq_step (by kernel_rfl)
theorem n35_0s : codeB Try.prog E cx n35_0 st = thenS (codeB Try.prog E cx n35_1 st) (codeB Try.prog E cx n35_2) := GE.seq_step (by kernel_rfl)
noncomputable def n38_0 : Code := bodyOf Try.f38
noncomputable def n38_1 : Code := cl n38_0
noncomputable def q38_1 : List Oper := opsOf n38_1
noncomputable def n38_2 : Code := cr n38_0
noncomputable def n38_3 : Code := cl n38_2
noncomputable def q38_3 : List Oper := opsOf n38_3
noncomputable def n38_4 : Code := cr n38_2
noncomputable def n38_5 : Code := cl n38_4
noncomputable def n38_6 : Code := cl n38_5
noncomputable def q38_6 : List Oper := opsOf n38_6
noncomputable def n38_7 : Code := cr n38_5
noncomputable def n38_8 : Code := cl n38_7
noncomputable def n38_9 : Code := cl n38_8
noncomputable def q38_9 : List Oper := opsOf n38_9
noncomputable def n38_10 : Code := cr n38_8
noncomputable def n38_11 : Code := cl n38_10
noncomputable def n38_12 : Code := cl n38_11
noncomputable def q38_12 : List Oper := opsOf n38_12
noncomputable def n38_13 : Code := cr n38_11
noncomputable def q38_13 : List Oper := opsOf n38_13
noncomputable def n38_14 : Code := cr n38_4
noncomputable def n38_15 : Code := cl n38_14
noncomputable def q38_15 : List Oper := opsOf n38_15
noncomputable def n38_16 : Code := cr n38_14
theorem body38 : Try.f38.body = some n38_0 := by kernel_rfl
theorem run38 (E : Ev) (args : List Value) (h : List Blk) (hl : args.length ≤ 27) : runB Try.prog E 38 args h = endS Try.prog [.tmp 4] h.length (codeB Try.prog E ⟨38, 27, h.length, none⟩ n38_0 ⟨enumT 0 args, h, []⟩) := GE.run_step Try.func38 body38 (by kernel_rfl) (by decide) (by kernel_rfl) hl
theorem n38_1s : codeB Try.prog E ⟨f, 27, b, ro⟩ n38_1 st = plainS (runOps Try.prog E b q38_1 (ops [false] Try.f38) st) := GE.region_step (id := 0) (GE.reg_of (by kernel_rfl)) (by kernel_rfl)
theorem n38_3s : codeB Try.prog E ⟨f, 27, b, ro⟩ n38_3 st = plainS (runOps Try.prog E b q38_3 (ops [true, false] Try.f38) st) := GE.region_step (id := 1) (GE.reg_of (by kernel_rfl)) (by kernel_rfl)
theorem n38_6s : codeB Try.prog E ⟨f, 27, b, ro⟩ n38_6 st = plainS (runOps Try.prog E b q38_6 (ops [true, true, false, false] Try.f38) st) := GE.region_step (id := 2) (GE.reg_of (by kernel_rfl)) (by kernel_rfl)
theorem n38_9s : codeB Try.prog E ⟨f, 27, b, ro⟩ n38_9 st = plainS (runOps Try.prog E b q38_9 (ops [true, true, false, true, false, false] Try.f38) st) := GE.region_step (id := 3) (GE.reg_of (by kernel_rfl)) (by kernel_rfl)
theorem n38_12s : codeB Try.prog E ⟨f, 27, b, ro⟩ n38_12 st = plainS (runOps Try.prog E b q38_12 (ops [true, true, false, true, false, true, false, false] Try.f38) st) := GE.region_step (id := 4) (GE.reg_of (by kernel_rfl)) (by kernel_rfl)
theorem n38_13s : codeB Try.prog E ⟨f, 27, b, ro⟩ n38_13 st = plainS (runOps Try.prog E b q38_13 (ops [true, true, false, true, false, true, false, true] Try.f38) st) := GE.region_step (id := 5) (GE.reg_of (by kernel_rfl)) (by kernel_rfl)
theorem n38_11s : codeB Try.prog E cx n38_11 st = thenS (codeB Try.prog E cx n38_12 st) (codeB Try.prog E cx n38_13) := GE.seq_step (by kernel_rfl)
theorem n38_10s : codeB Try.prog E cx n38_10 st = blockS 1 (codeB Try.prog E cx n38_11 st) st := GE.block_step (by kernel_rfl)
theorem n38_8e : n38_8 = .rangeFunc (.tmp 10) #[11, 12] n38_9 n38_10 := by kernel_rfl
theorem n38_8k : (ue n38_9).1 ++ (ue n38_10).1 = [12, 5, 3, 8, 6] := by kernel_rfl
theorem n38_7s : codeB Try.prog E cx n38_7 st = blockS 0 (codeB Try.prog E cx n38_8 st) st := GE.block_step (by kernel_rfl)
theorem n38_5s : codeB Try.prog E cx n38_5 st = thenS (codeB Try.prog E cx n38_6 st) (codeB Try.prog E cx n38_7) := GE.seq_step (by kernel_rfl)
theorem n38_15s : codeB Try.prog E ⟨f, 27, b, ro⟩ n38_15 st = plainS (runOps Try.prog E b q38_15 (ops [true, true, true, false] Try.f38) st) := GE.region_step (id := 6) (GE.reg_of (by kernel_rfl)) (by kernel_rfl)
theorem n38_16s : codeB Try.prog LL ⟨38, 27, b, ro⟩ n38_16 st = normS b ⟨[4], []⟩ .ret st := GE.ret_step (by kernel_rfl) (by kernel_rfl)
theorem n38_14s : codeB Try.prog E cx n38_14 st = thenS (codeB Try.prog E cx n38_15 st) (codeB Try.prog E cx n38_16) := GE.seq_step (by kernel_rfl)
theorem n38_4s : codeB Try.prog E cx n38_4 st = thenS (codeB Try.prog E cx n38_5 st) (codeB Try.prog E cx n38_14) := GE.seq_step (by kernel_rfl)
theorem n38_2s : codeB Try.prog E cx n38_2 st = thenS (codeB Try.prog E cx n38_3 st) (codeB Try.prog E cx n38_4) := GE.seq_step (by kernel_rfl)
theorem n38_0s : codeB Try.prog E cx n38_0 st = thenS (codeB Try.prog E cx n38_1 st) (codeB Try.prog E cx n38_2) := GE.seq_step (by kernel_rfl)
noncomputable def n41_0 : Code := bodyOf Try.f41
noncomputable def n41_1 : Code := cl n41_0
noncomputable def q41_1 : List Oper := opsOf n41_1
noncomputable def n41_2 : Code := cr n41_0
noncomputable def n41_3 : Code := cl n41_2
noncomputable def q41_3 : List Oper := opsOf n41_3
noncomputable def n41_4 : Code := cr n41_2
noncomputable def n41_5 : Code := cl n41_4
noncomputable def q41_5 : List Oper := opsOf n41_5
noncomputable def n41_6 : Code := cr n41_4
theorem body41 : Try.f41.body = some n41_0 := by kernel_rfl
theorem run41 (E : Ev) (args : List Value) (h : List Blk) (hl : args.length ≤ 19) : runB Try.prog E 41 args h = endS Try.prog [.tmp 2] h.length (codeB Try.prog E ⟨41, 19, h.length, none⟩ n41_0 ⟨enumT 0 args, h, []⟩) := GE.run_step Try.func41 body41 (by kernel_rfl) (by decide) (by kernel_rfl) hl
theorem n41_1s : codeB Try.prog E ⟨f, 19, b, ro⟩ n41_1 st = plainS (runOps Try.prog E b q41_1 (ops [false] Try.f41) st) := GE.region_step (id := 0) (GE.reg_of (by kernel_rfl)) (by kernel_rfl)
theorem n41_3s : codeB Try.prog E ⟨f, 19, b, ro⟩ n41_3 st = plainS (runOps Try.prog E b q41_3 (ops [true, false] Try.f41) st) := GE.region_step (id := 1) (GE.reg_of (by kernel_rfl)) (by kernel_rfl)
theorem n41_5s : codeB Try.prog E ⟨f, 19, b, ro⟩ n41_5 st = plainS (runOps Try.prog E b q41_5 (ops [true, true, false] Try.f41) st) := GE.region_step (id := 2) (GE.reg_of (by kernel_rfl)) (by kernel_rfl)
theorem n41_6s : codeB Try.prog LL ⟨41, 19, b, ro⟩ n41_6 st = normS b ⟨[2], [⟨2, 0, 1, true⟩]⟩ .ret st := GE.ret_step (by kernel_rfl) (by kernel_rfl)
theorem n41_4s : codeB Try.prog E cx n41_4 st = thenS (codeB Try.prog E cx n41_5 st) (codeB Try.prog E cx n41_6) := GE.seq_step (by kernel_rfl)
theorem n41_2s : codeB Try.prog E cx n41_2 st = thenS (codeB Try.prog E cx n41_3 st) (codeB Try.prog E cx n41_4) := GE.seq_step (by kernel_rfl)
theorem n41_0s : codeB Try.prog E cx n41_0 st = thenS (codeB Try.prog E cx n41_1 st) (codeB Try.prog E cx n41_2) := GE.seq_step (by kernel_rfl)
noncomputable def n43_0 : Code := bodyOf Try.f43
noncomputable def n43_1 : Code := cl n43_0
noncomputable def q43_1 : List Oper := opsOf n43_1
noncomputable def n43_2 : Code := cr n43_0
noncomputable def n43_3 : Code := cl n43_2
noncomputable def q43_3 : List Oper := opsOf n43_3
noncomputable def n43_4 : Code := cr n43_2
noncomputable def n43_5 : Code := cl n43_4
noncomputable def q43_5 : List Oper := opsOf n43_5
noncomputable def n43_6 : Code := cr n43_4
theorem body43 : Try.f43.body = some n43_0 := by kernel_rfl
theorem run43 (E : Ev) (args : List Value) (h : List Blk) (hl : args.length ≤ 11) : runB Try.prog E 43 args h = endS Try.prog [.tmp 2] h.length (codeB Try.prog E ⟨43, 11, h.length, none⟩ n43_0 ⟨enumT 0 args, h, []⟩) := GE.run_step Try.func43 body43 (by kernel_rfl) (by decide) (by kernel_rfl) hl
theorem n43_1s : codeB Try.prog E ⟨f, 11, b, ro⟩ n43_1 st = plainS (runOps Try.prog E b q43_1 (ops [false] Try.f43) st) := GE.region_step (id := 0) (GE.reg_of (by kernel_rfl)) (by kernel_rfl)
theorem n43_3s : codeB Try.prog E ⟨f, 11, b, ro⟩ n43_3 st = plainS (runOps Try.prog E b q43_3 (ops [true, false] Try.f43) st) := GE.region_step (id := 1) (GE.reg_of (by kernel_rfl)) (by kernel_rfl)
theorem n43_5s : codeB Try.prog E ⟨f, 11, b, ro⟩ n43_5 st = plainS (runOps Try.prog E b q43_5 (ops [true, true, false] Try.f43) st) := GE.region_step (id := 2) (GE.reg_of (by kernel_rfl)) (by kernel_rfl)
theorem n43_6s : codeB Try.prog LL ⟨43, 11, b, ro⟩ n43_6 st = normS b ⟨[2], [⟨2, 0, 1, false⟩]⟩ .ret st := GE.ret_step (by kernel_rfl) (by kernel_rfl)
theorem n43_4s : codeB Try.prog E cx n43_4 st = thenS (codeB Try.prog E cx n43_5 st) (codeB Try.prog E cx n43_6) := GE.seq_step (by kernel_rfl)
theorem n43_2s : codeB Try.prog E cx n43_2 st = thenS (codeB Try.prog E cx n43_3 st) (codeB Try.prog E cx n43_4) := GE.seq_step (by kernel_rfl)
theorem n43_0s : codeB Try.prog E cx n43_0 st = thenS (codeB Try.prog E cx n43_1 st) (codeB Try.prog E cx n43_2) := GE.seq_step (by kernel_rfl)
noncomputable def n45_0 : Code := bodyOf Try.f45
noncomputable def n45_1 : Code := cl n45_0
noncomputable def q45_1 : List Oper := opsOf n45_1
noncomputable def n45_2 : Code := cr n45_0
noncomputable def n45_3 : Code := cl n45_2
noncomputable def q45_3 : List Oper := opsOf n45_3
noncomputable def n45_4 : Code := cr n45_2
theorem body45 : Try.f45.body = some n45_0 := by kernel_rfl
theorem run45 (E : Ev) (args : List Value) (h : List Blk) (hl : args.length ≤ 9) : runB Try.prog E 45 args h = endS Try.prog [.tmp 4] h.length (codeB Try.prog E ⟨45, 9, h.length, none⟩ n45_0 ⟨enumT 0 args, h, []⟩) := GE.run_step Try.func45 body45 (by kernel_rfl) (by decide) (by kernel_rfl) hl
theorem n45_1s : codeB Try.prog E ⟨f, 9, b, ro⟩ n45_1 st = plainS (runOps Try.prog E b q45_1 (ops [false] Try.f45) st) := GE.region_step (id := 0) (GE.reg_of (by kernel_rfl)) (by kernel_rfl)
theorem n45_3s : codeB Try.prog E ⟨f, 9, b, ro⟩ n45_3 st = plainS (runOps Try.prog E b q45_3 (ops [true, false] Try.f45) st) := GE.region_step (id := 1) (GE.reg_of (by kernel_rfl)) (by kernel_rfl)
theorem n45_4s : codeB Try.prog LL ⟨45, 9, b, ro⟩ n45_4 st = normS b ⟨[4], []⟩ .ret st := GE.ret_step (by kernel_rfl) (by kernel_rfl)
theorem n45_2s : codeB Try.prog E cx n45_2 st = thenS (codeB Try.prog E cx n45_3 st) (codeB Try.prog E cx n45_4) := GE.seq_step (by kernel_rfl)
theorem n45_0s : codeB Try.prog E cx n45_0 st = thenS (codeB Try.prog E cx n45_1 st) (codeB Try.prog E cx n45_2) := GE.seq_step (by kernel_rfl)
noncomputable def n46_0 : Code := bodyOf Try.f46
noncomputable def n46_1 : Code := cl n46_0
noncomputable def q46_1 : List Oper := opsOf n46_1
noncomputable def n46_2 : Code := cr n46_0
noncomputable def n46_3 : Code := cl n46_2
noncomputable def q46_3 : List Oper := opsOf n46_3
noncomputable def n46_4 : Code := cr n46_2
theorem body46 : Try.f46.body = some n46_0 := by kernel_rfl
theorem run46 (E : Ev) (args : List Value) (h : List Blk) (hl : args.length ≤ 9) : runB Try.prog E 46 args h = endS Try.prog [.tmp 2] h.length (codeB Try.prog E ⟨46, 9, h.length, none⟩ n46_0 ⟨enumT 0 args, h, []⟩) := GE.run_step Try.func46 body46 (by kernel_rfl) (by decide) (by kernel_rfl) hl
theorem n46_1s : codeB Try.prog E ⟨f, 9, b, ro⟩ n46_1 st = plainS (runOps Try.prog E b q46_1 (ops [false] Try.f46) st) := GE.region_step (id := 0) (GE.reg_of (by kernel_rfl)) (by kernel_rfl)
theorem q46_3g2 : gd q46_3 2 = some 5 := by kernel_rfl
theorem n46_3s : codeB Try.prog E ⟨f, 9, b, ro⟩ n46_3 st = plainS (runOps Try.prog E b q46_3 (ops [true, false] Try.f46) st) := GE.region_step (id := 1) (GE.reg_of (by kernel_rfl)) (by kernel_rfl)
theorem n46_4s : codeB Try.prog LL ⟨46, 9, b, ro⟩ n46_4 st = normS b ⟨[2], []⟩ .ret st := GE.ret_step (by kernel_rfl) (by kernel_rfl)
theorem n46_2s : codeB Try.prog E cx n46_2 st = thenS (codeB Try.prog E cx n46_3 st) (codeB Try.prog E cx n46_4) := GE.seq_step (by kernel_rfl)
theorem n46_0s : codeB Try.prog E cx n46_0 st = thenS (codeB Try.prog E cx n46_1 st) (codeB Try.prog E cx n46_2) := GE.seq_step (by kernel_rfl)
noncomputable def n48_0 : Code := bodyOf Try.f48
noncomputable def n48_1 : Code := cl n48_0
noncomputable def q48_1 : List Oper := opsOf n48_1
noncomputable def n48_2 : Code := cr n48_0
noncomputable def n48_3 : Code := cl n48_2
noncomputable def q48_3 : List Oper := opsOf n48_3
noncomputable def n48_4 : Code := cr n48_2
noncomputable def n48_5 : Code := cl n48_4
noncomputable def q48_5 : List Oper := opsOf n48_5
noncomputable def n48_6 : Code := cr n48_4
noncomputable def n48_7 : Code := cl n48_6
noncomputable def n48_8 : Code := cl n48_7
noncomputable def q48_8 : List Oper := opsOf n48_8
noncomputable def n48_9 : Code := cr n48_7
noncomputable def n48_10 : Code := cl n48_9
noncomputable def n48_11 : Code := cl n48_10
noncomputable def q48_11 : List Oper := opsOf n48_11
noncomputable def n48_12 : Code := cr n48_10
noncomputable def n48_13 : Code := cl n48_12
noncomputable def n48_14 : Code := cl n48_13
noncomputable def n48_15 : Code := cl n48_14
noncomputable def q48_15 : List Oper := opsOf n48_15
noncomputable def n48_16 : Code := cr n48_14
noncomputable def n48_17 : Code := cl n48_16
noncomputable def n48_18 : Code := cr n48_16
noncomputable def n48_19 : Code := cr n48_13
noncomputable def n48_20 : Code := cl n48_19
noncomputable def n48_21 : Code := cl n48_20
noncomputable def q48_21 : List Oper := opsOf n48_21
noncomputable def n48_22 : Code := cr n48_20
noncomputable def n48_23 : Code := cl n48_22
noncomputable def q48_23 : List Oper := opsOf n48_23
noncomputable def n48_24 : Code := cr n48_22
noncomputable def n48_25 : Code := cr n48_19
noncomputable def q48_25 : List Oper := opsOf n48_25
noncomputable def n48_26 : Code := cr n48_6
noncomputable def n48_27 : Code := cl n48_26
noncomputable def q48_27 : List Oper := opsOf n48_27
noncomputable def n48_28 : Code := cr n48_26
theorem body48 : Try.f48.body = some n48_0 := by kernel_rfl
theorem run48 (E : Ev) (args : List Value) (h : List Blk) (hl : args.length ≤ 24) : runB Try.prog E 48 args h = endS Try.prog [.tmp 2] h.length (codeB Try.prog E ⟨48, 24, h.length, none⟩ n48_0 ⟨enumT 0 args, h, []⟩) := GE.run_step Try.func48 body48 (by kernel_rfl) (by decide) (by kernel_rfl) hl
theorem n48_1s : codeB Try.prog E ⟨f, 24, b, ro⟩ n48_1 st = plainS (runOps Try.prog E b q48_1 (ops [false] Try.f48) st) := GE.region_step (id := 0) (GE.reg_of (by kernel_rfl)) (by kernel_rfl)
theorem n48_3s : codeB Try.prog E ⟨f, 24, b, ro⟩ n48_3 st = plainS (runOps Try.prog E b q48_3 (ops [true, false] Try.f48) st) := GE.region_step (id := 1) (GE.reg_of (by kernel_rfl)) (by kernel_rfl)
theorem n48_5s : codeB Try.prog E ⟨f, 24, b, ro⟩ n48_5 st = plainS (runOps Try.prog E b q48_5 (ops [true, true, false] Try.f48) st) := GE.region_step (id := 2) (GE.reg_of (by kernel_rfl)) (by kernel_rfl)
theorem n48_8s : codeB Try.prog E ⟨f, 24, b, ro⟩ n48_8 st = plainS (runOps Try.prog E b q48_8 (ops [true, true, true, false, false] Try.f48) st) := GE.region_step (id := 3) (GE.reg_of (by kernel_rfl)) (by kernel_rfl)
theorem n48_11s : codeB Try.prog E ⟨f, 24, b, ro⟩ n48_11 st = plainS (runOps Try.prog E b q48_11 (ops [true, true, true, false, true, false, false] Try.f48) st) := GE.region_step (id := 4) (GE.reg_of (by kernel_rfl)) (by kernel_rfl)
theorem n48_15s : codeB Try.prog E ⟨f, 24, b, ro⟩ n48_15 st = plainS (runOps Try.prog E b q48_15 (ops [true, true, true, false, true, false, true, false, false, false] Try.f48) st) := GE.region_step (id := 5) (GE.reg_of (by kernel_rfl)) (by kernel_rfl)
theorem n48_17s : codeB Try.prog LL ⟨48, 24, b, ro⟩ n48_17 st = normS b ⟨[], []⟩ (.exit 1) st := GE.exit_step (by kernel_rfl) (by kernel_rfl)
theorem n48_18s : codeB Try.prog E cx n48_18 st = some (.normal, st) := GE.skip_step (by kernel_rfl)
theorem n48_16s : codeB Try.prog E cx n48_16 st = condS (codeB Try.prog E cx n48_17) (codeB Try.prog E cx n48_18) (lk st.σ 11) st := GE.cond_step (c := .tmp 11) (by kernel_rfl)
theorem n48_14s : codeB Try.prog E cx n48_14 st = thenS (codeB Try.prog E cx n48_15 st) (codeB Try.prog E cx n48_16) := GE.seq_step (by kernel_rfl)
theorem q48_21g3 : gd q48_21 3 = some 15 := by kernel_rfl
theorem n48_21s : codeB Try.prog E ⟨f, 24, b, ro⟩ n48_21 st = plainS (runOps Try.prog E b q48_21 (ops [true, true, true, false, true, false, true, false, true, false, false] Try.f48) st) := GE.region_step (id := 6) (GE.reg_of (by kernel_rfl)) (by kernel_rfl)
theorem n48_23s : codeB Try.prog E ⟨f, 24, b, ro⟩ n48_23 st = plainS (runOps Try.prog E b q48_23 (ops [true, true, true, false, true, false, true, false, true, false, true, false] Try.f48) st) := GE.region_step (id := 7) (GE.reg_of (by kernel_rfl)) (by kernel_rfl)
theorem n48_24s : codeB Try.prog E cx n48_24 st = some (.normal, st) := GE.skip_step (by kernel_rfl)
theorem n48_22s : codeB Try.prog E cx n48_22 st = condS (codeB Try.prog E cx n48_23) (codeB Try.prog E cx n48_24) (lk st.σ 19) st := GE.cond_step (c := .tmp 19) (by kernel_rfl)
theorem n48_20s : codeB Try.prog E cx n48_20 st = thenS (codeB Try.prog E cx n48_21 st) (codeB Try.prog E cx n48_22) := GE.seq_step (by kernel_rfl)
theorem n48_25s : codeB Try.prog E ⟨f, 24, b, ro⟩ n48_25 st = plainS (runOps Try.prog E b q48_25 (ops [true, true, true, false, true, false, true, false, true, true] Try.f48) st) := GE.region_step (id := 8) (GE.reg_of (by kernel_rfl)) (by kernel_rfl)
theorem n48_19s : codeB Try.prog E cx n48_19 st = thenS (codeB Try.prog E cx n48_20 st) (codeB Try.prog E cx n48_25) := GE.seq_step (by kernel_rfl)
theorem n48_13s : codeB Try.prog E cx n48_13 st = thenS (codeB Try.prog E cx n48_14 st) (codeB Try.prog E cx n48_19) := GE.seq_step (by kernel_rfl)
theorem n48_12s : codeB Try.prog E cx n48_12 st = blockS 1 (codeB Try.prog E cx n48_13 st) st := GE.block_step (by kernel_rfl)
theorem n48_10e : n48_10 = .rangeFunc (.tmp 7) #[8] n48_11 n48_12 := by kernel_rfl
theorem n48_10k : (ue n48_11).1 ++ (ue n48_12).1 = [8, 6, 3, 4, 5] := by kernel_rfl
theorem n48_9s : codeB Try.prog E cx n48_9 st = blockS 0 (codeB Try.prog E cx n48_10 st) st := GE.block_step (by kernel_rfl)
theorem n48_7s : codeB Try.prog E cx n48_7 st = thenS (codeB Try.prog E cx n48_8 st) (codeB Try.prog E cx n48_9) := GE.seq_step (by kernel_rfl)
theorem n48_27s : codeB Try.prog E ⟨f, 24, b, ro⟩ n48_27 st = plainS (runOps Try.prog E b q48_27 (ops [true, true, true, true, false] Try.f48) st) := GE.region_step (id := 9) (GE.reg_of (by kernel_rfl)) (by kernel_rfl)
theorem n48_28s : codeB Try.prog LL ⟨48, 24, b, ro⟩ n48_28 st = normS b ⟨[2], []⟩ .ret st := GE.ret_step (by kernel_rfl) (by kernel_rfl)
theorem n48_26s : codeB Try.prog E cx n48_26 st = thenS (codeB Try.prog E cx n48_27 st) (codeB Try.prog E cx n48_28) := GE.seq_step (by kernel_rfl)
theorem n48_6s : codeB Try.prog E cx n48_6 st = thenS (codeB Try.prog E cx n48_7 st) (codeB Try.prog E cx n48_26) := GE.seq_step (by kernel_rfl)
theorem n48_4s : codeB Try.prog E cx n48_4 st = thenS (codeB Try.prog E cx n48_5 st) (codeB Try.prog E cx n48_6) := GE.seq_step (by kernel_rfl)
theorem n48_2s : codeB Try.prog E cx n48_2 st = thenS (codeB Try.prog E cx n48_3 st) (codeB Try.prog E cx n48_4) := GE.seq_step (by kernel_rfl)
theorem n48_0s : codeB Try.prog E cx n48_0 st = thenS (codeB Try.prog E cx n48_1 st) (codeB Try.prog E cx n48_2) := GE.seq_step (by kernel_rfl)
noncomputable def n49_0 : Code := bodyOf Try.f49
noncomputable def n49_1 : Code := cl n49_0
noncomputable def q49_1 : List Oper := opsOf n49_1
noncomputable def n49_2 : Code := cr n49_0
noncomputable def n49_3 : Code := cl n49_2
noncomputable def q49_3 : List Oper := opsOf n49_3
noncomputable def n49_4 : Code := cr n49_2
theorem body49 : Try.f49.body = some n49_0 := by kernel_rfl
theorem run49 (E : Ev) (args : List Value) (h : List Blk) (hl : args.length ≤ 8) : runB Try.prog E 49 args h = endS Try.prog [.tmp 6] h.length (codeB Try.prog E ⟨49, 8, h.length, none⟩ n49_0 ⟨enumT 0 args, h, []⟩) := GE.run_step Try.func49 body49 (by kernel_rfl) (by decide) (by kernel_rfl) hl
theorem n49_1s : codeB Try.prog E ⟨f, 8, b, ro⟩ n49_1 st = plainS (runOps Try.prog E b q49_1 (ops [false] Try.f49) st) := GE.region_step (id := 0) (GE.reg_of (by kernel_rfl)) (by kernel_rfl)
theorem n49_3s : codeB Try.prog E ⟨f, 8, b, ro⟩ n49_3 st = plainS (runOps Try.prog E b q49_3 (ops [true, false] Try.f49) st) := GE.region_step (id := 1) (GE.reg_of (by kernel_rfl)) (by kernel_rfl)
theorem n49_4s : codeB Try.prog LL ⟨49, 8, b, ro⟩ n49_4 st = normS b ⟨[6], []⟩ .ret st := GE.ret_step (by kernel_rfl) (by kernel_rfl)
theorem n49_2s : codeB Try.prog E cx n49_2 st = thenS (codeB Try.prog E cx n49_3 st) (codeB Try.prog E cx n49_4) := GE.seq_step (by kernel_rfl)
theorem n49_0s : codeB Try.prog E cx n49_0 st = thenS (codeB Try.prog E cx n49_1 st) (codeB Try.prog E cx n49_2) := GE.seq_step (by kernel_rfl)
noncomputable def n52_0 : Code := bodyOf Try.f52
noncomputable def n52_1 : Code := cl n52_0
noncomputable def q52_1 : List Oper := opsOf n52_1
noncomputable def n52_2 : Code := cr n52_0
noncomputable def n52_3 : Code := cl n52_2
noncomputable def q52_3 : List Oper := opsOf n52_3
noncomputable def n52_4 : Code := cr n52_2
theorem body52 : Try.f52.body = some n52_0 := by kernel_rfl
theorem run52 (E : Ev) (args : List Value) (h : List Blk) (hl : args.length ≤ 16) : runB Try.prog E 52 args h = endS Try.prog [.tmp 6] h.length (codeB Try.prog E ⟨52, 16, h.length, none⟩ n52_0 ⟨enumT 0 args, h, []⟩) := GE.run_step Try.func52 body52 (by kernel_rfl) (by decide) (by kernel_rfl) hl
theorem n52_1s : codeB Try.prog E ⟨f, 16, b, ro⟩ n52_1 st = plainS (runOps Try.prog E b q52_1 (ops [false] Try.f52) st) := GE.region_step (id := 0) (GE.reg_of (by kernel_rfl)) (by kernel_rfl)
theorem n52_3s : codeB Try.prog E ⟨f, 16, b, ro⟩ n52_3 st = drawS [0, 0, 3, 7, 0, 0, 63, 127, 255, 511] (runOpsF Try.prog E b q52_3 (ops [true, false] Try.f52) st) := GE.draw_step (id := 1) (GE.reg_of (by kernel_rfl)) (by kernel_rfl) (by kernel_rfl) (by kernel_rfl)
theorem n52_4s : codeB Try.prog LL ⟨52, 16, b, ro⟩ n52_4 st = normS b ⟨[6], []⟩ .ret st := GE.ret_step (by kernel_rfl) (by kernel_rfl)
theorem n52_2s : codeB Try.prog E cx n52_2 st = thenS (codeB Try.prog E cx n52_3 st) (codeB Try.prog E cx n52_4) := GE.seq_step (by kernel_rfl)
theorem n52_0s : codeB Try.prog E cx n52_0 st = thenS (codeB Try.prog E cx n52_1 st) (codeB Try.prog E cx n52_2) := GE.seq_step (by kernel_rfl)
noncomputable def n54_0 : Code := bodyOf Try.f54
noncomputable def n54_1 : Code := cl n54_0
noncomputable def q54_1 : List Oper := opsOf n54_1
noncomputable def n54_2 : Code := cr n54_0
noncomputable def n54_3 : Code := cl n54_2
noncomputable def q54_3 : List Oper := opsOf n54_3
noncomputable def n54_4 : Code := cr n54_2
noncomputable def n54_5 : Code := cl n54_4
noncomputable def n54_6 : Code := cl n54_5
noncomputable def q54_6 : List Oper := opsOf n54_6
noncomputable def n54_7 : Code := cr n54_5
noncomputable def n54_8 : Code := cl n54_7
noncomputable def n54_9 : Code := cl n54_8
noncomputable def n54_10 : Code := cl n54_9
noncomputable def q54_10 : List Oper := opsOf n54_10
noncomputable def n54_11 : Code := cr n54_9
noncomputable def n54_12 : Code := cl n54_11
noncomputable def n54_13 : Code := cl n54_12
noncomputable def n54_14 : Code := cr n54_12
noncomputable def n54_15 : Code := cr n54_11
noncomputable def n54_16 : Code := cl n54_15
noncomputable def n54_17 : Code := cl n54_16
noncomputable def n54_18 : Code := cl n54_17
noncomputable def q54_18 : List Oper := opsOf n54_18
noncomputable def n54_19 : Code := cr n54_17
noncomputable def q54_19 : List Oper := opsOf n54_19
noncomputable def n54_20 : Code := cr n54_15
noncomputable def q54_20 : List Oper := opsOf n54_20
noncomputable def n54_21 : Code := cr n54_4
noncomputable def n54_22 : Code := cl n54_21
noncomputable def q54_22 : List Oper := opsOf n54_22
noncomputable def n54_23 : Code := cr n54_21
theorem body54 : Try.f54.body = some n54_0 := by kernel_rfl
theorem run54 (E : Ev) (args : List Value) (h : List Blk) (hl : args.length ≤ 27) : runB Try.prog E 54 args h = endS Try.prog [.tmp 2] h.length (codeB Try.prog E ⟨54, 27, h.length, none⟩ n54_0 ⟨enumT 0 args, h, []⟩) := GE.run_step Try.func54 body54 (by kernel_rfl) (by decide) (by kernel_rfl) hl
theorem n54_1s : codeB Try.prog E ⟨f, 27, b, ro⟩ n54_1 st = plainS (runOps Try.prog E b q54_1 (ops [false] Try.f54) st) := GE.region_step (id := 0) (GE.reg_of (by kernel_rfl)) (by kernel_rfl)
theorem n54_3s : codeB Try.prog E ⟨f, 27, b, ro⟩ n54_3 st = plainS (runOps Try.prog E b q54_3 (ops [true, false] Try.f54) st) := GE.region_step (id := 1) (GE.reg_of (by kernel_rfl)) (by kernel_rfl)
theorem n54_6s : codeB Try.prog E ⟨f, 27, b, ro⟩ n54_6 st = plainS (runOps Try.prog E b q54_6 (ops [true, true, false, false] Try.f54) st) := GE.region_step (id := 2) (GE.reg_of (by kernel_rfl)) (by kernel_rfl)
theorem n54_10s : codeB Try.prog E ⟨f, 27, b, ro⟩ n54_10 st = plainS (runOps Try.prog E b q54_10 (ops [true, true, false, true, false, false, false] Try.f54) st) := GE.region_step (id := 3) (GE.reg_of (by kernel_rfl)) (by kernel_rfl)
theorem n54_13s : codeB Try.prog E cx n54_13 st = some (.normal, st) := GE.skip_step (by kernel_rfl)
theorem n54_14s : codeB Try.prog LL ⟨54, 27, b, ro⟩ n54_14 st = normS b ⟨[3], [⟨3, 0, 1, true⟩]⟩ (.exit 0) st := GE.exit_step (by kernel_rfl) (by kernel_rfl)
theorem n54_12s : codeB Try.prog E cx n54_12 st = condS (codeB Try.prog E cx n54_13) (codeB Try.prog E cx n54_14) (lk st.σ 12) st := GE.cond_step (c := .tmp 12) (by kernel_rfl)
theorem n54_18s : codeB Try.prog E ⟨f, 27, b, ro⟩ n54_18 st = plainS (runOps Try.prog E b q54_18 (ops [true, true, false, true, false, false, true, true, false, false, false] Try.f54) st) := GE.region_step (id := 4) (GE.reg_of (by kernel_rfl)) (by kernel_rfl)
theorem n54_19s : codeB Try.prog E ⟨f, 27, b, ro⟩ n54_19 st = plainS (runOps Try.prog E b q54_19 (ops [true, true, false, true, false, false, true, true, false, false, true] Try.f54) st) := GE.region_step (id := 5) (GE.reg_of (by kernel_rfl)) (by kernel_rfl)
theorem n54_17s : codeB Try.prog E cx n54_17 st = thenS (codeB Try.prog E cx n54_18 st) (codeB Try.prog E cx n54_19) := GE.seq_step (by kernel_rfl)
theorem n54_16s : codeB Try.prog E cx n54_16 st = blockS 1 (codeB Try.prog E cx n54_17 st) st := GE.block_step (by kernel_rfl)
theorem n54_20s : codeB Try.prog E ⟨f, 27, b, ro⟩ n54_20 st = plainS (runOps Try.prog E b q54_20 (ops [true, true, false, true, false, false, true, true, true] Try.f54) st) := GE.region_step (id := 6) (GE.reg_of (by kernel_rfl)) (by kernel_rfl)
theorem n54_15s : codeB Try.prog E cx n54_15 st = thenS (codeB Try.prog E cx n54_16 st) (codeB Try.prog E cx n54_20) := GE.seq_step (by kernel_rfl)
theorem n54_11s : codeB Try.prog E cx n54_11 st = thenS (codeB Try.prog E cx n54_12 st) (codeB Try.prog E cx n54_15) := GE.seq_step (by kernel_rfl)
theorem n54_9s : codeB Try.prog E cx n54_9 st = thenS (codeB Try.prog E cx n54_10 st) (codeB Try.prog E cx n54_11) := GE.seq_step (by kernel_rfl)
theorem n54_8k : LL.kp (⟨54, 27, b, ro⟩ : Cx).fn (4 * rid n54_9 + 3) = some ⟨[0, 3, 10, 11], [⟨0, 0, 1, true⟩, ⟨3, 0, 1, true⟩]⟩ := by kernel_rfl
theorem n54_8s : codeB Try.prog LL ⟨54, 27, b, ro⟩ n54_8 st = headS b ⟨[0, 3, 10, 11], [⟨0, 0, 1, true⟩, ⟨3, 0, 1, true⟩]⟩ st (lpB Try.prog LL ⟨54, 27, b, ro⟩ n54_8 n54_9) := GE.lpB_step (by kernel_rfl) (n54_8k b ro)
theorem n54_8g : LL.code ⟨54, 27, b, ro⟩ n54_8 st = headS b ⟨[0, 3, 10, 11], [⟨0, 0, 1, true⟩, ⟨3, 0, 1, true⟩]⟩ st (lpB Try.prog LL ⟨54, 27, b, ro⟩ n54_8 n54_9) := GE.lpB_again (by kernel_rfl) (n54_8k b ro)
theorem n54_7s : codeB Try.prog E cx n54_7 st = blockS 0 (codeB Try.prog E cx n54_8 st) st := GE.block_step (by kernel_rfl)
theorem n54_5s : codeB Try.prog E cx n54_5 st = thenS (codeB Try.prog E cx n54_6 st) (codeB Try.prog E cx n54_7) := GE.seq_step (by kernel_rfl)
theorem n54_22s : codeB Try.prog E ⟨f, 27, b, ro⟩ n54_22 st = plainS (runOps Try.prog E b q54_22 (ops [true, true, true, false] Try.f54) st) := GE.region_step (id := 7) (GE.reg_of (by kernel_rfl)) (by kernel_rfl)
theorem n54_23s : codeB Try.prog LL ⟨54, 27, b, ro⟩ n54_23 st = normS b ⟨[2], [⟨2, 0, 1, true⟩]⟩ .ret st := GE.ret_step (by kernel_rfl) (by kernel_rfl)
theorem n54_21s : codeB Try.prog E cx n54_21 st = thenS (codeB Try.prog E cx n54_22 st) (codeB Try.prog E cx n54_23) := GE.seq_step (by kernel_rfl)
theorem n54_4s : codeB Try.prog E cx n54_4 st = thenS (codeB Try.prog E cx n54_5 st) (codeB Try.prog E cx n54_21) := GE.seq_step (by kernel_rfl)
theorem n54_2s : codeB Try.prog E cx n54_2 st = thenS (codeB Try.prog E cx n54_3 st) (codeB Try.prog E cx n54_4) := GE.seq_step (by kernel_rfl)
theorem n54_0s : codeB Try.prog E cx n54_0 st = thenS (codeB Try.prog E cx n54_1 st) (codeB Try.prog E cx n54_2) := GE.seq_step (by kernel_rfl)
noncomputable def n56_0 : Code := bodyOf Try.f56
noncomputable def n56_1 : Code := cl n56_0
noncomputable def q56_1 : List Oper := opsOf n56_1
noncomputable def n56_2 : Code := cr n56_0
noncomputable def n56_3 : Code := cl n56_2
noncomputable def q56_3 : List Oper := opsOf n56_3
noncomputable def n56_4 : Code := cr n56_2
theorem body56 : Try.f56.body = some n56_0 := by kernel_rfl
theorem run56 (E : Ev) (args : List Value) (h : List Blk) (hl : args.length ≤ 11) : runB Try.prog E 56 args h = endS Try.prog [.tmp 4] h.length (codeB Try.prog E ⟨56, 11, h.length, none⟩ n56_0 ⟨enumT 0 args, h, []⟩) := GE.run_step Try.func56 body56 (by kernel_rfl) (by decide) (by kernel_rfl) hl
theorem n56_1s : codeB Try.prog E ⟨f, 11, b, ro⟩ n56_1 st = plainS (runOps Try.prog E b q56_1 (ops [false] Try.f56) st) := GE.region_step (id := 0) (GE.reg_of (by kernel_rfl)) (by kernel_rfl)
theorem n56_3s : codeB Try.prog E ⟨f, 11, b, ro⟩ n56_3 st = plainS (runOps Try.prog E b q56_3 (ops [true, false] Try.f56) st) := GE.region_step (id := 1) (GE.reg_of (by kernel_rfl)) (by kernel_rfl)
theorem n56_4s : codeB Try.prog LL ⟨56, 11, b, ro⟩ n56_4 st = normS b ⟨[4], []⟩ .ret st := GE.ret_step (by kernel_rfl) (by kernel_rfl)
theorem n56_2s : codeB Try.prog E cx n56_2 st = thenS (codeB Try.prog E cx n56_3 st) (codeB Try.prog E cx n56_4) := GE.seq_step (by kernel_rfl)
theorem n56_0s : codeB Try.prog E cx n56_0 st = thenS (codeB Try.prog E cx n56_1 st) (codeB Try.prog E cx n56_2) := GE.seq_step (by kernel_rfl)
noncomputable def n57_0 : Code := bodyOf Try.f57
noncomputable def n57_1 : Code := cl n57_0
noncomputable def q57_1 : List Oper := opsOf n57_1
noncomputable def n57_2 : Code := cr n57_0
noncomputable def n57_3 : Code := cl n57_2
noncomputable def q57_3 : List Oper := opsOf n57_3
noncomputable def n57_4 : Code := cr n57_2
noncomputable def n57_5 : Code := cl n57_4
noncomputable def n57_6 : Code := cl n57_5
noncomputable def n57_7 : Code := cl n57_6
noncomputable def n57_8 : Code := cl n57_7
noncomputable def n57_9 : Code := cl n57_8
noncomputable def q57_9 : List Oper := opsOf n57_9
noncomputable def n57_10 : Code := cr n57_8
noncomputable def n57_11 : Code := cl n57_10
noncomputable def n57_12 : Code := cr n57_10
noncomputable def n57_13 : Code := cr n57_7
noncomputable def n57_14 : Code := cl n57_13
noncomputable def n57_15 : Code := cl n57_14
noncomputable def q57_15 : List Oper := opsOf n57_15
noncomputable def n57_16 : Code := cr n57_14
noncomputable def n57_17 : Code := cl n57_16
noncomputable def q57_17 : List Oper := opsOf n57_17
noncomputable def n57_18 : Code := cr n57_16
noncomputable def n57_19 : Code := cl n57_18
noncomputable def q57_19 : List Oper := opsOf n57_19
noncomputable def n57_20 : Code := cr n57_18
noncomputable def q57_20 : List Oper := opsOf n57_20
noncomputable def n57_21 : Code := cr n57_4
noncomputable def n57_22 : Code := cl n57_21
noncomputable def q57_22 : List Oper := opsOf n57_22
noncomputable def n57_23 : Code := cr n57_21
theorem body57 : Try.f57.body = some n57_0 := by kernel_rfl
theorem run57 (E : Ev) (args : List Value) (h : List Blk) (hl : args.length ≤ 26) : runB Try.prog E 57 args h = endS Try.prog [.tmp 4] h.length (codeB Try.prog E ⟨57, 26, h.length, none⟩ n57_0 ⟨enumT 0 args, h, []⟩) := GE.run_step Try.func57 body57 (by kernel_rfl) (by decide) (by kernel_rfl) hl
theorem n57_1s : codeB Try.prog E ⟨f, 26, b, ro⟩ n57_1 st = plainS (runOps Try.prog E b q57_1 (ops [false] Try.f57) st) := GE.region_step (id := 0) (GE.reg_of (by kernel_rfl)) (by kernel_rfl)
theorem n57_3s : codeB Try.prog E ⟨f, 26, b, ro⟩ n57_3 st = plainS (runOps Try.prog E b q57_3 (ops [true, false] Try.f57) st) := GE.region_step (id := 1) (GE.reg_of (by kernel_rfl)) (by kernel_rfl)
theorem n57_9s : codeB Try.prog E ⟨f, 26, b, ro⟩ n57_9 st = plainS (runOps Try.prog E b q57_9 (ops [true, true, false, false, false, false, false] Try.f57) st) := GE.region_step (id := 2) (GE.reg_of (by kernel_rfl)) (by kernel_rfl)
theorem n57_11s : codeB Try.prog E cx n57_11 st = some (.normal, st) := GE.skip_step (by kernel_rfl)
theorem n57_12s : codeB Try.prog LL ⟨57, 26, b, ro⟩ n57_12 st = normS b ⟨[5], []⟩ (.exit 0) st := GE.exit_step (by kernel_rfl) (by kernel_rfl)
theorem n57_10s : codeB Try.prog E cx n57_10 st = condS (codeB Try.prog E cx n57_11) (codeB Try.prog E cx n57_12) (lk st.σ 11) st := GE.cond_step (c := .tmp 11) (by kernel_rfl)
theorem n57_8s : codeB Try.prog E cx n57_8 st = thenS (codeB Try.prog E cx n57_9 st) (codeB Try.prog E cx n57_10) := GE.seq_step (by kernel_rfl)
theorem n57_15s : codeB Try.prog E ⟨f, 26, b, ro⟩ n57_15 st = plainS (runOps Try.prog E b q57_15 (ops [true, true, false, false, false, true, false, false] Try.f57) st) := GE.region_step (id := 3) (GE.reg_of (by kernel_rfl)) (by kernel_rfl)
theorem n57_17s : codeB Try.prog E ⟨f, 26, b, ro⟩ n57_17 st = plainS (runOps Try.prog E b q57_17 (ops [true, true, false, false, false, true, false, true, false] Try.f57) st) := GE.region_step (id := 4) (GE.reg_of (by kernel_rfl)) (by kernel_rfl)
theorem n57_19s : codeB Try.prog E ⟨f, 26, b, ro⟩ n57_19 st = plainS (runOps Try.prog E b q57_19 (ops [true, true, false, false, false, true, false, true, true, false] Try.f57) st) := GE.region_step (id := 5) (GE.reg_of (by kernel_rfl)) (by kernel_rfl)
theorem n57_20s : codeB Try.prog E ⟨f, 26, b, ro⟩ n57_20 st = plainS (runOps Try.prog E b q57_20 (ops [true, true, false, false, false, true, false, true, true, true] Try.f57) st) := GE.region_step (id := 6) (GE.reg_of (by kernel_rfl)) (by kernel_rfl)
theorem n57_18s : codeB Try.prog E cx n57_18 st = condS (codeB Try.prog E cx n57_19) (codeB Try.prog E cx n57_20) (lk st.σ 21) st := GE.cond_step (c := .tmp 21) (by kernel_rfl)
theorem n57_16s : codeB Try.prog E cx n57_16 st = thenS (codeB Try.prog E cx n57_17 st) (codeB Try.prog E cx n57_18) := GE.seq_step (by kernel_rfl)
theorem n57_14s : codeB Try.prog E cx n57_14 st = thenS (codeB Try.prog E cx n57_15 st) (codeB Try.prog E cx n57_16) := GE.seq_step (by kernel_rfl)
theorem n57_13s : codeB Try.prog E cx n57_13 st = blockS 1 (codeB Try.prog E cx n57_14 st) st := GE.block_step (by kernel_rfl)
theorem n57_7s : codeB Try.prog E cx n57_7 st = thenS (codeB Try.prog E cx n57_8 st) (codeB Try.prog E cx n57_13) := GE.seq_step (by kernel_rfl)
theorem n57_6k : LL.kp (⟨57, 26, b, ro⟩ : Cx).fn (4 * rid n57_7 + 3) = some ⟨[1, 5, 6], []⟩ := by kernel_rfl
theorem n57_6s : codeB Try.prog LL ⟨57, 26, b, ro⟩ n57_6 st = headS b ⟨[1, 5, 6], []⟩ st (lpB Try.prog LL ⟨57, 26, b, ro⟩ n57_6 n57_7) := GE.lpB_step (by kernel_rfl) (n57_6k b ro)
theorem n57_6g : LL.code ⟨57, 26, b, ro⟩ n57_6 st = headS b ⟨[1, 5, 6], []⟩ st (lpB Try.prog LL ⟨57, 26, b, ro⟩ n57_6 n57_7) := GE.lpB_again (by kernel_rfl) (n57_6k b ro)
theorem n57_5s : codeB Try.prog E cx n57_5 st = blockS 0 (codeB Try.prog E cx n57_6 st) st := GE.block_step (by kernel_rfl)
theorem n57_22s : codeB Try.prog E ⟨f, 26, b, ro⟩ n57_22 st = plainS (runOps Try.prog E b q57_22 (ops [true, true, true, false] Try.f57) st) := GE.region_step (id := 7) (GE.reg_of (by kernel_rfl)) (by kernel_rfl)
theorem n57_23s : codeB Try.prog LL ⟨57, 26, b, ro⟩ n57_23 st = normS b ⟨[4], []⟩ .ret st := GE.ret_step (by kernel_rfl) (by kernel_rfl)
theorem n57_21s : codeB Try.prog E cx n57_21 st = thenS (codeB Try.prog E cx n57_22 st) (codeB Try.prog E cx n57_23) := GE.seq_step (by kernel_rfl)
theorem n57_4s : codeB Try.prog E cx n57_4 st = thenS (codeB Try.prog E cx n57_5 st) (codeB Try.prog E cx n57_21) := GE.seq_step (by kernel_rfl)
theorem n57_2s : codeB Try.prog E cx n57_2 st = thenS (codeB Try.prog E cx n57_3 st) (codeB Try.prog E cx n57_4) := GE.seq_step (by kernel_rfl)
theorem n57_0s : codeB Try.prog E cx n57_0 st = thenS (codeB Try.prog E cx n57_1 st) (codeB Try.prog E cx n57_2) := GE.seq_step (by kernel_rfl)
noncomputable def n58_0 : Code := bodyOf Try.f58
noncomputable def n58_1 : Code := cl n58_0
noncomputable def q58_1 : List Oper := opsOf n58_1
noncomputable def n58_2 : Code := cr n58_0
noncomputable def n58_3 : Code := cl n58_2
noncomputable def q58_3 : List Oper := opsOf n58_3
noncomputable def n58_4 : Code := cr n58_2
theorem body58 : Try.f58.body = some n58_0 := by kernel_rfl
theorem run58 (E : Ev) (args : List Value) (h : List Blk) (hl : args.length ≤ 10) : runB Try.prog E 58 args h = endS Try.prog [.tmp 4] h.length (codeB Try.prog E ⟨58, 10, h.length, none⟩ n58_0 ⟨enumT 0 args, h, []⟩) := GE.run_step Try.func58 body58 (by kernel_rfl) (by decide) (by kernel_rfl) hl
theorem n58_1s : codeB Try.prog E ⟨f, 10, b, ro⟩ n58_1 st = plainS (runOps Try.prog E b q58_1 (ops [false] Try.f58) st) := GE.region_step (id := 0) (GE.reg_of (by kernel_rfl)) (by kernel_rfl)
theorem n58_3s : codeB Try.prog E ⟨f, 10, b, ro⟩ n58_3 st = drawS [0, 0, 3, 0, 15, 31] (runOpsF Try.prog E b q58_3 (ops [true, false] Try.f58) st) := GE.draw_step (id := 1) (GE.reg_of (by kernel_rfl)) (by kernel_rfl) (by kernel_rfl) (by kernel_rfl)
theorem n58_4s : codeB Try.prog LL ⟨58, 10, b, ro⟩ n58_4 st = normS b ⟨[4], []⟩ .ret st := GE.ret_step (by kernel_rfl) (by kernel_rfl)
theorem n58_2s : codeB Try.prog E cx n58_2 st = thenS (codeB Try.prog E cx n58_3 st) (codeB Try.prog E cx n58_4) := GE.seq_step (by kernel_rfl)
theorem n58_0s : codeB Try.prog E cx n58_0 st = thenS (codeB Try.prog E cx n58_1 st) (codeB Try.prog E cx n58_2) := GE.seq_step (by kernel_rfl)
noncomputable def n59_0 : Code := bodyOf Try.f59
noncomputable def n59_1 : Code := cl n59_0
noncomputable def q59_1 : List Oper := opsOf n59_1
noncomputable def n59_2 : Code := cr n59_0
noncomputable def n59_3 : Code := cl n59_2
noncomputable def n59_4 : Code := cl n59_3
noncomputable def q59_4 : List Oper := opsOf n59_4
noncomputable def n59_5 : Code := cr n59_3
noncomputable def n59_6 : Code := cl n59_5
noncomputable def n59_7 : Code := cl n59_6
noncomputable def q59_7 : List Oper := opsOf n59_7
noncomputable def n59_8 : Code := cr n59_6
noncomputable def n59_9 : Code := cr n59_5
noncomputable def n59_10 : Code := cr n59_2
noncomputable def n59_11 : Code := cl n59_10
noncomputable def q59_11 : List Oper := opsOf n59_11
noncomputable def n59_12 : Code := cr n59_10
noncomputable def n59_13 : Code := cl n59_12
noncomputable def q59_13 : List Oper := opsOf n59_13
noncomputable def n59_14 : Code := cr n59_12
theorem body59 : Try.f59.body = some n59_0 := by kernel_rfl
theorem run59 (E : Ev) (args : List Value) (h : List Blk) (hl : args.length ≤ 21) : runB Try.prog E 59 args h = endS Try.prog [.tmp 4] h.length (codeB Try.prog E ⟨59, 21, h.length, none⟩ n59_0 ⟨enumT 0 args, h, []⟩) := GE.run_step Try.func59 body59 (by kernel_rfl) (by decide) (by kernel_rfl) hl
theorem n59_1s : codeB Try.prog E ⟨f, 21, b, ro⟩ n59_1 st = plainS (runOps Try.prog E b q59_1 (ops [false] Try.f59) st) := GE.region_step (id := 0) (GE.reg_of (by kernel_rfl)) (by kernel_rfl)
theorem n59_4s : codeB Try.prog E ⟨f, 21, b, ro⟩ n59_4 st = plainS (runOps Try.prog E b q59_4 (ops [true, false, false] Try.f59) st) := GE.region_step (id := 1) (GE.reg_of (by kernel_rfl)) (by kernel_rfl)
theorem n59_7s : codeB Try.prog E ⟨f, 21, b, ro⟩ n59_7 st = plainS (runOps Try.prog E b q59_7 (ops [true, false, true, false, false] Try.f59) st) := GE.region_step (id := 2) (GE.reg_of (by kernel_rfl)) (by kernel_rfl)
theorem n59_8s : codeB Try.prog LL ⟨59, 21, b, ro⟩ n59_8 st = normS b ⟨[4], [⟨4, 0, 1, true⟩]⟩ .ret st := GE.ret_step (by kernel_rfl) (by kernel_rfl)
theorem n59_6s : codeB Try.prog E cx n59_6 st = thenS (codeB Try.prog E cx n59_7 st) (codeB Try.prog E cx n59_8) := GE.seq_step (by kernel_rfl)
theorem n59_9s : codeB Try.prog E cx n59_9 st = some (.normal, st) := GE.skip_step (by kernel_rfl)
theorem n59_5s : codeB Try.prog E cx n59_5 st = condS (codeB Try.prog E cx n59_6) (codeB Try.prog E cx n59_9) (lk st.σ 9) st := GE.cond_step (c := .tmp 9) (by kernel_rfl)
theorem n59_3s : codeB Try.prog E cx n59_3 st = thenS (codeB Try.prog E cx n59_4 st) (codeB Try.prog E cx n59_5) := GE.seq_step (by kernel_rfl)
theorem n59_11s : codeB Try.prog E ⟨f, 21, b, ro⟩ n59_11 st = plainS (runOps Try.prog E b q59_11 (ops [true, true, false] Try.f59) st) := GE.region_step (id := 3) (GE.reg_of (by kernel_rfl)) (by kernel_rfl)
theorem n59_13s : codeB Try.prog E ⟨f, 21, b, ro⟩ n59_13 st = plainS (runOps Try.prog E b q59_13 (ops [true, true, true, false] Try.f59) st) := GE.region_step (id := 4) (GE.reg_of (by kernel_rfl)) (by kernel_rfl)
theorem n59_14s : codeB Try.prog LL ⟨59, 21, b, ro⟩ n59_14 st = normS b ⟨[4], [⟨4, 0, 1, true⟩]⟩ .ret st := GE.ret_step (by kernel_rfl) (by kernel_rfl)
theorem n59_12s : codeB Try.prog E cx n59_12 st = thenS (codeB Try.prog E cx n59_13 st) (codeB Try.prog E cx n59_14) := GE.seq_step (by kernel_rfl)
theorem n59_10s : codeB Try.prog E cx n59_10 st = thenS (codeB Try.prog E cx n59_11 st) (codeB Try.prog E cx n59_12) := GE.seq_step (by kernel_rfl)
theorem n59_2s : codeB Try.prog E cx n59_2 st = thenS (codeB Try.prog E cx n59_3 st) (codeB Try.prog E cx n59_10) := GE.seq_step (by kernel_rfl)
theorem n59_0s : codeB Try.prog E cx n59_0 st = thenS (codeB Try.prog E cx n59_1 st) (codeB Try.prog E cx n59_2) := GE.seq_step (by kernel_rfl)
noncomputable def n61_0 : Code := bodyOf Try.f61
noncomputable def n61_1 : Code := cl n61_0
noncomputable def q61_1 : List Oper := opsOf n61_1
noncomputable def n61_2 : Code := cr n61_0
noncomputable def n61_3 : Code := cl n61_2
noncomputable def q61_3 : List Oper := opsOf n61_3
noncomputable def n61_4 : Code := cr n61_2
noncomputable def n61_5 : Code := cl n61_4
noncomputable def n61_6 : Code := cl n61_5
noncomputable def q61_6 : List Oper := opsOf n61_6
noncomputable def n61_7 : Code := cr n61_5
noncomputable def n61_8 : Code := cl n61_7
noncomputable def n61_9 : Code := cl n61_8
noncomputable def n61_10 : Code := cl n61_9
noncomputable def q61_10 : List Oper := opsOf n61_10
noncomputable def n61_11 : Code := cr n61_9
noncomputable def n61_12 : Code := cl n61_11
noncomputable def n61_13 : Code := cl n61_12
noncomputable def n61_14 : Code := cr n61_12
noncomputable def n61_15 : Code := cr n61_11
noncomputable def n61_16 : Code := cl n61_15
noncomputable def n61_17 : Code := cl n61_16
noncomputable def n61_18 : Code := cl n61_17
noncomputable def q61_18 : List Oper := opsOf n61_18
noncomputable def n61_19 : Code := cr n61_17
noncomputable def n61_20 : Code := cl n61_19
noncomputable def q61_20 : List Oper := opsOf n61_20
noncomputable def n61_21 : Code := cr n61_19
noncomputable def n61_22 : Code := cl n61_21
noncomputable def n61_23 : Code := cl n61_22
noncomputable def n61_24 : Code := cl n61_23
noncomputable def q61_24 : List Oper := opsOf n61_24
noncomputable def n61_25 : Code := cr n61_23
noncomputable def n61_26 : Code := cl n61_25
noncomputable def n61_27 : Code := cl n61_26
noncomputable def n61_28 : Code := cr n61_26
noncomputable def n61_29 : Code := cr n61_25
noncomputable def n61_30 : Code := cl n61_29
noncomputable def n61_31 : Code := cl n61_30
noncomputable def n61_32 : Code := cl n61_31
noncomputable def q61_32 : List Oper := opsOf n61_32
noncomputable def n61_33 : Code := cr n61_31
noncomputable def q61_33 : List Oper := opsOf n61_33
noncomputable def n61_34 : Code := cr n61_29
noncomputable def q61_34 : List Oper := opsOf n61_34
noncomputable def n61_35 : Code := cr n61_15
noncomputable def q61_35 : List Oper := opsOf n61_35
noncomputable def n61_36 : Code := cr n61_4
noncomputable def n61_37 : Code := cl n61_36
noncomputable def q61_37 : List Oper := opsOf n61_37
noncomputable def n61_38 : Code := cr n61_36
theorem body61 : Try.f61.body = some n61_0 := by kernel_rfl
theorem run61 (E : Ev) (args : List Value) (h : List Blk) (hl : args.length ≤ 45) : runB Try.prog E 61 args h = endS Try.prog [.tmp 4] h.length (codeB Try.prog E ⟨61, 45, h.length, none⟩ n61_0 ⟨enumT 0 args, h, []⟩) := GE.run_step Try.func61 body61 (by kernel_rfl) (by decide) (by kernel_rfl) hl
theorem n61_1s : codeB Try.prog E ⟨f, 45, b, ro⟩ n61_1 st = plainS (runOps Try.prog E b q61_1 (ops [false] Try.f61) st) := GE.region_step (id := 0) (GE.reg_of (by kernel_rfl)) (by kernel_rfl)
theorem n61_3s : codeB Try.prog E ⟨f, 45, b, ro⟩ n61_3 st = plainS (runOps Try.prog E b q61_3 (ops [true, false] Try.f61) st) := GE.region_step (id := 1) (GE.reg_of (by kernel_rfl)) (by kernel_rfl)
theorem n61_6s : codeB Try.prog E ⟨f, 45, b, ro⟩ n61_6 st = plainS (runOps Try.prog E b q61_6 (ops [true, true, false, false] Try.f61) st) := GE.region_step (id := 2) (GE.reg_of (by kernel_rfl)) (by kernel_rfl)
theorem n61_10s : codeB Try.prog E ⟨f, 45, b, ro⟩ n61_10 st = plainS (runOps Try.prog E b q61_10 (ops [true, true, false, true, false, false, false] Try.f61) st) := GE.region_step (id := 3) (GE.reg_of (by kernel_rfl)) (by kernel_rfl)
theorem n61_13s : codeB Try.prog E cx n61_13 st = some (.normal, st) := GE.skip_step (by kernel_rfl)
theorem n61_14s : codeB Try.prog LL ⟨61, 45, b, ro⟩ n61_14 st = normS b ⟨[5], [⟨5, 0, 1, true⟩]⟩ (.exit 0) st := GE.exit_step (by kernel_rfl) (by kernel_rfl)
theorem n61_12s : codeB Try.prog E cx n61_12 st = condS (codeB Try.prog E cx n61_13) (codeB Try.prog E cx n61_14) (lk st.σ 20) st := GE.cond_step (c := .tmp 20) (by kernel_rfl)
theorem n61_18s : codeB Try.prog E ⟨f, 45, b, ro⟩ n61_18 st = plainS (runOps Try.prog E b q61_18 (ops [true, true, false, true, false, false, true, true, false, false, false] Try.f61) st) := GE.region_step (id := 4) (GE.reg_of (by kernel_rfl)) (by kernel_rfl)
theorem n61_20s : codeB Try.prog E ⟨f, 45, b, ro⟩ n61_20 st = plainS (runOps Try.prog E b q61_20 (ops [true, true, false, true, false, false, true, true, false, false, true, false] Try.f61) st) := GE.region_step (id := 5) (GE.reg_of (by kernel_rfl)) (by kernel_rfl)
theorem n61_24s : codeB Try.prog E ⟨f, 45, b, ro⟩ n61_24 st = plainS (runOps Try.prog E b q61_24 (ops [true, true, false, true, false, false, true, true, false, false, true, true, false, false, false] Try.f61) st) := GE.region_step (id := 6) (GE.reg_of (by kernel_rfl)) (by kernel_rfl)
theorem n61_27s : codeB Try.prog E cx n61_27 st = some (.normal, st) := GE.skip_step (by kernel_rfl)
theorem n61_28s : codeB Try.prog LL ⟨61, 45, b, ro⟩ n61_28 st = normS b ⟨[1, 5, 17, 18, 19], [⟨1, 0, 1, true⟩, ⟨5, 0, 1, true⟩, ⟨17, 0, 1, true⟩]⟩ (.exit 2) st := GE.exit_step (by kernel_rfl) (by kernel_rfl)
theorem n61_26s : codeB Try.prog E cx n61_26 st = condS (codeB Try.prog E cx n61_27) (codeB Try.prog E cx n61_28) (lk st.σ 27) st := GE.cond_step (c := .tmp 27) (by kernel_rfl)
theorem n61_32s : codeB Try.prog E ⟨f, 45, b, ro⟩ n61_32 st = plainS (runOps Try.prog E b q61_32 (ops [true, true, false, true, false, false, true, true, false, false, true, true, false, false, true, true, false, false, false] Try.f61) st) := GE.region_step (id := 7) (GE.reg_of (by kernel_rfl)) (by kernel_rfl)
theorem n61_33s : codeB Try.prog E ⟨f, 45, b, ro⟩ n61_33 st = plainS (runOps Try.prog E b q61_33 (ops [true, true, false, true, false, false, true, true, false, false, true, true, false, false, true, true, false, false, true] Try.f61) st) := GE.region_step (id := 8) (GE.reg_of (by kernel_rfl)) (by kernel_rfl)
theorem n61_31s : codeB Try.prog E cx n61_31 st = thenS (codeB Try.prog E cx n61_32 st) (codeB Try.prog E cx n61_33) := GE.seq_step (by kernel_rfl)
theorem n61_30s : codeB Try.prog E cx n61_30 st = blockS 3 (codeB Try.prog E cx n61_31 st) st := GE.block_step (by kernel_rfl)
theorem n61_34s : codeB Try.prog E ⟨f, 45, b, ro⟩ n61_34 st = plainS (runOps Try.prog E b q61_34 (ops [true, true, false, true, false, false, true, true, false, false, true, true, false, false, true, true, true] Try.f61) st) := GE.region_step (id := 9) (GE.reg_of (by kernel_rfl)) (by kernel_rfl)
theorem n61_29s : codeB Try.prog E cx n61_29 st = thenS (codeB Try.prog E cx n61_30 st) (codeB Try.prog E cx n61_34) := GE.seq_step (by kernel_rfl)
theorem n61_25s : codeB Try.prog E cx n61_25 st = thenS (codeB Try.prog E cx n61_26 st) (codeB Try.prog E cx n61_29) := GE.seq_step (by kernel_rfl)
theorem n61_23s : codeB Try.prog E cx n61_23 st = thenS (codeB Try.prog E cx n61_24 st) (codeB Try.prog E cx n61_25) := GE.seq_step (by kernel_rfl)
theorem n61_22k : LL.kp (⟨61, 45, b, ro⟩ : Cx).fn (4 * rid n61_23 + 3) = some ⟨[6, 7, 24, 25, 26, 1, 5, 17, 18, 19], [⟨24, 0, 1, true⟩, ⟨1, 0, 1, true⟩, ⟨5, 0, 1, true⟩, ⟨17, 0, 1, true⟩]⟩ := by kernel_rfl
theorem n61_22s : codeB Try.prog LL ⟨61, 45, b, ro⟩ n61_22 st = headS b ⟨[6, 7, 24, 25, 26, 1, 5, 17, 18, 19], [⟨24, 0, 1, true⟩, ⟨1, 0, 1, true⟩, ⟨5, 0, 1, true⟩, ⟨17, 0, 1, true⟩]⟩ st (lpB Try.prog LL ⟨61, 45, b, ro⟩ n61_22 n61_23) := GE.lpB_step (by kernel_rfl) (n61_22k b ro)
theorem n61_22g : LL.code ⟨61, 45, b, ro⟩ n61_22 st = headS b ⟨[6, 7, 24, 25, 26, 1, 5, 17, 18, 19], [⟨24, 0, 1, true⟩, ⟨1, 0, 1, true⟩, ⟨5, 0, 1, true⟩, ⟨17, 0, 1, true⟩]⟩ st (lpB Try.prog LL ⟨61, 45, b, ro⟩ n61_22 n61_23) := GE.lpB_again (by kernel_rfl) (n61_22k b ro)
theorem n61_21s : codeB Try.prog E cx n61_21 st = blockS 2 (codeB Try.prog E cx n61_22 st) st := GE.block_step (by kernel_rfl)
theorem n61_19s : codeB Try.prog E cx n61_19 st = thenS (codeB Try.prog E cx n61_20 st) (codeB Try.prog E cx n61_21) := GE.seq_step (by kernel_rfl)
theorem n61_17s : codeB Try.prog E cx n61_17 st = thenS (codeB Try.prog E cx n61_18 st) (codeB Try.prog E cx n61_19) := GE.seq_step (by kernel_rfl)
theorem n61_16s : codeB Try.prog E cx n61_16 st = blockS 1 (codeB Try.prog E cx n61_17 st) st := GE.block_step (by kernel_rfl)
theorem n61_35s : codeB Try.prog E ⟨f, 45, b, ro⟩ n61_35 st = plainS (runOps Try.prog E b q61_35 (ops [true, true, false, true, false, false, true, true, true] Try.f61) st) := GE.region_step (id := 10) (GE.reg_of (by kernel_rfl)) (by kernel_rfl)
theorem n61_15s : codeB Try.prog E cx n61_15 st = thenS (codeB Try.prog E cx n61_16 st) (codeB Try.prog E cx n61_35) := GE.seq_step (by kernel_rfl)
theorem n61_11s : codeB Try.prog E cx n61_11 st = thenS (codeB Try.prog E cx n61_12 st) (codeB Try.prog E cx n61_15) := GE.seq_step (by kernel_rfl)
theorem n61_9s : codeB Try.prog E cx n61_9 st = thenS (codeB Try.prog E cx n61_10 st) (codeB Try.prog E cx n61_11) := GE.seq_step (by kernel_rfl)
theorem n61_8k : LL.kp (⟨61, 45, b, ro⟩ : Cx).fn (4 * rid n61_9 + 3) = some ⟨[1, 5, 17, 18, 19], [⟨1, 0, 1, true⟩, ⟨5, 0, 1, true⟩, ⟨17, 0, 1, true⟩]⟩ := by kernel_rfl
theorem n61_8s : codeB Try.prog LL ⟨61, 45, b, ro⟩ n61_8 st = headS b ⟨[1, 5, 17, 18, 19], [⟨1, 0, 1, true⟩, ⟨5, 0, 1, true⟩, ⟨17, 0, 1, true⟩]⟩ st (lpB Try.prog LL ⟨61, 45, b, ro⟩ n61_8 n61_9) := GE.lpB_step (by kernel_rfl) (n61_8k b ro)
theorem n61_8g : LL.code ⟨61, 45, b, ro⟩ n61_8 st = headS b ⟨[1, 5, 17, 18, 19], [⟨1, 0, 1, true⟩, ⟨5, 0, 1, true⟩, ⟨17, 0, 1, true⟩]⟩ st (lpB Try.prog LL ⟨61, 45, b, ro⟩ n61_8 n61_9) := GE.lpB_again (by kernel_rfl) (n61_8k b ro)
theorem n61_7s : codeB Try.prog E cx n61_7 st = blockS 0 (codeB Try.prog E cx n61_8 st) st := GE.block_step (by kernel_rfl)
theorem n61_5s : codeB Try.prog E cx n61_5 st = thenS (codeB Try.prog E cx n61_6 st) (codeB Try.prog E cx n61_7) := GE.seq_step (by kernel_rfl)
theorem n61_37s : codeB Try.prog E ⟨f, 45, b, ro⟩ n61_37 st = plainS (runOps Try.prog E b q61_37 (ops [true, true, true, false] Try.f61) st) := GE.region_step (id := 11) (GE.reg_of (by kernel_rfl)) (by kernel_rfl)
theorem n61_38s : codeB Try.prog LL ⟨61, 45, b, ro⟩ n61_38 st = normS b ⟨[4], [⟨4, 0, 1, true⟩]⟩ .ret st := GE.ret_step (by kernel_rfl) (by kernel_rfl)
theorem n61_36s : codeB Try.prog E cx n61_36 st = thenS (codeB Try.prog E cx n61_37 st) (codeB Try.prog E cx n61_38) := GE.seq_step (by kernel_rfl)
theorem n61_4s : codeB Try.prog E cx n61_4 st = thenS (codeB Try.prog E cx n61_5 st) (codeB Try.prog E cx n61_36) := GE.seq_step (by kernel_rfl)
theorem n61_2s : codeB Try.prog E cx n61_2 st = thenS (codeB Try.prog E cx n61_3 st) (codeB Try.prog E cx n61_4) := GE.seq_step (by kernel_rfl)
theorem n61_0s : codeB Try.prog E cx n61_0 st = thenS (codeB Try.prog E cx n61_1 st) (codeB Try.prog E cx n61_2) := GE.seq_step (by kernel_rfl)
noncomputable def n62_0 : Code := bodyOf Try.f62
noncomputable def n62_1 : Code := cl n62_0
noncomputable def q62_1 : List Oper := opsOf n62_1
noncomputable def n62_2 : Code := cr n62_0
noncomputable def n62_3 : Code := cl n62_2
noncomputable def q62_3 : List Oper := opsOf n62_3
noncomputable def n62_4 : Code := cr n62_2
theorem body62 : Try.f62.body = some n62_0 := by kernel_rfl
theorem run62 (E : Ev) (args : List Value) (h : List Blk) (hl : args.length ≤ 4) : runB Try.prog E 62 args h = endS Try.prog [.tmp 2] h.length (codeB Try.prog E ⟨62, 4, h.length, none⟩ n62_0 ⟨enumT 0 args, h, []⟩) := GE.run_step Try.func62 body62 (by kernel_rfl) (by decide) (by kernel_rfl) hl
theorem n62_1s : codeB Try.prog E ⟨f, 4, b, ro⟩ n62_1 st = plainS (runOps Try.prog E b q62_1 (ops [false] Try.f62) st) := GE.region_step (id := 0) (GE.reg_of (by kernel_rfl)) (by kernel_rfl)
theorem n62_3s : codeB Try.prog E ⟨f, 4, b, ro⟩ n62_3 st = plainS (runOps Try.prog E b q62_3 (ops [true, false] Try.f62) st) := GE.region_step (id := 1) (GE.reg_of (by kernel_rfl)) (by kernel_rfl)
theorem n62_4s : codeB Try.prog LL ⟨62, 4, b, ro⟩ n62_4 st = normS b ⟨[2], []⟩ .ret st := GE.ret_step (by kernel_rfl) (by kernel_rfl)
theorem n62_2s : codeB Try.prog E cx n62_2 st = thenS (codeB Try.prog E cx n62_3 st) (codeB Try.prog E cx n62_4) := GE.seq_step (by kernel_rfl)
theorem n62_0s : codeB Try.prog E cx n62_0 st = thenS (codeB Try.prog E cx n62_1 st) (codeB Try.prog E cx n62_2) := GE.seq_step (by kernel_rfl)
noncomputable def n63_0 : Code := bodyOf Try.f63
noncomputable def n63_1 : Code := cl n63_0
noncomputable def q63_1 : List Oper := opsOf n63_1
noncomputable def n63_2 : Code := cr n63_0
noncomputable def n63_3 : Code := cl n63_2
noncomputable def q63_3 : List Oper := opsOf n63_3
noncomputable def n63_4 : Code := cr n63_2
theorem body63 : Try.f63.body = some n63_0 := by kernel_rfl
theorem run63 (E : Ev) (args : List Value) (h : List Blk) (hl : args.length ≤ 6) : runB Try.prog E 63 args h = endS Try.prog [.tmp 2] h.length (codeB Try.prog E ⟨63, 6, h.length, none⟩ n63_0 ⟨enumT 0 args, h, []⟩) := GE.run_step Try.func63 body63 (by kernel_rfl) (by decide) (by kernel_rfl) hl
theorem n63_1s : codeB Try.prog E ⟨f, 6, b, ro⟩ n63_1 st = plainS (runOps Try.prog E b q63_1 (ops [false] Try.f63) st) := GE.region_step (id := 0) (GE.reg_of (by kernel_rfl)) (by kernel_rfl)
theorem n63_3s : codeB Try.prog E ⟨f, 6, b, ro⟩ n63_3 st = plainS (runOps Try.prog E b q63_3 (ops [true, false] Try.f63) st) := GE.region_step (id := 1) (GE.reg_of (by kernel_rfl)) (by kernel_rfl)
theorem n63_4s : codeB Try.prog LL ⟨63, 6, b, ro⟩ n63_4 st = normS b ⟨[2], []⟩ .ret st := GE.ret_step (by kernel_rfl) (by kernel_rfl)
theorem n63_2s : codeB Try.prog E cx n63_2 st = thenS (codeB Try.prog E cx n63_3 st) (codeB Try.prog E cx n63_4) := GE.seq_step (by kernel_rfl)
theorem n63_0s : codeB Try.prog E cx n63_0 st = thenS (codeB Try.prog E cx n63_1 st) (codeB Try.prog E cx n63_2) := GE.seq_step (by kernel_rfl)
noncomputable def n65_0 : Code := bodyOf Try.f65
noncomputable def n65_1 : Code := cl n65_0
noncomputable def q65_1 : List Oper := opsOf n65_1
noncomputable def n65_2 : Code := cr n65_0
noncomputable def n65_3 : Code := cl n65_2
noncomputable def q65_3 : List Oper := opsOf n65_3
noncomputable def n65_4 : Code := cr n65_2
noncomputable def n65_5 : Code := cl n65_4
noncomputable def n65_6 : Code := cl n65_5
noncomputable def n65_7 : Code := cl n65_6
noncomputable def n65_8 : Code := cl n65_7
noncomputable def n65_9 : Code := cl n65_8
noncomputable def q65_9 : List Oper := opsOf n65_9
noncomputable def n65_10 : Code := cr n65_8
noncomputable def n65_11 : Code := cl n65_10
noncomputable def n65_12 : Code := cr n65_10
noncomputable def n65_13 : Code := cr n65_7
noncomputable def n65_14 : Code := cl n65_13
noncomputable def n65_15 : Code := cl n65_14
noncomputable def q65_15 : List Oper := opsOf n65_15
noncomputable def n65_16 : Code := cr n65_14
noncomputable def n65_17 : Code := cl n65_16
noncomputable def n65_18 : Code := cl n65_17
noncomputable def q65_18 : List Oper := opsOf n65_18
noncomputable def n65_19 : Code := cr n65_17
noncomputable def n65_20 : Code := cl n65_19
noncomputable def q65_20 : List Oper := opsOf n65_20
noncomputable def n65_21 : Code := cr n65_19
noncomputable def n65_22 : Code := cr n65_16
noncomputable def n65_23 : Code := cl n65_22
noncomputable def q65_23 : List Oper := opsOf n65_23
noncomputable def n65_24 : Code := cr n65_22
noncomputable def n65_25 : Code := cl n65_24
noncomputable def q65_25 : List Oper := opsOf n65_25
noncomputable def n65_26 : Code := cr n65_24
noncomputable def n65_27 : Code := cl n65_26
noncomputable def q65_27 : List Oper := opsOf n65_27
noncomputable def n65_28 : Code := cr n65_26
noncomputable def n65_29 : Code := cl n65_28
noncomputable def n65_30 : Code := cl n65_29
noncomputable def q65_30 : List Oper := opsOf n65_30
noncomputable def n65_31 : Code := cr n65_29
noncomputable def n65_32 : Code := cl n65_31
noncomputable def n65_33 : Code := cl n65_32
noncomputable def n65_34 : Code := cl n65_33
noncomputable def q65_34 : List Oper := opsOf n65_34
noncomputable def n65_35 : Code := cr n65_33
noncomputable def n65_36 : Code := cl n65_35
noncomputable def n65_37 : Code := cl n65_36
noncomputable def n65_38 : Code := cr n65_36
noncomputable def n65_39 : Code := cr n65_35
noncomputable def n65_40 : Code := cl n65_39
noncomputable def n65_41 : Code := cl n65_40
noncomputable def n65_42 : Code := cl n65_41
noncomputable def q65_42 : List Oper := opsOf n65_42
noncomputable def n65_43 : Code := cr n65_41
noncomputable def q65_43 : List Oper := opsOf n65_43
noncomputable def n65_44 : Code := cr n65_39
noncomputable def q65_44 : List Oper := opsOf n65_44
noncomputable def n65_45 : Code := cr n65_28
noncomputable def q65_45 : List Oper := opsOf n65_45
noncomputable def n65_46 : Code := cr n65_4
noncomputable def n65_47 : Code := cl n65_46
noncomputable def q65_47 : List Oper := opsOf n65_47
noncomputable def n65_48 : Code := cr n65_46
theorem body65 : Try.f65.body = some n65_0 := by kernel_rfl
theorem run65 (E : Ev) (args : List Value) (h : List Blk) (hl : args.length ≤ 76) : runB Try.prog E 65 args h = endS Try.prog [.tmp 4, .tmp 5] h.length (codeB Try.prog E ⟨65, 76, h.length, none⟩ n65_0 ⟨enumT 0 args, h, []⟩) := GE.run_step Try.func65 body65 (by kernel_rfl) (by decide) (by kernel_rfl) hl
theorem n65_1s : codeB Try.prog E ⟨f, 76, b, ro⟩ n65_1 st = plainS (runOps Try.prog E b q65_1 (ops [false] Try.f65) st) := GE.region_step (id := 0) (GE.reg_of (by kernel_rfl)) (by kernel_rfl)
theorem n65_3s : codeB Try.prog E ⟨f, 76, b, ro⟩ n65_3 st = plainS (runOps Try.prog E b q65_3 (ops [true, false] Try.f65) st) := GE.region_step (id := 1) (GE.reg_of (by kernel_rfl)) (by kernel_rfl)
theorem n65_9s : codeB Try.prog E ⟨f, 76, b, ro⟩ n65_9 st = plainS (runOps Try.prog E b q65_9 (ops [true, true, false, false, false, false, false] Try.f65) st) := GE.region_step (id := 2) (GE.reg_of (by kernel_rfl)) (by kernel_rfl)
theorem n65_11s : codeB Try.prog E cx n65_11 st = some (.normal, st) := GE.skip_step (by kernel_rfl)
theorem n65_12s : codeB Try.prog LL ⟨65, 76, b, ro⟩ n65_12 st = normS b ⟨[0, 4], [⟨0, 0, 1, true⟩]⟩ (.exit 0) st := GE.exit_step (by kernel_rfl) (by kernel_rfl)
theorem n65_10s : codeB Try.prog E cx n65_10 st = condS (codeB Try.prog E cx n65_11) (codeB Try.prog E cx n65_12) (lk st.σ 21) st := GE.cond_step (c := .tmp 21) (by kernel_rfl)
theorem n65_8s : codeB Try.prog E cx n65_8 st = thenS (codeB Try.prog E cx n65_9 st) (codeB Try.prog E cx n65_10) := GE.seq_step (by kernel_rfl)
theorem n65_15s : codeB Try.prog E ⟨f, 76, b, ro⟩ n65_15 st = plainS (runOps Try.prog E b q65_15 (ops [true, true, false, false, false, true, false, false] Try.f65) st) := GE.region_step (id := 3) (GE.reg_of (by kernel_rfl)) (by kernel_rfl)
theorem n65_18s : codeB Try.prog E ⟨f, 76, b, ro⟩ n65_18 st = plainS (runOps Try.prog E b q65_18 (ops [true, true, false, false, false, true, false, true, false, false] Try.f65) st) := GE.region_step (id := 4) (GE.reg_of (by kernel_rfl)) (by kernel_rfl)
theorem n65_20s : codeB Try.prog E ⟨f, 76, b, ro⟩ n65_20 st = plainS (runOps Try.prog E b q65_20 (ops [true, true, false, false, false, true, false, true, false, true, false] Try.f65) st) := GE.region_step (id := 5) (GE.reg_of (by kernel_rfl)) (by kernel_rfl)
theorem n65_21s : codeB Try.prog E cx n65_21 st = some (.normal, st) := GE.skip_step (by kernel_rfl)
theorem n65_19s : codeB Try.prog E cx n65_19 st = condS (codeB Try.prog E cx n65_20) (codeB Try.prog E cx n65_21) (lk st.σ 28) st := GE.cond_step (c := .tmp 28) (by kernel_rfl)
theorem n65_17s : codeB Try.prog E cx n65_17 st = thenS (codeB Try.prog E cx n65_18 st) (codeB Try.prog E cx n65_19) := GE.seq_step (by kernel_rfl)
theorem n65_23s : codeB Try.prog E ⟨f, 76, b, ro⟩ n65_23 st = plainS (runOps Try.prog E b q65_23 (ops [true, true, false, false, false, true, false, true, true, false] Try.f65) st) := GE.region_step (id := 6) (GE.reg_of (by kernel_rfl)) (by kernel_rfl)
theorem n65_25s : codeB Try.prog E ⟨f, 76, b, ro⟩ n65_25 st = plainS (runOps Try.prog E b q65_25 (ops [true, true, false, false, false, true, false, true, true, true, false] Try.f65) st) := GE.region_step (id := 7) (GE.reg_of (by kernel_rfl)) (by kernel_rfl)
theorem n65_27s : codeB Try.prog E ⟨f, 76, b, ro⟩ n65_27 st = plainS (runOps Try.prog E b q65_27 (ops [true, true, false, false, false, true, false, true, true, true, true, false] Try.f65) st) := GE.region_step (id := 8) (GE.reg_of (by kernel_rfl)) (by kernel_rfl)
theorem n65_30s : codeB Try.prog E ⟨f, 76, b, ro⟩ n65_30 st = plainS (runOps Try.prog E b q65_30 (ops [true, true, false, false, false, true, false, true, true, true, true, true, false, false] Try.f65) st) := GE.region_step (id := 9) (GE.reg_of (by kernel_rfl)) (by kernel_rfl)
theorem n65_34s : codeB Try.prog E ⟨f, 76, b, ro⟩ n65_34 st = plainS (runOps Try.prog E b q65_34 (ops [true, true, false, false, false, true, false, true, true, true, true, true, false, true, false, false, false] Try.f65) st) := GE.region_step (id := 10) (GE.reg_of (by kernel_rfl)) (by kernel_rfl)
theorem n65_37s : codeB Try.prog E cx n65_37 st = some (.normal, st) := GE.skip_step (by kernel_rfl)
theorem n65_38s : codeB Try.prog LL ⟨65, 76, b, ro⟩ n65_38 st = normS b ⟨[0, 1, 4, 6], [⟨0, 0, 1, true⟩, ⟨1, 0, 1, true⟩, ⟨4, 0, 1, true⟩]⟩ (.exit 2) st := GE.exit_step (by kernel_rfl) (by kernel_rfl)
theorem n65_36s : codeB Try.prog E cx n65_36 st = condS (codeB Try.prog E cx n65_37) (codeB Try.prog E cx n65_38) (lk st.σ 54) st := GE.cond_step (c := .tmp 54) (by kernel_rfl)
theorem n65_42s : codeB Try.prog E ⟨f, 76, b, ro⟩ n65_42 st = plainS (runOps Try.prog E b q65_42 (ops [true, true, false, false, false, true, false, true, true, true, true, true, false, true, false, false, true, true, false, false, false] Try.f65) st) := GE.region_step (id := 11) (GE.reg_of (by kernel_rfl)) (by kernel_rfl)
theorem n65_43s : codeB Try.prog E ⟨f, 76, b, ro⟩ n65_43 st = plainS (runOps Try.prog E b q65_43 (ops [true, true, false, false, false, true, false, true, true, true, true, true, false, true, false, false, true, true, false, false, true] Try.f65) st) := GE.region_step (id := 12) (GE.reg_of (by kernel_rfl)) (by kernel_rfl)
theorem n65_41s : codeB Try.prog E cx n65_41 st = thenS (codeB Try.prog E cx n65_42 st) (codeB Try.prog E cx n65_43) := GE.seq_step (by kernel_rfl)
theorem n65_40s : codeB Try.prog E cx n65_40 st = blockS 3 (codeB Try.prog E cx n65_41 st) st := GE.block_step (by kernel_rfl)
theorem n65_44s : codeB Try.prog E ⟨f, 76, b, ro⟩ n65_44 st = plainS (runOps Try.prog E b q65_44 (ops [true, true, false, false, false, true, false, true, true, true, true, true, false, true, false, false, true, true, true] Try.f65) st) := GE.region_step (id := 13) (GE.reg_of (by kernel_rfl)) (by kernel_rfl)
theorem n65_39s : codeB Try.prog E cx n65_39 st = thenS (codeB Try.prog E cx n65_40 st) (codeB Try.prog E cx n65_44) := GE.seq_step (by kernel_rfl)
theorem n65_35s : codeB Try.prog E cx n65_35 st = thenS (codeB Try.prog E cx n65_36 st) (codeB Try.prog E cx n65_39) := GE.seq_step (by kernel_rfl)
theorem n65_33s : codeB Try.prog E cx n65_33 st = thenS (codeB Try.prog E cx n65_34 st) (codeB Try.prog E cx n65_35) := GE.seq_step (by kernel_rfl)
theorem n65_32k : LL.kp (⟨65, 76, b, ro⟩ : Cx).fn (4 * rid n65_33 + 3) = some ⟨[7, 8, 51, 52, 53, 0, 1, 4, 6], [⟨51, 0, 1, true⟩, ⟨0, 0, 1, true⟩, ⟨1, 0, 1, true⟩, ⟨4, 0, 1, true⟩]⟩ := by kernel_rfl
theorem n65_32s : codeB Try.prog LL ⟨65, 76, b, ro⟩ n65_32 st = headS b ⟨[7, 8, 51, 52, 53, 0, 1, 4, 6], [⟨51, 0, 1, true⟩, ⟨0, 0, 1, true⟩, ⟨1, 0, 1, true⟩, ⟨4, 0, 1, true⟩]⟩ st (lpB Try.prog LL ⟨65, 76, b, ro⟩ n65_32 n65_33) := GE.lpB_step (by kernel_rfl) (n65_32k b ro)
theorem n65_32g : LL.code ⟨65, 76, b, ro⟩ n65_32 st = headS b ⟨[7, 8, 51, 52, 53, 0, 1, 4, 6], [⟨51, 0, 1, true⟩, ⟨0, 0, 1, true⟩, ⟨1, 0, 1, true⟩, ⟨4, 0, 1, true⟩]⟩ st (lpB Try.prog LL ⟨65, 76, b, ro⟩ n65_32 n65_33) := GE.lpB_again (by kernel_rfl) (n65_32k b ro)
theorem n65_31s : codeB Try.prog E cx n65_31 st = blockS 2 (codeB Try.prog E cx n65_32 st) st := GE.block_step (by kernel_rfl)
theorem n65_29s : codeB Try.prog E cx n65_29 st = thenS (codeB Try.prog E cx n65_30 st) (codeB Try.prog E cx n65_31) := GE.seq_step (by kernel_rfl)
theorem n65_45s : codeB Try.prog E ⟨f, 76, b, ro⟩ n65_45 st = plainS (runOps Try.prog E b q65_45 (ops [true, true, false, false, false, true, false, true, true, true, true, true, true] Try.f65) st) := GE.region_step (id := 14) (GE.reg_of (by kernel_rfl)) (by kernel_rfl)
theorem n65_28s : codeB Try.prog E cx n65_28 st = thenS (codeB Try.prog E cx n65_29 st) (codeB Try.prog E cx n65_45) := GE.seq_step (by kernel_rfl)
theorem n65_26s : codeB Try.prog E cx n65_26 st = thenS (codeB Try.prog E cx n65_27 st) (codeB Try.prog E cx n65_28) := GE.seq_step (by kernel_rfl)
theorem n65_24s : codeB Try.prog E cx n65_24 st = thenS (codeB Try.prog E cx n65_25 st) (codeB Try.prog E cx n65_26) := GE.seq_step (by kernel_rfl)
theorem n65_22s : codeB Try.prog E cx n65_22 st = thenS (codeB Try.prog E cx n65_23 st) (codeB Try.prog E cx n65_24) := GE.seq_step (by kernel_rfl)
theorem n65_16s : codeB Try.prog E cx n65_16 st = thenS (codeB Try.prog E cx n65_17 st) (codeB Try.prog E cx n65_22) := GE.seq_step (by kernel_rfl)
theorem n65_14s : codeB Try.prog E cx n65_14 st = thenS (codeB Try.prog E cx n65_15 st) (codeB Try.prog E cx n65_16) := GE.seq_step (by kernel_rfl)
theorem n65_13s : codeB Try.prog E cx n65_13 st = blockS 1 (codeB Try.prog E cx n65_14 st) st := GE.block_step (by kernel_rfl)
theorem n65_7s : codeB Try.prog E cx n65_7 st = thenS (codeB Try.prog E cx n65_8 st) (codeB Try.prog E cx n65_13) := GE.seq_step (by kernel_rfl)
theorem n65_6k : LL.kp (⟨65, 76, b, ro⟩ : Cx).fn (4 * rid n65_7 + 3) = some ⟨[0, 1, 4, 6], [⟨0, 0, 1, true⟩, ⟨1, 0, 1, true⟩]⟩ := by kernel_rfl
theorem n65_6s : codeB Try.prog LL ⟨65, 76, b, ro⟩ n65_6 st = headS b ⟨[0, 1, 4, 6], [⟨0, 0, 1, true⟩, ⟨1, 0, 1, true⟩]⟩ st (lpB Try.prog LL ⟨65, 76, b, ro⟩ n65_6 n65_7) := GE.lpB_step (by kernel_rfl) (n65_6k b ro)
theorem n65_6g : LL.code ⟨65, 76, b, ro⟩ n65_6 st = headS b ⟨[0, 1, 4, 6], [⟨0, 0, 1, true⟩, ⟨1, 0, 1, true⟩]⟩ st (lpB Try.prog LL ⟨65, 76, b, ro⟩ n65_6 n65_7) := GE.lpB_again (by kernel_rfl) (n65_6k b ro)
theorem n65_5s : codeB Try.prog E cx n65_5 st = blockS 0 (codeB Try.prog E cx n65_6 st) st := GE.block_step (by kernel_rfl)
theorem n65_47s : codeB Try.prog E ⟨f, 76, b, ro⟩ n65_47 st = plainS (runOps Try.prog E b q65_47 (ops [true, true, true, false] Try.f65) st) := GE.region_step (id := 15) (GE.reg_of (by kernel_rfl)) (by kernel_rfl)
theorem n65_48s : codeB Try.prog LL ⟨65, 76, b, ro⟩ n65_48 st = normS b ⟨[4, 5], [⟨4, 0, 1, true⟩, ⟨5, 0, 1, true⟩]⟩ .ret st := GE.ret_step (by kernel_rfl) (by kernel_rfl)
theorem n65_46s : codeB Try.prog E cx n65_46 st = thenS (codeB Try.prog E cx n65_47 st) (codeB Try.prog E cx n65_48) := GE.seq_step (by kernel_rfl)
theorem n65_4s : codeB Try.prog E cx n65_4 st = thenS (codeB Try.prog E cx n65_5 st) (codeB Try.prog E cx n65_46) := GE.seq_step (by kernel_rfl)
theorem n65_2s : codeB Try.prog E cx n65_2 st = thenS (codeB Try.prog E cx n65_3 st) (codeB Try.prog E cx n65_4) := GE.seq_step (by kernel_rfl)
theorem n65_0s : codeB Try.prog E cx n65_0 st = thenS (codeB Try.prog E cx n65_1 st) (codeB Try.prog E cx n65_2) := GE.seq_step (by kernel_rfl)
noncomputable def n66_0 : Code := bodyOf Try.f66
noncomputable def n66_1 : Code := cl n66_0
noncomputable def q66_1 : List Oper := opsOf n66_1
noncomputable def n66_2 : Code := cr n66_0
noncomputable def n66_3 : Code := cl n66_2
noncomputable def q66_3 : List Oper := opsOf n66_3
noncomputable def n66_4 : Code := cr n66_2
noncomputable def n66_5 : Code := cl n66_4
noncomputable def n66_6 : Code := cl n66_5
noncomputable def q66_6 : List Oper := opsOf n66_6
noncomputable def n66_7 : Code := cr n66_5
noncomputable def n66_8 : Code := cl n66_7
noncomputable def n66_9 : Code := cl n66_8
noncomputable def n66_10 : Code := cl n66_9
noncomputable def q66_10 : List Oper := opsOf n66_10
noncomputable def n66_11 : Code := cr n66_9
noncomputable def n66_12 : Code := cl n66_11
noncomputable def n66_13 : Code := cl n66_12
noncomputable def n66_14 : Code := cr n66_12
noncomputable def n66_15 : Code := cr n66_11
noncomputable def n66_16 : Code := cl n66_15
noncomputable def n66_17 : Code := cl n66_16
noncomputable def n66_18 : Code := cl n66_17
noncomputable def q66_18 : List Oper := opsOf n66_18
noncomputable def n66_19 : Code := cr n66_17
noncomputable def q66_19 : List Oper := opsOf n66_19
noncomputable def n66_20 : Code := cr n66_15
noncomputable def q66_20 : List Oper := opsOf n66_20
noncomputable def n66_21 : Code := cr n66_4
noncomputable def n66_22 : Code := cl n66_21
noncomputable def q66_22 : List Oper := opsOf n66_22
noncomputable def n66_23 : Code := cr n66_21
theorem body66 : Try.f66.body = some n66_0 := by kernel_rfl
theorem run66 (E : Ev) (args : List Value) (h : List Blk) (hl : args.length ≤ 26) : runB Try.prog E 66 args h = endS Try.prog [.tmp 4] h.length (codeB Try.prog E ⟨66, 26, h.length, none⟩ n66_0 ⟨enumT 0 args, h, []⟩) := GE.run_step Try.func66 body66 (by kernel_rfl) (by decide) (by kernel_rfl) hl
theorem n66_1s : codeB Try.prog E ⟨f, 26, b, ro⟩ n66_1 st = plainS (runOps Try.prog E b q66_1 (ops [false] Try.f66) st) := GE.region_step (id := 0) (GE.reg_of (by kernel_rfl)) (by kernel_rfl)
theorem n66_3s : codeB Try.prog E ⟨f, 26, b, ro⟩ n66_3 st = plainS (runOps Try.prog E b q66_3 (ops [true, false] Try.f66) st) := GE.region_step (id := 1) (GE.reg_of (by kernel_rfl)) (by kernel_rfl)
theorem n66_6s : codeB Try.prog E ⟨f, 26, b, ro⟩ n66_6 st = plainS (runOps Try.prog E b q66_6 (ops [true, true, false, false] Try.f66) st) := GE.region_step (id := 2) (GE.reg_of (by kernel_rfl)) (by kernel_rfl)
theorem n66_10s : codeB Try.prog E ⟨f, 26, b, ro⟩ n66_10 st = plainS (runOps Try.prog E b q66_10 (ops [true, true, false, true, false, false, false] Try.f66) st) := GE.region_step (id := 3) (GE.reg_of (by kernel_rfl)) (by kernel_rfl)
theorem n66_13s : codeB Try.prog E cx n66_13 st = some (.normal, st) := GE.skip_step (by kernel_rfl)
theorem n66_14s : codeB Try.prog LL ⟨66, 26, b, ro⟩ n66_14 st = normS b ⟨[5], [⟨5, 0, 1, true⟩]⟩ (.exit 0) st := GE.exit_step (by kernel_rfl) (by kernel_rfl)
theorem n66_12s : codeB Try.prog E cx n66_12 st = condS (codeB Try.prog E cx n66_13) (codeB Try.prog E cx n66_14) (lk st.σ 14) st := GE.cond_step (c := .tmp 14) (by kernel_rfl)
theorem n66_18s : codeB Try.prog E ⟨f, 26, b, ro⟩ n66_18 st = plainS (runOps Try.prog E b q66_18 (ops [true, true, false, true, false, false, true, true, false, false, false] Try.f66) st) := GE.region_step (id := 4) (GE.reg_of (by kernel_rfl)) (by kernel_rfl)
theorem n66_19s : codeB Try.prog E ⟨f, 26, b, ro⟩ n66_19 st = plainS (runOps Try.prog E b q66_19 (ops [true, true, false, true, false, false, true, true, false, false, true] Try.f66) st) := GE.region_step (id := 5) (GE.reg_of (by kernel_rfl)) (by kernel_rfl)
theorem n66_17s : codeB Try.prog E cx n66_17 st = thenS (codeB Try.prog E cx n66_18 st) (codeB Try.prog E cx n66_19) := GE.seq_step (by kernel_rfl)
theorem n66_16s : codeB Try.prog E cx n66_16 st = blockS 1 (codeB Try.prog E cx n66_17 st) st := GE.block_step (by kernel_rfl)
theorem n66_20s : codeB Try.prog E ⟨f, 26, b, ro⟩ n66_20 st = plainS (runOps Try.prog E b q66_20 (ops [true, true, false, true, false, false, true, true, true] Try.f66) st) := GE.region_step (id := 6) (GE.reg_of (by kernel_rfl)) (by kernel_rfl)
theorem n66_15s : codeB Try.prog E cx n66_15 st = thenS (codeB Try.prog E cx n66_16 st) (codeB Try.prog E cx n66_20) := GE.seq_step (by kernel_rfl)
theorem n66_11s : codeB Try.prog E cx n66_11 st = thenS (codeB Try.prog E cx n66_12 st) (codeB Try.prog E cx n66_15) := GE.seq_step (by kernel_rfl)
theorem n66_9s : codeB Try.prog E cx n66_9 st = thenS (codeB Try.prog E cx n66_10 st) (codeB Try.prog E cx n66_11) := GE.seq_step (by kernel_rfl)
theorem n66_8k : LL.kp (⟨66, 26, b, ro⟩ : Cx).fn (4 * rid n66_9 + 3) = some ⟨[1, 5, 11, 12, 13], [⟨5, 0, 1, true⟩, ⟨11, 0, 1, true⟩]⟩ := by kernel_rfl
theorem n66_8s : codeB Try.prog LL ⟨66, 26, b, ro⟩ n66_8 st = headS b ⟨[1, 5, 11, 12, 13], [⟨5, 0, 1, true⟩, ⟨11, 0, 1, true⟩]⟩ st (lpB Try.prog LL ⟨66, 26, b, ro⟩ n66_8 n66_9) := GE.lpB_step (by kernel_rfl) (n66_8k b ro)
theorem n66_8g : LL.code ⟨66, 26, b, ro⟩ n66_8 st = headS b ⟨[1, 5, 11, 12, 13], [⟨5, 0, 1, true⟩, ⟨11, 0, 1, true⟩]⟩ st (lpB Try.prog LL ⟨66, 26, b, ro⟩ n66_8 n66_9) := GE.lpB_again (by kernel_rfl) (n66_8k b ro)
theorem n66_7s : codeB Try.prog E cx n66_7 st = blockS 0 (codeB Try.prog E cx n66_8 st) st := GE.block_step (by kernel_rfl)
theorem n66_5s : codeB Try.prog E cx n66_5 st = thenS (codeB Try.prog E cx n66_6 st) (codeB Try.prog E cx n66_7) := GE.seq_step (by kernel_rfl)
theorem n66_22s : codeB Try.prog E ⟨f, 26, b, ro⟩ n66_22 st = plainS (runOps Try.prog E b q66_22 (ops [true, true, true, false] Try.f66) st) := GE.region_step (id := 7) (GE.reg_of (by kernel_rfl)) (by kernel_rfl)
theorem n66_23s : codeB Try.prog LL ⟨66, 26, b, ro⟩ n66_23 st = normS b ⟨[4], [⟨4, 0, 1, true⟩]⟩ .ret st := GE.ret_step (by kernel_rfl) (by kernel_rfl)
theorem n66_21s : codeB Try.prog E cx n66_21 st = thenS (codeB Try.prog E cx n66_22 st) (codeB Try.prog E cx n66_23) := GE.seq_step (by kernel_rfl)
theorem n66_4s : codeB Try.prog E cx n66_4 st = thenS (codeB Try.prog E cx n66_5 st) (codeB Try.prog E cx n66_21) := GE.seq_step (by kernel_rfl)
theorem n66_2s : codeB Try.prog E cx n66_2 st = thenS (codeB Try.prog E cx n66_3 st) (codeB Try.prog E cx n66_4) := GE.seq_step (by kernel_rfl)
theorem n66_0s : codeB Try.prog E cx n66_0 st = thenS (codeB Try.prog E cx n66_1 st) (codeB Try.prog E cx n66_2) := GE.seq_step (by kernel_rfl)
noncomputable def n67_0 : Code := bodyOf Try.f67
noncomputable def n67_1 : Code := cl n67_0
noncomputable def q67_1 : List Oper := opsOf n67_1
noncomputable def n67_2 : Code := cr n67_0
noncomputable def n67_3 : Code := cl n67_2
noncomputable def q67_3 : List Oper := opsOf n67_3
noncomputable def n67_4 : Code := cr n67_2
theorem body67 : Try.f67.body = some n67_0 := by kernel_rfl
theorem run67 (E : Ev) (args : List Value) (h : List Blk) (hl : args.length ≤ 9) : runB Try.prog E 67 args h = endS Try.prog [.tmp 2] h.length (codeB Try.prog E ⟨67, 9, h.length, none⟩ n67_0 ⟨enumT 0 args, h, []⟩) := GE.run_step Try.func67 body67 (by kernel_rfl) (by decide) (by kernel_rfl) hl
theorem n67_1s : codeB Try.prog E ⟨f, 9, b, ro⟩ n67_1 st = plainS (runOps Try.prog E b q67_1 (ops [false] Try.f67) st) := GE.region_step (id := 0) (GE.reg_of (by kernel_rfl)) (by kernel_rfl)
theorem n67_3s : codeB Try.prog E ⟨f, 9, b, ro⟩ n67_3 st = plainS (runOps Try.prog E b q67_3 (ops [true, false] Try.f67) st) := GE.region_step (id := 1) (GE.reg_of (by kernel_rfl)) (by kernel_rfl)
theorem n67_4s : codeB Try.prog LL ⟨67, 9, b, ro⟩ n67_4 st = normS b ⟨[2], []⟩ .ret st := GE.ret_step (by kernel_rfl) (by kernel_rfl)
theorem n67_2s : codeB Try.prog E cx n67_2 st = thenS (codeB Try.prog E cx n67_3 st) (codeB Try.prog E cx n67_4) := GE.seq_step (by kernel_rfl)
theorem n67_0s : codeB Try.prog E cx n67_0 st = thenS (codeB Try.prog E cx n67_1 st) (codeB Try.prog E cx n67_2) := GE.seq_step (by kernel_rfl)
noncomputable def n70_0 : Code := bodyOf Try.f70
noncomputable def n70_1 : Code := cl n70_0
noncomputable def q70_1 : List Oper := opsOf n70_1
noncomputable def n70_2 : Code := cr n70_0
noncomputable def n70_3 : Code := cl n70_2
noncomputable def n70_4 : Code := cl n70_3
noncomputable def q70_4 : List Oper := opsOf n70_4
noncomputable def n70_5 : Code := cr n70_3
noncomputable def n70_6 : Code := cl n70_5
noncomputable def n70_7 : Code := cl n70_6
noncomputable def q70_7 : List Oper := opsOf n70_7
noncomputable def n70_8 : Code := cr n70_6
noncomputable def n70_9 : Code := cr n70_5
noncomputable def n70_10 : Code := cr n70_2
noncomputable def n70_11 : Code := cl n70_10
noncomputable def q70_11 : List Oper := opsOf n70_11
noncomputable def n70_12 : Code := cr n70_10
noncomputable def n70_13 : Code := cl n70_12
noncomputable def q70_13 : List Oper := opsOf n70_13
noncomputable def n70_14 : Code := cr n70_12
theorem body70 : Try.f70.body = some n70_0 := by kernel_rfl
theorem run70 (E : Ev) (args : List Value) (h : List Blk) (hl : args.length ≤ 26) : runB Try.prog E 70 args h = endS Try.prog [.tmp 4] h.length (codeB Try.prog E ⟨70, 26, h.length, none⟩ n70_0 ⟨enumT 0 args, h, []⟩) := GE.run_step Try.func70 body70 (by kernel_rfl) (by decide) (by kernel_rfl) hl
theorem n70_1s : codeB Try.prog E ⟨f, 26, b, ro⟩ n70_1 st = plainS (runOps Try.prog E b q70_1 (ops [false] Try.f70) st) := GE.region_step (id := 0) (GE.reg_of (by kernel_rfl)) (by kernel_rfl)
theorem n70_4s : codeB Try.prog E ⟨f, 26, b, ro⟩ n70_4 st = plainS (runOps Try.prog E b q70_4 (ops [true, false, false] Try.f70) st) := GE.region_step (id := 1) (GE.reg_of (by kernel_rfl)) (by kernel_rfl)
theorem n70_7s : codeB Try.prog E ⟨f, 26, b, ro⟩ n70_7 st = plainS (runOps Try.prog E b q70_7 (ops [true, false, true, false, false] Try.f70) st) := GE.region_step (id := 2) (GE.reg_of (by kernel_rfl)) (by kernel_rfl)
theorem n70_8s : codeB Try.prog LL ⟨70, 26, b, ro⟩ n70_8 st = normS b ⟨[4], [⟨4, 0, 1, false⟩]⟩ .ret st := GE.ret_step (by kernel_rfl) (by kernel_rfl)
theorem n70_6s : codeB Try.prog E cx n70_6 st = thenS (codeB Try.prog E cx n70_7 st) (codeB Try.prog E cx n70_8) := GE.seq_step (by kernel_rfl)
theorem n70_9s : codeB Try.prog E cx n70_9 st = some (.normal, st) := GE.skip_step (by kernel_rfl)
theorem n70_5s : codeB Try.prog E cx n70_5 st = condS (codeB Try.prog E cx n70_6) (codeB Try.prog E cx n70_9) (lk st.σ 9) st := GE.cond_step (c := .tmp 9) (by kernel_rfl)
theorem n70_3s : codeB Try.prog E cx n70_3 st = thenS (codeB Try.prog E cx n70_4 st) (codeB Try.prog E cx n70_5) := GE.seq_step (by kernel_rfl)
theorem n70_11s : codeB Try.prog E ⟨f, 26, b, ro⟩ n70_11 st = plainS (runOps Try.prog E b q70_11 (ops [true, true, false] Try.f70) st) := GE.region_step (id := 3) (GE.reg_of (by kernel_rfl)) (by kernel_rfl)
theorem n70_13s : codeB Try.prog E ⟨f, 26, b, ro⟩ n70_13 st = plainS (runOps Try.prog E b q70_13 (ops [true, true, true, false] Try.f70) st) := GE.region_step (id := 4) (GE.reg_of (by kernel_rfl)) (by kernel_rfl)
theorem n70_14s : codeB Try.prog LL ⟨70, 26, b, ro⟩ n70_14 st = normS b ⟨[4], [⟨4, 0, 1, false⟩]⟩ .ret st := GE.ret_step (by kernel_rfl) (by kernel_rfl)
theorem n70_12s : codeB Try.prog E cx n70_12 st = thenS (codeB Try.prog E cx n70_13 st) (codeB Try.prog E cx n70_14) := GE.seq_step (by kernel_rfl)
theorem n70_10s : codeB Try.prog E cx n70_10 st = thenS (codeB Try.prog E cx n70_11 st) (codeB Try.prog E cx n70_12) := GE.seq_step (by kernel_rfl)
theorem n70_2s : codeB Try.prog E cx n70_2 st = thenS (codeB Try.prog E cx n70_3 st) (codeB Try.prog E cx n70_10) := GE.seq_step (by kernel_rfl)
theorem n70_0s : codeB Try.prog E cx n70_0 st = thenS (codeB Try.prog E cx n70_1 st) (codeB Try.prog E cx n70_2) := GE.seq_step (by kernel_rfl)
noncomputable def n71_0 : Code := bodyOf Try.f71
noncomputable def n71_1 : Code := cl n71_0
noncomputable def q71_1 : List Oper := opsOf n71_1
noncomputable def n71_2 : Code := cr n71_0
noncomputable def n71_3 : Code := cl n71_2
noncomputable def q71_3 : List Oper := opsOf n71_3
noncomputable def n71_4 : Code := cr n71_2
noncomputable def n71_5 : Code := cl n71_4
noncomputable def n71_6 : Code := cl n71_5
noncomputable def q71_6 : List Oper := opsOf n71_6
noncomputable def n71_7 : Code := cr n71_5
noncomputable def n71_8 : Code := cl n71_7
noncomputable def n71_9 : Code := cl n71_8
noncomputable def n71_10 : Code := cl n71_9
noncomputable def q71_10 : List Oper := opsOf n71_10
noncomputable def n71_11 : Code := cr n71_9
noncomputable def n71_12 : Code := cl n71_11
noncomputable def n71_13 : Code := cl n71_12
noncomputable def n71_14 : Code := cr n71_12
noncomputable def n71_15 : Code := cr n71_11
noncomputable def n71_16 : Code := cl n71_15
noncomputable def n71_17 : Code := cl n71_16
noncomputable def n71_18 : Code := cl n71_17
noncomputable def q71_18 : List Oper := opsOf n71_18
noncomputable def n71_19 : Code := cr n71_17
noncomputable def n71_20 : Code := cl n71_19
noncomputable def n71_21 : Code := cl n71_20
noncomputable def q71_21 : List Oper := opsOf n71_21
noncomputable def n71_22 : Code := cr n71_20
noncomputable def n71_23 : Code := cl n71_22
noncomputable def n71_24 : Code := cl n71_23
noncomputable def n71_25 : Code := cl n71_24
noncomputable def n71_26 : Code := cl n71_25
noncomputable def q71_26 : List Oper := opsOf n71_26
noncomputable def n71_27 : Code := cr n71_25
noncomputable def n71_28 : Code := cl n71_27
noncomputable def n71_29 : Code := cr n71_27
noncomputable def n71_30 : Code := cr n71_24
noncomputable def n71_31 : Code := cl n71_30
noncomputable def q71_31 : List Oper := opsOf n71_31
noncomputable def n71_32 : Code := cr n71_19
noncomputable def n71_33 : Code := cl n71_32
noncomputable def q71_33 : List Oper := opsOf n71_33
noncomputable def n71_34 : Code := cr n71_32
noncomputable def n71_35 : Code := cl n71_34
noncomputable def q71_35 : List Oper := opsOf n71_35
noncomputable def n71_36 : Code := cr n71_34
noncomputable def n71_37 : Code := cr n71_15
noncomputable def q71_37 : List Oper := opsOf n71_37
noncomputable def n71_38 : Code := cr n71_4
noncomputable def n71_39 : Code := cl n71_38
noncomputable def q71_39 : List Oper := opsOf n71_39
noncomputable def n71_40 : Code := cr n71_38
noncomputable def n71_41 : Code := cl n71_40
noncomputable def n71_42 : Code := cl n71_41
noncomputable def q71_42 : List Oper := opsOf n71_42
noncomputable def n71_43 : Code := cr n71_41
noncomputable def n71_44 : Code := cl n71_43
noncomputable def n71_45 : Code := cl n71_44
noncomputable def n71_46 : Code := cl n71_45
noncomputable def q71_46 : List Oper := opsOf n71_46
noncomputable def n71_47 : Code := cr n71_45
noncomputable def n71_48 : Code := cl n71_47
noncomputable def n71_49 : Code := cl n71_48
noncomputable def n71_50 : Code := cr n71_48
noncomputable def n71_51 : Code := cr n71_47
noncomputable def n71_52 : Code := cl n71_51
noncomputable def n71_53 : Code := cl n71_52
noncomputable def n71_54 : Code := cl n71_53
noncomputable def q71_54 : List Oper := opsOf n71_54
noncomputable def n71_55 : Code := cr n71_53
noncomputable def q71_55 : List Oper := opsOf n71_55
noncomputable def n71_56 : Code := cr n71_51
noncomputable def q71_56 : List Oper := opsOf n71_56
noncomputable def n71_57 : Code := cr n71_40
noncomputable def n71_58 : Code := cl n71_57
noncomputable def q71_58 : List Oper := opsOf n71_58
noncomputable def n71_59 : Code := cr n71_57
theorem body71 : Try.f71.body = some n71_0 := by kernel_rfl
theorem run71 (E : Ev) (args : List Value) (h : List Blk) (hl : args.length ≤ 50) : runB Try.prog E 71 args h = endS Try.prog [.tmp 2] h.length (codeB Try.prog E ⟨71, 50, h.length, none⟩ n71_0 ⟨enumT 0 args, h, []⟩) := GE.run_step Try.func71 body71 (by kernel_rfl) (by decide) (by kernel_rfl) hl
theorem n71_1s : codeB Try.prog E ⟨f, 50, b, ro⟩ n71_1 st = plainS (runOps Try.prog E b q71_1 (ops [false] Try.f71) st) := GE.region_step (id := 0) (GE.reg_of (by kernel_rfl)) (by kernel_rfl)
theorem n71_3s : codeB Try.prog E ⟨f, 50, b, ro⟩ n71_3 st = plainS (runOps Try.prog E b q71_3 (ops [true, false] Try.f71) st) := GE.region_step (id := 1) (GE.reg_of (by kernel_rfl)) (by kernel_rfl)
theorem n71_6s : codeB Try.prog E ⟨f, 50, b, ro⟩ n71_6 st = plainS (runOps Try.prog E b q71_6 (ops [true, true, false, false] Try.f71) st) := GE.region_step (id := 2) (GE.reg_of (by kernel_rfl)) (by kernel_rfl)
theorem n71_10s : codeB Try.prog E ⟨f, 50, b, ro⟩ n71_10 st = plainS (runOps Try.prog E b q71_10 (ops [true, true, false, true, false, false, false] Try.f71) st) := GE.region_step (id := 3) (GE.reg_of (by kernel_rfl)) (by kernel_rfl)
theorem n71_13s : codeB Try.prog E cx n71_13 st = some (.normal, st) := GE.skip_step (by kernel_rfl)
theorem n71_14s : codeB Try.prog LL ⟨71, 50, b, ro⟩ n71_14 st = normS b ⟨[0, 3, 4], [⟨0, 0, 1, true⟩]⟩ (.exit 0) st := GE.exit_step (by kernel_rfl) (by kernel_rfl)
theorem n71_12s : codeB Try.prog E cx n71_12 st = condS (codeB Try.prog E cx n71_13) (codeB Try.prog E cx n71_14) (lk st.σ 13) st := GE.cond_step (c := .tmp 13) (by kernel_rfl)
theorem n71_18s : codeB Try.prog E ⟨f, 50, b, ro⟩ n71_18 st = plainS (runOps Try.prog E b q71_18 (ops [true, true, false, true, false, false, true, true, false, false, false] Try.f71) st) := GE.region_step (id := 4) (GE.reg_of (by kernel_rfl)) (by kernel_rfl)
theorem n71_21s : codeB Try.prog E ⟨f, 50, b, ro⟩ n71_21 st = plainS (runOps Try.prog E b q71_21 (ops [true, true, false, true, false, false, true, true, false, false, true, false, false] Try.f71) st) := GE.region_step (id := 5) (GE.reg_of (by kernel_rfl)) (by kernel_rfl)
theorem n71_26s : codeB Try.prog E ⟨f, 50, b, ro⟩ n71_26 st = plainS (runOps Try.prog E b q71_26 (ops [true, true, false, true, false, false, true, true, false, false, true, false, true, false, false, false, false] Try.f71) st) := GE.region_step (id := 6) (GE.reg_of (by kernel_rfl)) (by kernel_rfl)
theorem n71_28s : codeB Try.prog E cx n71_28 st = some (.normal, st) := GE.skip_step (by kernel_rfl)
theorem n71_29s : codeB Try.prog LL ⟨71, 50, b, ro⟩ n71_29 st = normS b ⟨[5, 6, 0, 3, 4, 10, 11, 12], [⟨0, 0, 1, true⟩, ⟨10, 0, 1, true⟩]⟩ (.exit 2) st := GE.exit_step (by kernel_rfl) (by kernel_rfl)
theorem n71_27s : codeB Try.prog E cx n71_27 st = condS (codeB Try.prog E cx n71_28) (codeB Try.prog E cx n71_29) (lk st.σ 22) st := GE.cond_step (c := .tmp 22) (by kernel_rfl)
theorem n71_25s : codeB Try.prog E cx n71_25 st = thenS (codeB Try.prog E cx n71_26 st) (codeB Try.prog E cx n71_27) := GE.seq_step (by kernel_rfl)
theorem n71_31s : codeB Try.prog E ⟨f, 50, b, ro⟩ n71_31 st = drawS [0, 0, 0, 6, 3, 31] (runOpsF Try.prog E b q71_31 (ops [true, true, false, true, false, false, true, true, false, false, true, false, true, false, false, true, false] Try.f71) st) := GE.draw_step (id := 7) (GE.reg_of (by kernel_rfl)) (by kernel_rfl) (by kernel_rfl) (by kernel_rfl)
theorem n71_30s : codeB Try.prog E cx n71_30 st = blockS 3 (codeB Try.prog E cx n71_31 st) st := GE.block_step (by kernel_rfl)
theorem n71_24s : codeB Try.prog E cx n71_24 st = thenS (codeB Try.prog E cx n71_25 st) (codeB Try.prog E cx n71_30) := GE.seq_step (by kernel_rfl)
theorem n71_23k : LL.kp (⟨71, 50, b, ro⟩ : Cx).fn (4 * rid n71_24 + 3) = some ⟨[5, 6, 7, 0, 3, 4, 10, 11, 12], [⟨0, 0, 1, true⟩, ⟨10, 0, 1, true⟩]⟩ := by kernel_rfl
theorem n71_23s : codeB Try.prog LL ⟨71, 50, b, ro⟩ n71_23 st = headS b ⟨[5, 6, 7, 0, 3, 4, 10, 11, 12], [⟨0, 0, 1, true⟩, ⟨10, 0, 1, true⟩]⟩ st (lpB Try.prog LL ⟨71, 50, b, ro⟩ n71_23 n71_24) := GE.lpB_step (by kernel_rfl) (n71_23k b ro)
theorem n71_23g : LL.code ⟨71, 50, b, ro⟩ n71_23 st = headS b ⟨[5, 6, 7, 0, 3, 4, 10, 11, 12], [⟨0, 0, 1, true⟩, ⟨10, 0, 1, true⟩]⟩ st (lpB Try.prog LL ⟨71, 50, b, ro⟩ n71_23 n71_24) := GE.lpB_again (by kernel_rfl) (n71_23k b ro)
theorem n71_22s : codeB Try.prog E cx n71_22 st = blockS 2 (codeB Try.prog E cx n71_23 st) st := GE.block_step (by kernel_rfl)
theorem n71_20s : codeB Try.prog E cx n71_20 st = thenS (codeB Try.prog E cx n71_21 st) (codeB Try.prog E cx n71_22) := GE.seq_step (by kernel_rfl)
theorem n71_33s : codeB Try.prog E ⟨f, 50, b, ro⟩ n71_33 st = plainS (runOps Try.prog E b q71_33 (ops [true, true, false, true, false, false, true, true, false, false, true, true, false] Try.f71) st) := GE.region_step (id := 8) (GE.reg_of (by kernel_rfl)) (by kernel_rfl)
theorem n71_35s : codeB Try.prog E ⟨f, 50, b, ro⟩ n71_35 st = plainS (runOps Try.prog E b q71_35 (ops [true, true, false, true, false, false, true, true, false, false, true, true, true, false] Try.f71) st) := GE.region_step (id := 9) (GE.reg_of (by kernel_rfl)) (by kernel_rfl)
theorem n71_36s : codeB Try.prog E cx n71_36 st = some (.normal, st) := GE.skip_step (by kernel_rfl)
theorem n71_34s : codeB Try.prog E cx n71_34 st = condS (codeB Try.prog E cx n71_35) (codeB Try.prog E cx n71_36) (lk st.σ 28) st := GE.cond_step (c := .tmp 28) (by kernel_rfl)
theorem n71_32s : codeB Try.prog E cx n71_32 st = thenS (codeB Try.prog E cx n71_33 st) (codeB Try.prog E cx n71_34) := GE.seq_step (by kernel_rfl)
theorem n71_19s : codeB Try.prog E cx n71_19 st = thenS (codeB Try.prog E cx n71_20 st) (codeB Try.prog E cx n71_32) := GE.seq_step (by kernel_rfl)
theorem n71_17s : codeB Try.prog E cx n71_17 st = thenS (codeB Try.prog E cx n71_18 st) (codeB Try.prog E cx n71_19) := GE.seq_step (by kernel_rfl)
theorem n71_16s : codeB Try.prog E cx n71_16 st = blockS 1 (codeB Try.prog E cx n71_17 st) st := GE.block_step (by kernel_rfl)
theorem n71_37s : codeB Try.prog E ⟨f, 50, b, ro⟩ n71_37 st = plainS (runOps Try.prog E b q71_37 (ops [true, true, false, true, false, false, true, true, true] Try.f71) st) := GE.region_step (id := 10) (GE.reg_of (by kernel_rfl)) (by kernel_rfl)
theorem n71_15s : codeB Try.prog E cx n71_15 st = thenS (codeB Try.prog E cx n71_16 st) (codeB Try.prog E cx n71_37) := GE.seq_step (by kernel_rfl)
theorem n71_11s : codeB Try.prog E cx n71_11 st = thenS (codeB Try.prog E cx n71_12 st) (codeB Try.prog E cx n71_15) := GE.seq_step (by kernel_rfl)
theorem n71_9s : codeB Try.prog E cx n71_9 st = thenS (codeB Try.prog E cx n71_10 st) (codeB Try.prog E cx n71_11) := GE.seq_step (by kernel_rfl)
theorem n71_8k : LL.kp (⟨71, 50, b, ro⟩ : Cx).fn (4 * rid n71_9 + 3) = some ⟨[0, 3, 4, 10, 11, 12], [⟨0, 0, 1, true⟩, ⟨10, 0, 1, true⟩]⟩ := by kernel_rfl
theorem n71_8s : codeB Try.prog LL ⟨71, 50, b, ro⟩ n71_8 st = headS b ⟨[0, 3, 4, 10, 11, 12], [⟨0, 0, 1, true⟩, ⟨10, 0, 1, true⟩]⟩ st (lpB Try.prog LL ⟨71, 50, b, ro⟩ n71_8 n71_9) := GE.lpB_step (by kernel_rfl) (n71_8k b ro)
theorem n71_8g : LL.code ⟨71, 50, b, ro⟩ n71_8 st = headS b ⟨[0, 3, 4, 10, 11, 12], [⟨0, 0, 1, true⟩, ⟨10, 0, 1, true⟩]⟩ st (lpB Try.prog LL ⟨71, 50, b, ro⟩ n71_8 n71_9) := GE.lpB_again (by kernel_rfl) (n71_8k b ro)
theorem n71_7s : codeB Try.prog E cx n71_7 st = blockS 0 (codeB Try.prog E cx n71_8 st) st := GE.block_step (by kernel_rfl)
theorem n71_5s : codeB Try.prog E cx n71_5 st = thenS (codeB Try.prog E cx n71_6 st) (codeB Try.prog E cx n71_7) := GE.seq_step (by kernel_rfl)
theorem n71_39s : codeB Try.prog E ⟨f, 50, b, ro⟩ n71_39 st = plainS (runOps Try.prog E b q71_39 (ops [true, true, true, false] Try.f71) st) := GE.region_step (id := 11) (GE.reg_of (by kernel_rfl)) (by kernel_rfl)
theorem n71_42s : codeB Try.prog E ⟨f, 50, b, ro⟩ n71_42 st = plainS (runOps Try.prog E b q71_42 (ops [true, true, true, true, false, false] Try.f71) st) := GE.region_step (id := 12) (GE.reg_of (by kernel_rfl)) (by kernel_rfl)
theorem n71_46s : codeB Try.prog E ⟨f, 50, b, ro⟩ n71_46 st = plainS (runOps Try.prog E b q71_46 (ops [true, true, true, true, false, true, false, false, false] Try.f71) st) := GE.region_step (id := 13) (GE.reg_of (by kernel_rfl)) (by kernel_rfl)
theorem n71_49s : codeB Try.prog E cx n71_49 st = some (.normal, st) := GE.skip_step (by kernel_rfl)
theorem n71_50s : codeB Try.prog LL ⟨71, 50, b, ro⟩ n71_50 st = normS b ⟨[8], [⟨8, 0, 1, true⟩]⟩ (.exit 4) st := GE.exit_step (by kernel_rfl) (by kernel_rfl)
theorem n71_48s : codeB Try.prog E cx n71_48 st = condS (codeB Try.prog E cx n71_49) (codeB Try.prog E cx n71_50) (lk st.σ 37) st := GE.cond_step (c := .tmp 37) (by kernel_rfl)
theorem n71_54s : codeB Try.prog E ⟨f, 50, b, ro⟩ n71_54 st = plainS (runOps Try.prog E b q71_54 (ops [true, true, true, true, false, true, false, false, true, true, false, false, false] Try.f71) st) := GE.region_step (id := 14) (GE.reg_of (by kernel_rfl)) (by kernel_rfl)
theorem n71_55s : codeB Try.prog E ⟨f, 50, b, ro⟩ n71_55 st = plainS (runOps Try.prog E b q71_55 (ops [true, true, true, true, false, true, false, false, true, true, false, false, true] Try.f71) st) := GE.region_step (id := 15) (GE.reg_of (by kernel_rfl)) (by kernel_rfl)
theorem n71_53s : codeB Try.prog E cx n71_53 st = thenS (codeB Try.prog E cx n71_54 st) (codeB Try.prog E cx n71_55) := GE.seq_step (by kernel_rfl)
theorem n71_52s : codeB Try.prog E cx n71_52 st = blockS 5 (codeB Try.prog E cx n71_53 st) st := GE.block_step (by kernel_rfl)
theorem n71_56s : codeB Try.prog E ⟨f, 50, b, ro⟩ n71_56 st = plainS (runOps Try.prog E b q71_56 (ops [true, true, true, true, false, true, false, false, true, true, true] Try.f71) st) := GE.region_step (id := 16) (GE.reg_of (by kernel_rfl)) (by kernel_rfl)
theorem n71_51s : codeB Try.prog E cx n71_51 st = thenS (codeB Try.prog E cx n71_52 st) (codeB Try.prog E cx n71_56) := GE.seq_step (by kernel_rfl)
theorem n71_47s : codeB Try.prog E cx n71_47 st = thenS (codeB Try.prog E cx n71_48 st) (codeB Try.prog E cx n71_51) := GE.seq_step (by kernel_rfl)
theorem n71_45s : codeB Try.prog E cx n71_45 st = thenS (codeB Try.prog E cx n71_46 st) (codeB Try.prog E cx n71_47) := GE.seq_step (by kernel_rfl)
theorem n71_44k : LL.kp (⟨71, 50, b, ro⟩ : Cx).fn (4 * rid n71_45 + 3) = some ⟨[0, 3, 8, 35, 36], [⟨0, 0, 1, true⟩, ⟨8, 0, 1, true⟩]⟩ := by kernel_rfl
theorem n71_44s : codeB Try.prog LL ⟨71, 50, b, ro⟩ n71_44 st = headS b ⟨[0, 3, 8, 35, 36], [⟨0, 0, 1, true⟩, ⟨8, 0, 1, true⟩]⟩ st (lpB Try.prog LL ⟨71, 50, b, ro⟩ n71_44 n71_45) := GE.lpB_step (by kernel_rfl) (n71_44k b ro)
theorem n71_44g : LL.code ⟨71, 50, b, ro⟩ n71_44 st = headS b ⟨[0, 3, 8, 35, 36], [⟨0, 0, 1, true⟩, ⟨8, 0, 1, true⟩]⟩ st (lpB Try.prog LL ⟨71, 50, b, ro⟩ n71_44 n71_45) := GE.lpB_again (by kernel_rfl) (n71_44k b ro)
theorem n71_43s : codeB Try.prog E cx n71_43 st = blockS 4 (codeB Try.prog E cx n71_44 st) st := GE.block_step (by kernel_rfl)
theorem n71_41s : codeB Try.prog E cx n71_41 st = thenS (codeB Try.prog E cx n71_42 st) (codeB Try.prog E cx n71_43) := GE.seq_step (by kernel_rfl)
theorem n71_58s : codeB Try.prog E ⟨f, 50, b, ro⟩ n71_58 st = plainS (runOps Try.prog E b q71_58 (ops [true, true, true, true, true, false] Try.f71) st) := GE.region_step (id := 17) (GE.reg_of (by kernel_rfl)) (by kernel_rfl)
theorem n71_59s : codeB Try.prog LL ⟨71, 50, b, ro⟩ n71_59 st = normS b ⟨[2], [⟨2, 0, 1, true⟩]⟩ .ret st := GE.ret_step (by kernel_rfl) (by kernel_rfl)
theorem n71_57s : codeB Try.prog E cx n71_57 st = thenS (codeB Try.prog E cx n71_58 st) (codeB Try.prog E cx n71_59) := GE.seq_step (by kernel_rfl)
theorem n71_40s : codeB Try.prog E cx n71_40 st = thenS (codeB Try.prog E cx n71_41 st) (codeB Try.prog E cx n71_57) := GE.seq_step (by kernel_rfl)
theorem n71_38s : codeB Try.prog E cx n71_38 st = thenS (codeB Try.prog E cx n71_39 st) (codeB Try.prog E cx n71_40) := GE.seq_step (by kernel_rfl)
theorem n71_4s : codeB Try.prog E cx n71_4 st = thenS (codeB Try.prog E cx n71_5 st) (codeB Try.prog E cx n71_38) := GE.seq_step (by kernel_rfl)
theorem n71_2s : codeB Try.prog E cx n71_2 st = thenS (codeB Try.prog E cx n71_3 st) (codeB Try.prog E cx n71_4) := GE.seq_step (by kernel_rfl)
theorem n71_0s : codeB Try.prog E cx n71_0 st = thenS (codeB Try.prog E cx n71_1 st) (codeB Try.prog E cx n71_2) := GE.seq_step (by kernel_rfl)
noncomputable def n73_0 : Code := bodyOf Try.f73
noncomputable def n73_1 : Code := cl n73_0
noncomputable def q73_1 : List Oper := opsOf n73_1
noncomputable def n73_2 : Code := cr n73_0
noncomputable def n73_3 : Code := cl n73_2
noncomputable def n73_4 : Code := cl n73_3
noncomputable def q73_4 : List Oper := opsOf n73_4
noncomputable def n73_5 : Code := cr n73_3
noncomputable def n73_6 : Code := cl n73_5
noncomputable def n73_7 : Code := cl n73_6
noncomputable def n73_8 : Code := cl n73_7
noncomputable def q73_8 : List Oper := opsOf n73_8
noncomputable def n73_9 : Code := cr n73_7
noncomputable def n73_10 : Code := cl n73_9
noncomputable def n73_11 : Code := cl n73_10
noncomputable def n73_12 : Code := cr n73_10
noncomputable def n73_13 : Code := cr n73_9
noncomputable def n73_14 : Code := cl n73_13
noncomputable def n73_15 : Code := cl n73_14
noncomputable def n73_16 : Code := cl n73_15
noncomputable def q73_16 : List Oper := opsOf n73_16
noncomputable def n73_17 : Code := cr n73_15
noncomputable def n73_18 : Code := cl n73_17
noncomputable def q73_18 : List Oper := opsOf n73_18
noncomputable def n73_19 : Code := cr n73_17
noncomputable def n73_20 : Code := cl n73_19
noncomputable def n73_21 : Code := cl n73_20
noncomputable def q73_21 : List Oper := opsOf n73_21
noncomputable def n73_22 : Code := cr n73_20
noncomputable def n73_23 : Code := cr n73_19
noncomputable def n73_24 : Code := cr n73_13
noncomputable def q73_24 : List Oper := opsOf n73_24
noncomputable def n73_25 : Code := cr n73_2
noncomputable def n73_26 : Code := cl n73_25
noncomputable def q73_26 : List Oper := opsOf n73_26
noncomputable def n73_27 : Code := cr n73_25
theorem body73 : Try.f73.body = some n73_0 := by kernel_rfl
theorem run73 (E : Ev) (args : List Value) (h : List Blk) (hl : args.length ≤ 19) : runB Try.prog E 73 args h = endS Try.prog [.tmp 4] h.length (codeB Try.prog E ⟨73, 19, h.length, none⟩ n73_0 ⟨enumT 0 args, h, []⟩) := GE.run_step Try.func73 body73 (by kernel_rfl) (by decide) (by kernel_rfl) hl
theorem n73_1s : codeB Try.prog E ⟨f, 19, b, ro⟩ n73_1 st = plainS (runOps Try.prog E b q73_1 (ops [false] Try.f73) st) := GE.region_step (id := 0) (GE.reg_of (by kernel_rfl)) (by kernel_rfl)
theorem n73_4s : codeB Try.prog E ⟨f, 19, b, ro⟩ n73_4 st = plainS (runOps Try.prog E b q73_4 (ops [true, false, false] Try.f73) st) := GE.region_step (id := 1) (GE.reg_of (by kernel_rfl)) (by kernel_rfl)
theorem n73_8s : codeB Try.prog E ⟨f, 19, b, ro⟩ n73_8 st = plainS (runOps Try.prog E b q73_8 (ops [true, false, true, false, false, false] Try.f73) st) := GE.region_step (id := 2) (GE.reg_of (by kernel_rfl)) (by kernel_rfl)
theorem n73_11s : codeB Try.prog E cx n73_11 st = some (.normal, st) := GE.skip_step (by kernel_rfl)
theorem n73_12s : codeB Try.prog LL ⟨73, 19, b, ro⟩ n73_12 st = normS b ⟨[], []⟩ (.exit 0) st := GE.exit_step (by kernel_rfl) (by kernel_rfl)
theorem n73_10s : codeB Try.prog E cx n73_10 st = condS (codeB Try.prog E cx n73_11) (codeB Try.prog E cx n73_12) (lk st.σ 9) st := GE.cond_step (c := .tmp 9) (by kernel_rfl)
theorem n73_16s : codeB Try.prog E ⟨f, 19, b, ro⟩ n73_16 st = plainS (runOps Try.prog E b q73_16 (ops [true, false, true, false, false, true, true, false, false, false] Try.f73) st) := GE.region_step (id := 3) (GE.reg_of (by kernel_rfl)) (by kernel_rfl)
theorem n73_18s : codeB Try.prog E ⟨f, 19, b, ro⟩ n73_18 st = plainS (runOps Try.prog E b q73_18 (ops [true, false, true, false, false, true, true, false, false, true, false] Try.f73) st) := GE.region_step (id := 4) (GE.reg_of (by kernel_rfl)) (by kernel_rfl)
theorem n73_21s : codeB Try.prog E ⟨f, 19, b, ro⟩ n73_21 st = plainS (runOps Try.prog E b q73_21 (ops [true, false, true, false, false, true, true, false, false, true, true, false, false] Try.f73) st) := GE.region_step (id := 5) (GE.reg_of (by kernel_rfl)) (by kernel_rfl)
theorem n73_22s : codeB Try.prog LL ⟨73, 19, b, ro⟩ n73_22 st = normS b ⟨[4], []⟩ .ret st := GE.ret_step (by kernel_rfl) (by kernel_rfl)
theorem n73_20s : codeB Try.prog E cx n73_20 st = thenS (codeB Try.prog E cx n73_21 st) (codeB Try.prog E cx n73_22) := GE.seq_step (by kernel_rfl)
theorem n73_23s : codeB Try.prog E cx n73_23 st = some (.normal, st) := GE.skip_step (by kernel_rfl)
theorem n73_19s : codeB Try.prog E cx n73_19 st = condS (codeB Try.prog E cx n73_20) (codeB Try.prog E cx n73_23) (lk st.σ 16) st := GE.cond_step (c := .tmp 16) (by kernel_rfl)
theorem n73_17s : codeB Try.prog E cx n73_17 st = thenS (codeB Try.prog E cx n73_18 st) (codeB Try.prog E cx n73_19) := GE.seq_step (by kernel_rfl)
theorem n73_15s : codeB Try.prog E cx n73_15 st = thenS (codeB Try.prog E cx n73_16 st) (codeB Try.prog E cx n73_17) := GE.seq_step (by kernel_rfl)
theorem n73_14s : codeB Try.prog E cx n73_14 st = blockS 1 (codeB Try.prog E cx n73_15 st) st := GE.block_step (by kernel_rfl)
theorem n73_24s : codeB Try.prog E ⟨f, 19, b, ro⟩ n73_24 st = plainS (runOps Try.prog E b q73_24 (ops [true, false, true, false, false, true, true, true] Try.f73) st) := GE.region_step (id := 6) (GE.reg_of (by kernel_rfl)) (by kernel_rfl)
theorem n73_13s : codeB Try.prog E cx n73_13 st = thenS (codeB Try.prog E cx n73_14 st) (codeB Try.prog E cx n73_24) := GE.seq_step (by kernel_rfl)
theorem n73_9s : codeB Try.prog E cx n73_9 st = thenS (codeB Try.prog E cx n73_10 st) (codeB Try.prog E cx n73_13) := GE.seq_step (by kernel_rfl)
theorem n73_7s : codeB Try.prog E cx n73_7 st = thenS (codeB Try.prog E cx n73_8 st) (codeB Try.prog E cx n73_9) := GE.seq_step (by kernel_rfl)
theorem n73_6k : LL.kp (⟨73, 19, b, ro⟩ : Cx).fn (4 * rid n73_7 + 3) = some ⟨[0, 1, 7, 8], [⟨0, 0, 1, true⟩]⟩ := by kernel_rfl
theorem n73_6s : codeB Try.prog LL ⟨73, 19, b, ro⟩ n73_6 st = headS b ⟨[0, 1, 7, 8], [⟨0, 0, 1, true⟩]⟩ st (lpB Try.prog LL ⟨73, 19, b, ro⟩ n73_6 n73_7) := GE.lpB_step (by kernel_rfl) (n73_6k b ro)
theorem n73_6g : LL.code ⟨73, 19, b, ro⟩ n73_6 st = headS b ⟨[0, 1, 7, 8], [⟨0, 0, 1, true⟩]⟩ st (lpB Try.prog LL ⟨73, 19, b, ro⟩ n73_6 n73_7) := GE.lpB_again (by kernel_rfl) (n73_6k b ro)
theorem n73_5s : codeB Try.prog E cx n73_5 st = blockS 0 (codeB Try.prog E cx n73_6 st) st := GE.block_step (by kernel_rfl)
theorem n73_3s : codeB Try.prog E cx n73_3 st = thenS (codeB Try.prog E cx n73_4 st) (codeB Try.prog E cx n73_5) := GE.seq_step (by kernel_rfl)
theorem n73_26s : codeB Try.prog E ⟨f, 19, b, ro⟩ n73_26 st = plainS (runOps Try.prog E b q73_26 (ops [true, true, false] Try.f73) st) := GE.region_step (id := 7) (GE.reg_of (by kernel_rfl)) (by kernel_rfl)
theorem n73_27s : codeB Try.prog LL ⟨73, 19, b, ro⟩ n73_27 st = normS b ⟨[4], []⟩ .ret st := GE.ret_step (by kernel_rfl) (by kernel_rfl)
theorem n73_25s : codeB Try.prog E cx n73_25 st = thenS (codeB Try.prog E cx n73_26 st) (codeB Try.prog E cx n73_27) := GE.seq_step (by kernel_rfl)
theorem n73_2s : codeB Try.prog E cx n73_2 st = thenS (codeB Try.prog E cx n73_3 st) (codeB Try.prog E cx n73_25) := GE.seq_step (by kernel_rfl)
theorem n73_0s : codeB Try.prog E cx n73_0 st = thenS (codeB Try.prog E cx n73_1 st) (codeB Try.prog E cx n73_2) := GE.seq_step (by kernel_rfl)
noncomputable def n75_0 : Code := bodyOf Try.f75
noncomputable def n75_1 : Code := cl n75_0
noncomputable def q75_1 : List Oper := opsOf n75_1
noncomputable def n75_2 : Code := cr n75_0
noncomputable def n75_3 : Code := cl n75_2
noncomputable def n75_4 : Code := cl n75_3
noncomputable def n75_5 : Code := cl n75_4
noncomputable def q75_5 : List Oper := opsOf n75_5
noncomputable def n75_6 : Code := cr n75_4
noncomputable def n75_7 : Code := cl n75_6
noncomputable def n75_8 : Code := cl n75_7
noncomputable def n75_9 : Code := cr n75_7
noncomputable def n75_10 : Code := cr n75_6
noncomputable def n75_11 : Code := cl n75_10
noncomputable def n75_12 : Code := cl n75_11
noncomputable def n75_13 : Code := cl n75_12
noncomputable def q75_13 : List Oper := opsOf n75_13
noncomputable def n75_14 : Code := cr n75_12
noncomputable def n75_15 : Code := cl n75_14
noncomputable def q75_15 : List Oper := opsOf n75_15
noncomputable def n75_16 : Code := cr n75_14
noncomputable def n75_17 : Code := cl n75_16
noncomputable def n75_18 : Code := cr n75_16
noncomputable def n75_19 : Code := cr n75_10
noncomputable def q75_19 : List Oper := opsOf n75_19
theorem body75 : Try.f75.body = some n75_0 := by kernel_rfl
theorem run75 (E : Ev) (args : List Value) (h : List Blk) (hl : args.length ≤ 21) : runB Try.prog E 75 args h = endS Try.prog [] h.length (codeB Try.prog E ⟨75, 21, h.length, none⟩ n75_0 ⟨enumT 0 args, h, []⟩) := GE.run_step Try.func75 body75 (by kernel_rfl) (by decide) (by kernel_rfl) hl
theorem n75_1s : codeB Try.prog E ⟨f, 21, b, ro⟩ n75_1 st = plainS (runOps Try.prog E b q75_1 (ops [false] Try.f75) st) := GE.region_step (id := 0) (GE.reg_of (by kernel_rfl)) (by kernel_rfl)
theorem n75_5s : codeB Try.prog E ⟨f, 21, b, ro⟩ n75_5 st = plainS (runOps Try.prog E b q75_5 (ops [true, false, false, false] Try.f75) st) := GE.region_step (id := 1) (GE.reg_of (by kernel_rfl)) (by kernel_rfl)
theorem n75_8s : codeB Try.prog E cx n75_8 st = some (.normal, st) := GE.skip_step (by kernel_rfl)
theorem n75_9s : codeB Try.prog LL ⟨75, 21, b, ro⟩ n75_9 st = normS b ⟨[], []⟩ (.exit 0) st := GE.exit_step (by kernel_rfl) (by kernel_rfl)
theorem n75_7s : codeB Try.prog E cx n75_7 st = condS (codeB Try.prog E cx n75_8) (codeB Try.prog E cx n75_9) (lk st.σ 10) st := GE.cond_step (c := .tmp 10) (by kernel_rfl)
theorem n75_13s : codeB Try.prog E ⟨f, 21, b, ro⟩ n75_13 st = plainS (runOps Try.prog E b q75_13 (ops [true, false, false, true, true, false, false, false] Try.f75) st) := GE.region_step (id := 2) (GE.reg_of (by kernel_rfl)) (by kernel_rfl)
theorem n75_15s : codeB Try.prog E ⟨f, 21, b, ro⟩ n75_15 st = plainS (runOps Try.prog E b q75_15 (ops [true, false, false, true, true, false, false, true, false] Try.f75) st) := GE.region_step (id := 3) (GE.reg_of (by kernel_rfl)) (by kernel_rfl)
theorem n75_17s : codeB Try.prog LL ⟨75, 21, b, ro⟩ n75_17 st = normS b ⟨[], []⟩ .ret st := GE.ret_step (by kernel_rfl) (by kernel_rfl)
theorem n75_18s : codeB Try.prog E cx n75_18 st = some (.normal, st) := GE.skip_step (by kernel_rfl)
theorem n75_16s : codeB Try.prog E cx n75_16 st = condS (codeB Try.prog E cx n75_17) (codeB Try.prog E cx n75_18) (lk st.σ 19) st := GE.cond_step (c := .tmp 19) (by kernel_rfl)
theorem n75_14s : codeB Try.prog E cx n75_14 st = thenS (codeB Try.prog E cx n75_15 st) (codeB Try.prog E cx n75_16) := GE.seq_step (by kernel_rfl)
theorem n75_12s : codeB Try.prog E cx n75_12 st = thenS (codeB Try.prog E cx n75_13 st) (codeB Try.prog E cx n75_14) := GE.seq_step (by kernel_rfl)
theorem n75_11s : codeB Try.prog E cx n75_11 st = blockS 1 (codeB Try.prog E cx n75_12 st) st := GE.block_step (by kernel_rfl)
theorem n75_19s : codeB Try.prog E ⟨f, 21, b, ro⟩ n75_19 st = plainS (runOps Try.prog E b q75_19 (ops [true, false, false, true, true, true] Try.f75) st) := GE.region_step (id := 4) (GE.reg_of (by kernel_rfl)) (by kernel_rfl)
theorem n75_10s : codeB Try.prog E cx n75_10 st = thenS (codeB Try.prog E cx n75_11 st) (codeB Try.prog E cx n75_19) := GE.seq_step (by kernel_rfl)
theorem n75_6s : codeB Try.prog E cx n75_6 st = thenS (codeB Try.prog E cx n75_7 st) (codeB Try.prog E cx n75_10) := GE.seq_step (by kernel_rfl)
theorem n75_4s : codeB Try.prog E cx n75_4 st = thenS (codeB Try.prog E cx n75_5 st) (codeB Try.prog E cx n75_6) := GE.seq_step (by kernel_rfl)
theorem n75_3k : LL.kp (⟨75, 21, b, ro⟩ : Cx).fn (4 * rid n75_4 + 3) = some ⟨[0, 2, 3, 7, 8, 9], [⟨7, 0, 1, false⟩]⟩ := by kernel_rfl
theorem n75_3s : codeB Try.prog LL ⟨75, 21, b, ro⟩ n75_3 st = headS b ⟨[0, 2, 3, 7, 8, 9], [⟨7, 0, 1, false⟩]⟩ st (lpB Try.prog LL ⟨75, 21, b, ro⟩ n75_3 n75_4) := GE.lpB_step (by kernel_rfl) (n75_3k b ro)
theorem n75_3g : LL.code ⟨75, 21, b, ro⟩ n75_3 st = headS b ⟨[0, 2, 3, 7, 8, 9], [⟨7, 0, 1, false⟩]⟩ st (lpB Try.prog LL ⟨75, 21, b, ro⟩ n75_3 n75_4) := GE.lpB_again (by kernel_rfl) (n75_3k b ro)
theorem n75_2s : codeB Try.prog E cx n75_2 st = blockS 0 (codeB Try.prog E cx n75_3 st) st := GE.block_step (by kernel_rfl)
theorem n75_0s : codeB Try.prog E cx n75_0 st = thenS (codeB Try.prog E cx n75_1 st) (codeB Try.prog E cx n75_2) := GE.seq_step (by kernel_rfl)
noncomputable def n77_0 : Code := bodyOf Try.f77
noncomputable def n77_1 : Code := cl n77_0
noncomputable def q77_1 : List Oper := opsOf n77_1
noncomputable def n77_2 : Code := cr n77_0
noncomputable def n77_3 : Code := cl n77_2
noncomputable def n77_4 : Code := cl n77_3
noncomputable def n77_5 : Code := cl n77_4
noncomputable def n77_6 : Code := cl n77_5
noncomputable def q77_6 : List Oper := opsOf n77_6
noncomputable def n77_7 : Code := cr n77_5
noncomputable def n77_8 : Code := cl n77_7
noncomputable def n77_9 : Code := cr n77_7
noncomputable def n77_10 : Code := cr n77_4
noncomputable def n77_11 : Code := cl n77_10
noncomputable def n77_12 : Code := cl n77_11
noncomputable def n77_13 : Code := cl n77_12
noncomputable def q77_13 : List Oper := opsOf n77_13
noncomputable def n77_14 : Code := cr n77_12
noncomputable def n77_15 : Code := cl n77_14
noncomputable def n77_16 : Code := cr n77_14
noncomputable def n77_17 : Code := cr n77_10
noncomputable def q77_17 : List Oper := opsOf n77_17
theorem body77 : Try.f77.body = some n77_0 := by kernel_rfl
theorem run77 (E : Ev) (args : List Value) (h : List Blk) (hl : args.length ≤ 19) : runB Try.prog E 77 args h = endS Try.prog [] h.length (codeB Try.prog E ⟨77, 19, h.length, none⟩ n77_0 ⟨enumT 0 args, h, []⟩) := GE.run_step Try.func77 body77 (by kernel_rfl) (by decide) (by kernel_rfl) hl
theorem n77_1s : codeB Try.prog E ⟨f, 19, b, ro⟩ n77_1 st = plainS (runOps Try.prog E b q77_1 (ops [false] Try.f77) st) := GE.region_step (id := 0) (GE.reg_of (by kernel_rfl)) (by kernel_rfl)
theorem n77_6s : codeB Try.prog E ⟨f, 19, b, ro⟩ n77_6 st = plainS (runOps Try.prog E b q77_6 (ops [true, false, false, false, false] Try.f77) st) := GE.region_step (id := 1) (GE.reg_of (by kernel_rfl)) (by kernel_rfl)
theorem n77_8s : codeB Try.prog E cx n77_8 st = some (.normal, st) := GE.skip_step (by kernel_rfl)
theorem n77_9s : codeB Try.prog LL ⟨77, 19, b, ro⟩ n77_9 st = normS b ⟨[], []⟩ (.exit 0) st := GE.exit_step (by kernel_rfl) (by kernel_rfl)
theorem n77_7s : codeB Try.prog E cx n77_7 st = condS (codeB Try.prog E cx n77_8) (codeB Try.prog E cx n77_9) (lk st.σ 8) st := GE.cond_step (c := .tmp 8) (by kernel_rfl)
theorem n77_5s : codeB Try.prog E cx n77_5 st = thenS (codeB Try.prog E cx n77_6 st) (codeB Try.prog E cx n77_7) := GE.seq_step (by kernel_rfl)
theorem n77_13s : codeB Try.prog E ⟨f, 19, b, ro⟩ n77_13 st = plainS (runOps Try.prog E b q77_13 (ops [true, false, false, true, false, false, false] Try.f77) st) := GE.region_step (id := 3) (GE.reg_of (by kernel_rfl)) (by kernel_rfl)
theorem n77_15s : codeB Try.prog LL ⟨77, 19, b, ro⟩ n77_15 st = normS b ⟨[], []⟩ .ret st := GE.ret_step (by kernel_rfl) (by kernel_rfl)
theorem n77_16s : codeB Try.prog E cx n77_16 st = some (.normal, st) := GE.skip_step (by kernel_rfl)
theorem n77_14s : codeB Try.prog E cx n77_14 st = condS (codeB Try.prog E cx n77_15) (codeB Try.prog E cx n77_16) (lk st.σ 18) st := GE.cond_step (c := .tmp 18) (by kernel_rfl)
theorem n77_12s : codeB Try.prog E cx n77_12 st = thenS (codeB Try.prog E cx n77_13 st) (codeB Try.prog E cx n77_14) := GE.seq_step (by kernel_rfl)
theorem n77_11s : codeB Try.prog E cx n77_11 st = blockS 1 (codeB Try.prog E cx n77_12 st) st := GE.block_step (by kernel_rfl)
theorem n77_17s : codeB Try.prog E ⟨f, 19, b, ro⟩ n77_17 st = plainS (runOps Try.prog E b q77_17 (ops [true, false, false, true, true] Try.f77) st) := GE.region_step (id := 2) (GE.reg_of (by kernel_rfl)) (by kernel_rfl)
theorem n77_10s : codeB Try.prog E cx n77_10 st = thenS (codeB Try.prog E cx n77_11 st) (codeB Try.prog E cx n77_17) := GE.seq_step (by kernel_rfl)
theorem n77_4s : codeB Try.prog E cx n77_4 st = thenS (codeB Try.prog E cx n77_5 st) (codeB Try.prog E cx n77_10) := GE.seq_step (by kernel_rfl)
theorem n77_3k : LL.kp (⟨77, 19, b, ro⟩ : Cx).fn (4 * rid n77_4 + 3) = some ⟨[0, 1, 3], []⟩ := by kernel_rfl
theorem n77_3s : codeB Try.prog LL ⟨77, 19, b, ro⟩ n77_3 st = headS b ⟨[0, 1, 3], []⟩ st (lpB Try.prog LL ⟨77, 19, b, ro⟩ n77_3 n77_4) := GE.lpB_step (by kernel_rfl) (n77_3k b ro)
theorem n77_3g : LL.code ⟨77, 19, b, ro⟩ n77_3 st = headS b ⟨[0, 1, 3], []⟩ st (lpB Try.prog LL ⟨77, 19, b, ro⟩ n77_3 n77_4) := GE.lpB_again (by kernel_rfl) (n77_3k b ro)
theorem n77_2s : codeB Try.prog E cx n77_2 st = blockS 0 (codeB Try.prog E cx n77_3 st) st := GE.block_step (by kernel_rfl)
theorem n77_0s : codeB Try.prog E cx n77_0 st = thenS (codeB Try.prog E cx n77_1 st) (codeB Try.prog E cx n77_2) := GE.seq_step (by kernel_rfl)
noncomputable def n78_0 : Code := bodyOf Try.f78
noncomputable def n78_1 : Code := cl n78_0
noncomputable def q78_1 : List Oper := opsOf n78_1
noncomputable def n78_2 : Code := cr n78_0
noncomputable def n78_3 : Code := cl n78_2
noncomputable def n78_4 : Code := cl n78_3
noncomputable def n78_5 : Code := cl n78_4
noncomputable def n78_6 : Code := cl n78_5
noncomputable def n78_7 : Code := cl n78_6
noncomputable def q78_7 : List Oper := opsOf n78_7
noncomputable def n78_8 : Code := cr n78_6
noncomputable def n78_9 : Code := cl n78_8
noncomputable def n78_10 : Code := cr n78_8
noncomputable def n78_11 : Code := cr n78_5
noncomputable def n78_12 : Code := cl n78_11
noncomputable def q78_12 : List Oper := opsOf n78_12
noncomputable def n78_13 : Code := cr n78_2
noncomputable def n78_14 : Code := cl n78_13
noncomputable def q78_14 : List Oper := opsOf n78_14
noncomputable def n78_15 : Code := cr n78_13
theorem body78 : Try.f78.body = some n78_0 := by kernel_rfl
theorem run78 (E : Ev) (args : List Value) (h : List Blk) (hl : args.length ≤ 17) : runB Try.prog E 78 args h = endS Try.prog [.tmp 2] h.length (codeB Try.prog E ⟨78, 17, h.length, none⟩ n78_0 ⟨enumT 0 args, h, []⟩) := GE.run_step Try.func78 body78 (by kernel_rfl) (by decide) (by kernel_rfl) hl
theorem n78_1s : codeB Try.prog E ⟨f, 17, b, ro⟩ n78_1 st = plainS (runOps Try.prog E b q78_1 (ops [false] Try.f78) st) := GE.region_step (id := 0) (GE.reg_of (by kernel_rfl)) (by kernel_rfl)
theorem q78_7g3 : gd q78_7 3 = some 6 := by kernel_rfl
theorem n78_7s : codeB Try.prog E ⟨f, 17, b, ro⟩ n78_7 st = plainS (runOps Try.prog E b q78_7 (ops [true, false, false, false, false, false] Try.f78) st) := GE.region_step (id := 1) (GE.reg_of (by kernel_rfl)) (by kernel_rfl)
theorem n78_9s : codeB Try.prog E cx n78_9 st = some (.normal, st) := GE.skip_step (by kernel_rfl)
theorem n78_10s : codeB Try.prog LL ⟨78, 17, b, ro⟩ n78_10 st = normS b ⟨[0], [⟨0, 0, 1, true⟩]⟩ (.exit 0) st := GE.exit_step (by kernel_rfl) (by kernel_rfl)
theorem n78_8s : codeB Try.prog E cx n78_8 st = condS (codeB Try.prog E cx n78_9) (codeB Try.prog E cx n78_10) (lk st.σ 10) st := GE.cond_step (c := .tmp 10) (by kernel_rfl)
theorem n78_6s : codeB Try.prog E cx n78_6 st = thenS (codeB Try.prog E cx n78_7 st) (codeB Try.prog E cx n78_8) := GE.seq_step (by kernel_rfl)
theorem n78_12s : codeB Try.prog E ⟨f, 17, b, ro⟩ n78_12 st = plainS (runOps Try.prog E b q78_12 (ops [true, false, false, false, true, false] Try.f78) st) := GE.region_step (id := 2) (GE.reg_of (by kernel_rfl)) (by kernel_rfl)
theorem n78_11s : codeB Try.prog E cx n78_11 st = blockS 1 (codeB Try.prog E cx n78_12 st) st := GE.block_step (by kernel_rfl)
theorem n78_5s : codeB Try.prog E cx n78_5 st = thenS (codeB Try.prog E cx n78_6 st) (codeB Try.prog E cx n78_11) := GE.seq_step (by kernel_rfl)
theorem n78_4k : LL.kp (⟨78, 17, b, ro⟩ : Cx).fn (4 * rid n78_5 + 3) = some ⟨[0], [⟨0, 0, 1, true⟩]⟩ := by kernel_rfl
theorem n78_4s : codeB Try.prog LL ⟨78, 17, b, ro⟩ n78_4 st = headS b ⟨[0], [⟨0, 0, 1, true⟩]⟩ st (lpB Try.prog LL ⟨78, 17, b, ro⟩ n78_4 n78_5) := GE.lpB_step (by kernel_rfl) (n78_4k b ro)
theorem n78_4g : LL.code ⟨78, 17, b, ro⟩ n78_4 st = headS b ⟨[0], [⟨0, 0, 1, true⟩]⟩ st (lpB Try.prog LL ⟨78, 17, b, ro⟩ n78_4 n78_5) := GE.lpB_again (by kernel_rfl) (n78_4k b ro)
theorem n78_3s : codeB Try.prog E cx n78_3 st = blockS 0 (codeB Try.prog E cx n78_4 st) st := GE.block_step (by kernel_rfl)
theorem n78_14s : codeB Try.prog E ⟨f, 17, b, ro⟩ n78_14 st = plainS (runOps Try.prog E b q78_14 (ops [true, true, false] Try.f78) st) := GE.region_step (id := 3) (GE.reg_of (by kernel_rfl)) (by kernel_rfl)
theorem n78_15s : codeB Try.prog LL ⟨78, 17, b, ro⟩ n78_15 st = normS b ⟨[2], [⟨2, 0, 1, true⟩]⟩ .ret st := GE.ret_step (by kernel_rfl) (by kernel_rfl)
theorem n78_13s : codeB Try.prog E cx n78_13 st = thenS (codeB Try.prog E cx n78_14 st) (codeB Try.prog E cx n78_15) := GE.seq_step (by kernel_rfl)
theorem n78_2s : codeB Try.prog E cx n78_2 st = thenS (codeB Try.prog E cx n78_3 st) (codeB Try.prog E cx n78_13) := GE.seq_step (by kernel_rfl)
theorem n78_0s : codeB Try.prog E cx n78_0 st = thenS (codeB Try.prog E cx n78_1 st) (codeB Try.prog E cx n78_2) := GE.seq_step (by kernel_rfl)
noncomputable def n79_0 : Code := bodyOf Try.f79
noncomputable def n79_1 : Code := cl n79_0
noncomputable def q79_1 : List Oper := opsOf n79_1
noncomputable def n79_2 : Code := cr n79_0
noncomputable def n79_3 : Code := cl n79_2
noncomputable def q79_3 : List Oper := opsOf n79_3
noncomputable def n79_4 : Code := cr n79_2
theorem body79 : Try.f79.body = some n79_0 := by kernel_rfl
theorem run79 (E : Ev) (args : List Value) (h : List Blk) (hl : args.length ≤ 8) : runB Try.prog E 79 args h = endS Try.prog [.tmp 4] h.length (codeB Try.prog E ⟨79, 8, h.length, none⟩ n79_0 ⟨enumT 0 args, h, []⟩) := GE.run_step Try.func79 body79 (by kernel_rfl) (by decide) (by kernel_rfl) hl
theorem n79_1s : codeB Try.prog E ⟨f, 8, b, ro⟩ n79_1 st = plainS (runOps Try.prog E b q79_1 (ops [false] Try.f79) st) := GE.region_step (id := 0) (GE.reg_of (by kernel_rfl)) (by kernel_rfl)
theorem n79_3s : codeB Try.prog E ⟨f, 8, b, ro⟩ n79_3 st = plainS (runOps Try.prog E b q79_3 (ops [true, false] Try.f79) st) := GE.region_step (id := 1) (GE.reg_of (by kernel_rfl)) (by kernel_rfl)
theorem n79_4s : codeB Try.prog LL ⟨79, 8, b, ro⟩ n79_4 st = normS b ⟨[4], [⟨4, 0, 1, false⟩]⟩ .ret st := GE.ret_step (by kernel_rfl) (by kernel_rfl)
theorem n79_2s : codeB Try.prog E cx n79_2 st = thenS (codeB Try.prog E cx n79_3 st) (codeB Try.prog E cx n79_4) := GE.seq_step (by kernel_rfl)
theorem n79_0s : codeB Try.prog E cx n79_0 st = thenS (codeB Try.prog E cx n79_1 st) (codeB Try.prog E cx n79_2) := GE.seq_step (by kernel_rfl)
theorem ia_54 : aggK Try.prog 54 = some (true, 9) := by kernel_rfl
theorem lk_55 : lenK Try.prog 55 = some .sl := by kernel_rfl
theorem es_55 : elemK Try.prog 55 = some (none, 2) := by kernel_rfl
theorem ia_24 : aggK Try.prog 24 = some (true, 2) := by kernel_rfl
theorem lk_40 : lenK Try.prog 40 = some .sl := by kernel_rfl
theorem es_40 : elemK Try.prog 40 = some (none, 2) := by kernel_rfl
theorem fa_48_1 : fieldAt Try.prog 48 1 = some (1, 1) := by kernel_rfl
theorem ia_3 : aggK Try.prog 3 = some (false, 1) := by kernel_rfl
theorem fa_48_0 : fieldAt Try.prog 48 0 = some (0, 1) := by kernel_rfl
theorem fa_24_1 : fieldAt Try.prog 24 1 = some (1, 1) := by kernel_rfl
theorem fa_24_0 : fieldAt Try.prog 24 0 = some (0, 1) := by kernel_rfl
theorem lk_22 : lenK Try.prog 22 = some .sl := by kernel_rfl
theorem es_22 : elemK Try.prog 22 = some (none, 1) := by kernel_rfl
theorem za_76 : zeroA Try.prog 76 = some (.slice none 0 0) := by kernel_rfl
theorem sz_76 : aggSize Try.prog 76 = some 1 := by kernel_rfl
theorem za_24 : zeroA Try.prog 24 = some (.agg #[(.int .i64 (0)), (.int .i64 (0))]) := by kernel_rfl
theorem pl_24 : plK Try.prog 24 = some [(0, 1), (1, 1)] := by kernel_rfl
theorem sz_24 : aggSize Try.prog 24 = some 2 := by kernel_rfl
theorem za_90 : zeroA Try.prog 90 = some .nilFunc := by kernel_rfl
theorem sz_90 : aggSize Try.prog 90 = some 1 := by kernel_rfl
theorem ia_90 : aggK Try.prog 90 = some (false, 1) := by kernel_rfl
theorem za_3 : zeroA Try.prog 3 = some (.int .i64 (0)) := by kernel_rfl
theorem sz_3 : aggSize Try.prog 3 = some 1 := by kernel_rfl
theorem za_48 : zeroA Try.prog 48 = some (.agg #[(.int .i64 (0)), (.int .i64 (0))]) := by kernel_rfl
theorem pl_48 : plK Try.prog 48 = some [(0, 1), (1, 1)] := by kernel_rfl
theorem ze_40 : zeroE Try.prog 40 = some (.agg #[(.int .i64 (0)), (.int .i64 (0))]) := by kernel_rfl
theorem ba_40_1 : baseArr (Value.cells (.agg #[(.int .i64 (0)), (.int .i64 (0))])) (1 * 2) = #[(.int .i64 (0)), (.int .i64 (0))] := by kernel_rfl
theorem ap_40 : apK Try.prog 40 = some (2, 16) := by kernel_rfl
theorem ni_40 : notInt Try.prog 40 = true := by kernel_rfl
theorem lk_71 : lenK Try.prog 71 = some .sl := by kernel_rfl
theorem ia_76 : aggK Try.prog 76 = some (false, 1) := by kernel_rfl
theorem es_71 : elemK Try.prog 71 = some (none, 1) := by kernel_rfl
theorem ze_22 : zeroE Try.prog 22 = some (.int .i64 (0)) := by kernel_rfl
theorem ba_22_1 : baseArr (Value.cells (.int .i64 (0))) (1 * 1) = #[(.int .i64 (0))] := by kernel_rfl
theorem fa_54_1 : fieldAt Try.prog 54 1 = some (6, 1) := by kernel_rfl
theorem ia_5 : aggK Try.prog 5 = some (false, 1) := by kernel_rfl
theorem cv_5_3 : convK Try.prog 5 3 = some .i64 := by kernel_rfl
theorem fa_54_2 : fieldAt Try.prog 54 2 = some (7, 1) := by kernel_rfl
theorem ia_4 : aggK Try.prog 4 = some (false, 1) := by kernel_rfl
theorem ba_22_3 : baseArr (Value.cells (.int .i64 (0))) (3 * 1) = #[(.int .i64 (0)), (.int .i64 (0)), (.int .i64 (0))] := by kernel_rfl
theorem fa_54_3 : fieldAt Try.prog 54 3 = some (8, 1) := by kernel_rfl
theorem ia_50 : aggK Try.prog 50 = some (false, 1) := by kernel_rfl
theorem fa_54_0 : fieldAt Try.prog 54 0 = some (0, 6) := by kernel_rfl
theorem ea_52 : elemK Try.prog 52 = some (some 3, 2) := by kernel_rfl
theorem ea_51 : elemK Try.prog 51 = some (some 2, 1) := by kernel_rfl
theorem cv_50_3 : convK Try.prog 50 3 = some .i64 := by kernel_rfl
theorem ba_22_2 : baseArr (Value.cells (.int .i64 (0))) (2 * 1) = #[(.int .i64 (0)), (.int .i64 (0))] := by kernel_rfl
theorem ze_55 : zeroE Try.prog 55 = some (.agg #[(.int .i64 (0)), (.int .i64 (0))]) := by kernel_rfl
theorem ba_55_0 : baseArr (Value.cells (.agg #[(.int .i64 (0)), (.int .i64 (0))])) (0 * 2) = #[] := by kernel_rfl
theorem sl_55 : elemK Try.prog 55 = some (none, 2) := by kernel_rfl
theorem ap_55 : apK Try.prog 55 = some (2, 16) := by kernel_rfl
theorem ni_55 : notInt Try.prog 55 = true := by kernel_rfl
theorem ba_55_1 : baseArr (Value.cells (.agg #[(.int .i64 (0)), (.int .i64 (0))])) (1 * 2) = #[(.int .i64 (0)), (.int .i64 (0))] := by kernel_rfl
theorem cv_3_106 : convK Try.prog 3 106 = some .u64 := by kernel_rfl
theorem cv_106_3 : convK Try.prog 106 3 = some .i64 := by kernel_rfl
theorem es_76 : elemK Try.prog 76 = some (none, 1) := by kernel_rfl
theorem ze_76 : zeroE Try.prog 76 = some (.slice none 0 0) := by kernel_rfl
theorem ba_76_2 : baseArr (Value.cells (.slice none 0 0)) (2 * 1) = #[(.slice none 0 0), (.slice none 0 0)] := by kernel_rfl
theorem ba_76_1 : baseArr (Value.cells (.slice none 0 0)) (1 * 1) = #[(.slice none 0 0)] := by kernel_rfl
theorem lk_76 : lenK Try.prog 76 = some .sl := by kernel_rfl
theorem ia_71 : aggK Try.prog 71 = some (false, 1) := by kernel_rfl
theorem ia_86 : aggK Try.prog 86 = some (false, 1) := by kernel_rfl
theorem sl_71 : elemK Try.prog 71 = some (none, 1) := by kernel_rfl
theorem ap_76 : apK Try.prog 76 = some (1, 24) := by kernel_rfl
theorem ni_76 : notInt Try.prog 76 = true := by kernel_rfl

end Go.Proofs.Ytkmompbfcgjgmaa.nt
