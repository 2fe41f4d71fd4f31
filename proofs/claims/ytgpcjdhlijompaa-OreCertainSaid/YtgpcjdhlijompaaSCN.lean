/-
  Names for the nodes of the code of some functions (projections of their bodies), the step of each node, and the facts of types that they use.
-/
import Derived.Test.YtgpcjdhlijompaaKp
namespace Go.Proofs.Ytgpcjdhlijompaa.oo
open Go.GE
set_option maxRecDepth 100000
variable (E : Ev) (cx : Cx) (st : St) (f nt b : Nat) (ro : Option Nat)
noncomputable def n8_0 : Code := bodyOf Try.f8
noncomputable def n8_1 : Code := cl n8_0
noncomputable def q8_1 : List Oper := opsOf n8_1
noncomputable def n8_2 : Code := cr n8_0
noncomputable def n8_3 : Code := cl n8_2
noncomputable def q8_3 : List Oper := opsOf n8_3
noncomputable def n8_4 : Code := cr n8_2
noncomputable def n8_5 : Code := cl n8_4
noncomputable def q8_5 : List Oper := opsOf n8_5
noncomputable def n8_6 : Code := cr n8_4
noncomputable def n8_7 : Code := cl n8_6
noncomputable def q8_7 : List Oper := opsOf n8_7
noncomputable def n8_8 : Code := cr n8_6
noncomputable def n8_9 : Code := cl n8_8
noncomputable def q8_9 : List Oper := opsOf n8_9
noncomputable def n8_10 : Code := cr n8_8
noncomputable def n8_11 : Code := cl n8_10
noncomputable def n8_12 : Code := cl n8_11
noncomputable def q8_12 : List Oper := opsOf n8_12
noncomputable def n8_13 : Code := cr n8_11
noncomputable def n8_14 : Code := cl n8_13
noncomputable def n8_15 : Code := cl n8_14
noncomputable def n8_16 : Code := cl n8_15
noncomputable def q8_16 : List Oper := opsOf n8_16
noncomputable def n8_17 : Code := cr n8_15
noncomputable def n8_18 : Code := cl n8_17
noncomputable def n8_19 : Code := cl n8_18
noncomputable def n8_20 : Code := cr n8_18
noncomputable def n8_21 : Code := cr n8_17
noncomputable def n8_22 : Code := cl n8_21
noncomputable def n8_23 : Code := cl n8_22
noncomputable def n8_24 : Code := cl n8_23
noncomputable def q8_24 : List Oper := opsOf n8_24
noncomputable def n8_25 : Code := cr n8_23
noncomputable def q8_25 : List Oper := opsOf n8_25
noncomputable def n8_26 : Code := cr n8_21
noncomputable def q8_26 : List Oper := opsOf n8_26
noncomputable def n8_27 : Code := cr n8_10
noncomputable def n8_28 : Code := cl n8_27
noncomputable def q8_28 : List Oper := opsOf n8_28
noncomputable def n8_29 : Code := cr n8_27
noncomputable def n8_30 : Code := cl n8_29
noncomputable def q8_30 : List Oper := opsOf n8_30
noncomputable def n8_31 : Code := cr n8_29
noncomputable def n8_32 : Code := cl n8_31
noncomputable def q8_32 : List Oper := opsOf n8_32
noncomputable def n8_33 : Code := cr n8_31
noncomputable def n8_34 : Code := cl n8_33
noncomputable def q8_34 : List Oper := opsOf n8_34
noncomputable def n8_35 : Code := cr n8_33
noncomputable def n8_36 : Code := cl n8_35
noncomputable def n8_37 : Code := cl n8_36
noncomputable def q8_37 : List Oper := opsOf n8_37
noncomputable def n8_38 : Code := cr n8_36
noncomputable def n8_39 : Code := cl n8_38
noncomputable def n8_40 : Code := cl n8_39
noncomputable def q8_40 : List Oper := opsOf n8_40
noncomputable def n8_41 : Code := cr n8_39
noncomputable def n8_42 : Code := cr n8_38
noncomputable def n8_43 : Code := cr n8_35
noncomputable def n8_44 : Code := cl n8_43
noncomputable def n8_45 : Code := cl n8_44
noncomputable def q8_45 : List Oper := opsOf n8_45
noncomputable def n8_46 : Code := cr n8_44
noncomputable def n8_47 : Code := cl n8_46
noncomputable def n8_48 : Code := cl n8_47
noncomputable def n8_49 : Code := cl n8_48
noncomputable def q8_49 : List Oper := opsOf n8_49
noncomputable def n8_50 : Code := cr n8_48
noncomputable def n8_51 : Code := cl n8_50
noncomputable def n8_52 : Code := cl n8_51
noncomputable def n8_53 : Code := cr n8_51
noncomputable def n8_54 : Code := cr n8_50
noncomputable def n8_55 : Code := cl n8_54
noncomputable def n8_56 : Code := cl n8_55
noncomputable def n8_57 : Code := cl n8_56
noncomputable def q8_57 : List Oper := opsOf n8_57
noncomputable def n8_58 : Code := cr n8_56
noncomputable def n8_59 : Code := cl n8_58
noncomputable def q8_59 : List Oper := opsOf n8_59
noncomputable def n8_60 : Code := cr n8_58
noncomputable def n8_61 : Code := cl n8_60
noncomputable def n8_62 : Code := cl n8_61
noncomputable def q8_62 : List Oper := opsOf n8_62
noncomputable def n8_63 : Code := cr n8_61
noncomputable def n8_64 : Code := cr n8_60
noncomputable def n8_65 : Code := cr n8_54
noncomputable def q8_65 : List Oper := opsOf n8_65
noncomputable def n8_66 : Code := cr n8_43
noncomputable def n8_67 : Code := cl n8_66
noncomputable def q8_67 : List Oper := opsOf n8_67
noncomputable def n8_68 : Code := cr n8_66
theorem body8 : Try.f8.body = some n8_0 := by kernel_rfl
theorem run8 (E : Ev) (args : List Value) (h : List Blk) (hl : args.length ≤ 148) : runB Try.prog E 8 args h = endS Try.prog [.tmp 6] h.length (codeB Try.prog E ⟨8, 148, h.length, none⟩ n8_0 ⟨enumT 0 args, h, []⟩) := GE.run_step Try.func8 body8 (by kernel_rfl) (by decide) (by kernel_rfl) hl
theorem n8_1s : codeB Try.prog E ⟨f, 148, b, ro⟩ n8_1 st = plainS (runOps Try.prog E b q8_1 (ops [false] Try.f8) st) := GE.region_step (id := 0) (GE.reg_of (by kernel_rfl)) (by kernel_rfl)
theorem n8_3s : codeB Try.prog E ⟨f, 148, b, ro⟩ n8_3 st = plainS (runOps Try.prog E b q8_3 (ops [true, false] Try.f8) st) := GE.region_step (id := 1) (GE.reg_of (by kernel_rfl)) (by kernel_rfl)
theorem n8_5s : codeB Try.prog E ⟨f, 148, b, ro⟩ n8_5 st = plainS (runOps Try.prog E b q8_5 (ops [true, true, false] Try.f8) st) := GE.region_step (id := 2) (GE.reg_of (by kernel_rfl)) (by kernel_rfl)
theorem n8_7s : codeB Try.prog E ⟨f, 148, b, ro⟩ n8_7 st = plainS (runOps Try.prog E b q8_7 (ops [true, true, true, false] Try.f8) st) := GE.region_step (id := 3) (GE.reg_of (by kernel_rfl)) (by kernel_rfl)
theorem n8_9s : codeB Try.prog E ⟨f, 148, b, ro⟩ n8_9 st = plainS (runOps Try.prog E b q8_9 (ops [true, true, true, true, false] Try.f8) st) := GE.region_step (id := 4) (GE.reg_of (by kernel_rfl)) (by kernel_rfl)
theorem n8_12s : codeB Try.prog E ⟨f, 148, b, ro⟩ n8_12 st = plainS (runOps Try.prog E b q8_12 (ops [true, true, true, true, true, false, false] Try.f8) st) := GE.region_step (id := 5) (GE.reg_of (by kernel_rfl)) (by kernel_rfl)
theorem n8_16s : codeB Try.prog E ⟨f, 148, b, ro⟩ n8_16 st = plainS (runOps Try.prog E b q8_16 (ops [true, true, true, true, true, false, true, false, false, false] Try.f8) st) := GE.region_step (id := 6) (GE.reg_of (by kernel_rfl)) (by kernel_rfl)
theorem n8_19s : codeB Try.prog E cx n8_19 st = some (.normal, st) := GE.skip_step (by kernel_rfl)
theorem n8_20s : codeB Try.prog LL ⟨8, 148, b, ro⟩ n8_20 st = normS b ⟨[7, 8, 9], [⟨7, 3, 1, true⟩, ⟨9, 3, 1, true⟩]⟩ (.exit 0) st := GE.exit_step (by kernel_rfl) (by kernel_rfl)
theorem n8_18s : codeB Try.prog E cx n8_18 st = condS (codeB Try.prog E cx n8_19) (codeB Try.prog E cx n8_20) (lk st.σ 35) st := GE.cond_step (c := .tmp 35) (by kernel_rfl)
theorem n8_24s : codeB Try.prog E ⟨f, 148, b, ro⟩ n8_24 st = plainS (runOps Try.prog E b q8_24 (ops [true, true, true, true, true, false, true, false, false, true, true, false, false, false] Try.f8) st) := GE.region_step (id := 7) (GE.reg_of (by kernel_rfl)) (by kernel_rfl)
theorem n8_25s : codeB Try.prog E ⟨f, 148, b, ro⟩ n8_25 st = drawS [0, 1, 0, 0, 8, 24, 56, 0, 128, 384, 1016, 2044, 4092, 8188, 16380, 32767, 65535, 131071] (runOpsF Try.prog E b q8_25 (ops [true, true, true, true, true, false, true, false, false, true, true, false, false, true] Try.f8) st) := GE.draw_step (id := 8) (GE.reg_of (by kernel_rfl)) (by kernel_rfl) (by kernel_rfl) (by kernel_rfl)
theorem n8_23s : codeB Try.prog E cx n8_23 st = thenS (codeB Try.prog E cx n8_24 st) (codeB Try.prog E cx n8_25) := GE.seq_step (by kernel_rfl)
theorem n8_22s : codeB Try.prog E cx n8_22 st = blockS 1 (codeB Try.prog E cx n8_23 st) st := GE.block_step (by kernel_rfl)
theorem n8_26s : codeB Try.prog E ⟨f, 148, b, ro⟩ n8_26 st = plainS (runOps Try.prog E b q8_26 (ops [true, true, true, true, true, false, true, false, false, true, true, true] Try.f8) st) := GE.region_step (id := 9) (GE.reg_of (by kernel_rfl)) (by kernel_rfl)
theorem n8_21s : codeB Try.prog E cx n8_21 st = thenS (codeB Try.prog E cx n8_22 st) (codeB Try.prog E cx n8_26) := GE.seq_step (by kernel_rfl)
theorem n8_17s : codeB Try.prog E cx n8_17 st = thenS (codeB Try.prog E cx n8_18 st) (codeB Try.prog E cx n8_21) := GE.seq_step (by kernel_rfl)
theorem n8_15s : codeB Try.prog E cx n8_15 st = thenS (codeB Try.prog E cx n8_16 st) (codeB Try.prog E cx n8_17) := GE.seq_step (by kernel_rfl)
theorem n8_14k : LL.kp (⟨8, 148, b, ro⟩ : Cx).fn (4 * rid n8_15 + 3) = some ⟨[5, 7, 8, 9, 32, 33, 34], [⟨7, 3, 1, true⟩, ⟨9, 3, 1, true⟩, ⟨32, 0, 1, true⟩]⟩ := by kernel_rfl
theorem n8_14s : codeB Try.prog LL ⟨8, 148, b, ro⟩ n8_14 st = headS b ⟨[5, 7, 8, 9, 32, 33, 34], [⟨7, 3, 1, true⟩, ⟨9, 3, 1, true⟩, ⟨32, 0, 1, true⟩]⟩ st (lpB Try.prog LL ⟨8, 148, b, ro⟩ n8_14 n8_15) := GE.lpB_step (by kernel_rfl) (n8_14k b ro)
theorem n8_14g : LL.code ⟨8, 148, b, ro⟩ n8_14 st = headS b ⟨[5, 7, 8, 9, 32, 33, 34], [⟨7, 3, 1, true⟩, ⟨9, 3, 1, true⟩, ⟨32, 0, 1, true⟩]⟩ st (lpB Try.prog LL ⟨8, 148, b, ro⟩ n8_14 n8_15) := GE.lpB_again (by kernel_rfl) (n8_14k b ro)
theorem n8_13s : codeB Try.prog E cx n8_13 st = blockS 0 (codeB Try.prog E cx n8_14 st) st := GE.block_step (by kernel_rfl)
theorem n8_11s : codeB Try.prog E cx n8_11 st = thenS (codeB Try.prog E cx n8_12 st) (codeB Try.prog E cx n8_13) := GE.seq_step (by kernel_rfl)
theorem n8_28s : codeB Try.prog E ⟨f, 148, b, ro⟩ n8_28 st = plainS (runOps Try.prog E b q8_28 (ops [true, true, true, true, true, true, false] Try.f8) st) := GE.region_step (id := 10) (GE.reg_of (by kernel_rfl)) (by kernel_rfl)
theorem n8_30s : codeB Try.prog E ⟨f, 148, b, ro⟩ n8_30 st = plainS (runOps Try.prog E b q8_30 (ops [true, true, true, true, true, true, true, false] Try.f8) st) := GE.region_step (id := 11) (GE.reg_of (by kernel_rfl)) (by kernel_rfl)
theorem n8_32s : codeB Try.prog E ⟨f, 148, b, ro⟩ n8_32 st = plainS (runOps Try.prog E b q8_32 (ops [true, true, true, true, true, true, true, true, false] Try.f8) st) := GE.region_step (id := 12) (GE.reg_of (by kernel_rfl)) (by kernel_rfl)
theorem n8_34s : codeB Try.prog E ⟨f, 148, b, ro⟩ n8_34 st = plainS (runOps Try.prog E b q8_34 (ops [true, true, true, true, true, true, true, true, true, false] Try.f8) st) := GE.region_step (id := 13) (GE.reg_of (by kernel_rfl)) (by kernel_rfl)
theorem q8_37g2 : gd q8_37 2 = some 83 := by kernel_rfl
theorem q8_37g6 : gd q8_37 6 = some 87 := by kernel_rfl
theorem q8_37g10 : gd q8_37 10 = some 91 := by kernel_rfl
theorem q8_37g14 : gd q8_37 14 = some 95 := by kernel_rfl
theorem q8_37g19 : gd q8_37 19 = some 100 := by kernel_rfl
theorem q8_37g26 : gd q8_37 26 = some 107 := by kernel_rfl
theorem q8_37g33 : gd q8_37 33 = some 114 := by kernel_rfl
theorem n8_37s : codeB Try.prog E ⟨f, 148, b, ro⟩ n8_37 st = plainS (runOps Try.prog E b q8_37 (ops [true, true, true, true, true, true, true, true, true, true, false, false] Try.f8) st) := GE.region_step (id := 14) (GE.reg_of (by kernel_rfl)) (by kernel_rfl)
theorem n8_40s : codeB Try.prog E ⟨f, 148, b, ro⟩ n8_40 st = plainS (runOps Try.prog E b q8_40 (ops [true, true, true, true, true, true, true, true, true, true, false, true, false, false] Try.f8) st) := GE.region_step (id := 15) (GE.reg_of (by kernel_rfl)) (by kernel_rfl)
theorem n8_41s : codeB Try.prog LL ⟨8, 148, b, ro⟩ n8_41 st = normS b ⟨[6], []⟩ .ret st := GE.ret_step (by kernel_rfl) (by kernel_rfl)
theorem n8_39s : codeB Try.prog E cx n8_39 st = thenS (codeB Try.prog E cx n8_40 st) (codeB Try.prog E cx n8_41) := GE.seq_step (by kernel_rfl)
theorem n8_42s : codeB Try.prog E cx n8_42 st = some (.normal, st) := GE.skip_step (by kernel_rfl)
theorem n8_38s : codeB Try.prog E cx n8_38 st = condS (codeB Try.prog E cx n8_39) (codeB Try.prog E cx n8_42) (lk st.σ 120) st := GE.cond_step (c := .tmp 120) (by kernel_rfl)
theorem n8_36s : codeB Try.prog E cx n8_36 st = thenS (codeB Try.prog E cx n8_37 st) (codeB Try.prog E cx n8_38) := GE.seq_step (by kernel_rfl)
theorem n8_45s : codeB Try.prog E ⟨f, 148, b, ro⟩ n8_45 st = plainS (runOps Try.prog E b q8_45 (ops [true, true, true, true, true, true, true, true, true, true, true, false, false] Try.f8) st) := GE.region_step (id := 16) (GE.reg_of (by kernel_rfl)) (by kernel_rfl)
theorem n8_49s : codeB Try.prog E ⟨f, 148, b, ro⟩ n8_49 st = plainS (runOps Try.prog E b q8_49 (ops [true, true, true, true, true, true, true, true, true, true, true, false, true, false, false, false] Try.f8) st) := GE.region_step (id := 17) (GE.reg_of (by kernel_rfl)) (by kernel_rfl)
theorem n8_52s : codeB Try.prog E cx n8_52 st = some (.normal, st) := GE.skip_step (by kernel_rfl)
theorem n8_53s : codeB Try.prog LL ⟨8, 148, b, ro⟩ n8_53 st = normS b ⟨[], []⟩ (.exit 2) st := GE.exit_step (by kernel_rfl) (by kernel_rfl)
theorem n8_51s : codeB Try.prog E cx n8_51 st = condS (codeB Try.prog E cx n8_52) (codeB Try.prog E cx n8_53) (lk st.σ 124) st := GE.cond_step (c := .tmp 124) (by kernel_rfl)
theorem n8_57s : codeB Try.prog E ⟨f, 148, b, ro⟩ n8_57 st = plainS (runOps Try.prog E b q8_57 (ops [true, true, true, true, true, true, true, true, true, true, true, false, true, false, false, true, true, false, false, false] Try.f8) st) := GE.region_step (id := 18) (GE.reg_of (by kernel_rfl)) (by kernel_rfl)
theorem q8_59g9 : gd q8_59 9 = some 135 := by kernel_rfl
theorem n8_59s : codeB Try.prog E ⟨f, 148, b, ro⟩ n8_59 st = drawS [0, 0, 3, 7, 0, 0, 48, 112, 255, 511, 1023, 1023, 4095, 8191, 1023, 1023, 50175, 115711, 262143, 524287] (runOpsF Try.prog E b q8_59 (ops [true, true, true, true, true, true, true, true, true, true, true, false, true, false, false, true, true, false, false, true, false] Try.f8) st) := GE.draw_step (id := 19) (GE.reg_of (by kernel_rfl)) (by kernel_rfl) (by kernel_rfl) (by kernel_rfl)
theorem n8_62s : codeB Try.prog E ⟨f, 148, b, ro⟩ n8_62 st = plainS (runOps Try.prog E b q8_62 (ops [true, true, true, true, true, true, true, true, true, true, true, false, true, false, false, true, true, false, false, true, true, false, false] Try.f8) st) := GE.region_step (id := 20) (GE.reg_of (by kernel_rfl)) (by kernel_rfl)
theorem n8_63s : codeB Try.prog LL ⟨8, 148, b, ro⟩ n8_63 st = normS b ⟨[6], []⟩ .ret st := GE.ret_step (by kernel_rfl) (by kernel_rfl)
theorem n8_61s : codeB Try.prog E cx n8_61 st = thenS (codeB Try.prog E cx n8_62 st) (codeB Try.prog E cx n8_63) := GE.seq_step (by kernel_rfl)
theorem n8_64s : codeB Try.prog E cx n8_64 st = some (.normal, st) := GE.skip_step (by kernel_rfl)
theorem n8_60s : codeB Try.prog E cx n8_60 st = condS (codeB Try.prog E cx n8_61) (codeB Try.prog E cx n8_64) (lk st.σ 145) st := GE.cond_step (c := .tmp 145) (by kernel_rfl)
theorem n8_58s : codeB Try.prog E cx n8_58 st = thenS (codeB Try.prog E cx n8_59 st) (codeB Try.prog E cx n8_60) := GE.seq_step (by kernel_rfl)
theorem n8_56s : codeB Try.prog E cx n8_56 st = thenS (codeB Try.prog E cx n8_57 st) (codeB Try.prog E cx n8_58) := GE.seq_step (by kernel_rfl)
theorem n8_55s : codeB Try.prog E cx n8_55 st = blockS 3 (codeB Try.prog E cx n8_56 st) st := GE.block_step (by kernel_rfl)
theorem n8_65s : codeB Try.prog E ⟨f, 148, b, ro⟩ n8_65 st = plainS (runOps Try.prog E b q8_65 (ops [true, true, true, true, true, true, true, true, true, true, true, false, true, false, false, true, true, true] Try.f8) st) := GE.region_step (id := 21) (GE.reg_of (by kernel_rfl)) (by kernel_rfl)
theorem n8_54s : codeB Try.prog E cx n8_54 st = thenS (codeB Try.prog E cx n8_55 st) (codeB Try.prog E cx n8_65) := GE.seq_step (by kernel_rfl)
theorem n8_50s : codeB Try.prog E cx n8_50 st = thenS (codeB Try.prog E cx n8_51 st) (codeB Try.prog E cx n8_54) := GE.seq_step (by kernel_rfl)
theorem n8_48s : codeB Try.prog E cx n8_48 st = thenS (codeB Try.prog E cx n8_49 st) (codeB Try.prog E cx n8_50) := GE.seq_step (by kernel_rfl)
theorem n8_47k : LL.kp (⟨8, 148, b, ro⟩ : Cx).fn (4 * rid n8_48 + 3) = some ⟨[16, 17, 19, 20, 122, 123], [⟨16, 0, 4, true⟩, ⟨17, 0, 1, true⟩, ⟨19, 0, 4, true⟩, ⟨20, 0, 1, true⟩]⟩ := by kernel_rfl
theorem n8_47s : codeB Try.prog LL ⟨8, 148, b, ro⟩ n8_47 st = headS b ⟨[16, 17, 19, 20, 122, 123], [⟨16, 0, 4, true⟩, ⟨17, 0, 1, true⟩, ⟨19, 0, 4, true⟩, ⟨20, 0, 1, true⟩]⟩ st (lpB Try.prog LL ⟨8, 148, b, ro⟩ n8_47 n8_48) := GE.lpB_step (by kernel_rfl) (n8_47k b ro)
theorem n8_47g : LL.code ⟨8, 148, b, ro⟩ n8_47 st = headS b ⟨[16, 17, 19, 20, 122, 123], [⟨16, 0, 4, true⟩, ⟨17, 0, 1, true⟩, ⟨19, 0, 4, true⟩, ⟨20, 0, 1, true⟩]⟩ st (lpB Try.prog LL ⟨8, 148, b, ro⟩ n8_47 n8_48) := GE.lpB_again (by kernel_rfl) (n8_47k b ro)
theorem n8_46s : codeB Try.prog E cx n8_46 st = blockS 2 (codeB Try.prog E cx n8_47 st) st := GE.block_step (by kernel_rfl)
theorem n8_44s : codeB Try.prog E cx n8_44 st = thenS (codeB Try.prog E cx n8_45 st) (codeB Try.prog E cx n8_46) := GE.seq_step (by kernel_rfl)
theorem n8_67s : codeB Try.prog E ⟨f, 148, b, ro⟩ n8_67 st = plainS (runOps Try.prog E b q8_67 (ops [true, true, true, true, true, true, true, true, true, true, true, true, false] Try.f8) st) := GE.region_step (id := 22) (GE.reg_of (by kernel_rfl)) (by kernel_rfl)
theorem n8_68s : codeB Try.prog LL ⟨8, 148, b, ro⟩ n8_68 st = normS b ⟨[6], []⟩ .ret st := GE.ret_step (by kernel_rfl) (by kernel_rfl)
theorem n8_66s : codeB Try.prog E cx n8_66 st = thenS (codeB Try.prog E cx n8_67 st) (codeB Try.prog E cx n8_68) := GE.seq_step (by kernel_rfl)
theorem n8_43s : codeB Try.prog E cx n8_43 st = thenS (codeB Try.prog E cx n8_44 st) (codeB Try.prog E cx n8_66) := GE.seq_step (by kernel_rfl)
theorem n8_35s : codeB Try.prog E cx n8_35 st = thenS (codeB Try.prog E cx n8_36 st) (codeB Try.prog E cx n8_43) := GE.seq_step (by kernel_rfl)
theorem n8_33s : codeB Try.prog E cx n8_33 st = thenS (codeB Try.prog E cx n8_34 st) (codeB Try.prog E cx n8_35) := GE.seq_step (by kernel_rfl)
theorem n8_31s : codeB Try.prog E cx n8_31 st = thenS (codeB Try.prog E cx n8_32 st) (codeB Try.prog E cx n8_33) := GE.seq_step (by kernel_rfl)
theorem n8_29s : codeB Try.prog E cx n8_29 st = thenS (codeB Try.prog E cx n8_30 st) (codeB Try.prog E cx n8_31) := GE.seq_step (by kernel_rfl)
theorem n8_27s : codeB Try.prog E cx n8_27 st = thenS (codeB Try.prog E cx n8_28 st) (codeB Try.prog E cx n8_29) := GE.seq_step (by kernel_rfl)
theorem n8_10s : codeB Try.prog E cx n8_10 st = thenS (codeB Try.prog E cx n8_11 st) (codeB Try.prog E cx n8_27) := GE.seq_step (by kernel_rfl)
theorem n8_8s : codeB Try.prog E cx n8_8 st = thenS (codeB Try.prog E cx n8_9 st) (codeB Try.prog E cx n8_10) := GE.seq_step (by kernel_rfl)
theorem n8_6s : codeB Try.prog E cx n8_6 st = thenS (codeB Try.prog E cx n8_7 st) (codeB Try.prog E cx n8_8) := GE.seq_step (by kernel_rfl)
theorem n8_4s : codeB Try.prog E cx n8_4 st = thenS (codeB Try.prog E cx n8_5 st) (codeB Try.prog E cx n8_6) := GE.seq_step (by kernel_rfl)
theorem n8_2s : codeB Try.prog E cx n8_2 st = thenS (codeB Try.prog E cx n8_3 st) (codeB Try.prog E cx n8_4) := GE.seq_step (by kernel_rfl)
theorem n8_0s : codeB Try.prog E cx n8_0 st = thenS (codeB Try.prog E cx n8_1 st) (codeB Try.prog E cx n8_2) := GE.seq_step (by kernel_rfl)
noncomputable def n17_0 : Code := bodyOf Try.f17
noncomputable def n17_1 : Code := cl n17_0
noncomputable def q17_1 : List Oper := opsOf n17_1
noncomputable def n17_2 : Code := cr n17_0
noncomputable def n17_3 : Code := cl n17_2
noncomputable def n17_4 : Code := cl n17_3
noncomputable def n17_5 : Code := cl n17_4
noncomputable def q17_5 : List Oper := opsOf n17_5
noncomputable def n17_6 : Code := cr n17_4
noncomputable def n17_7 : Code := cl n17_6
noncomputable def n17_8 : Code := cl n17_7
noncomputable def q17_8 : List Oper := opsOf n17_8
noncomputable def n17_9 : Code := cr n17_7
noncomputable def n17_10 : Code := cr n17_6
noncomputable def n17_11 : Code := cl n17_10
noncomputable def q17_11 : List Oper := opsOf n17_11
noncomputable def n17_12 : Code := cr n17_10
noncomputable def n17_13 : Code := cl n17_12
noncomputable def n17_14 : Code := cl n17_13
noncomputable def q17_14 : List Oper := opsOf n17_14
noncomputable def n17_15 : Code := cr n17_13
noncomputable def n17_16 : Code := cr n17_12
noncomputable def n17_17 : Code := cr n17_2
noncomputable def n17_18 : Code := cl n17_17
noncomputable def n17_19 : Code := cl n17_18
noncomputable def q17_19 : List Oper := opsOf n17_19
noncomputable def n17_20 : Code := cr n17_18
noncomputable def n17_21 : Code := cl n17_20
noncomputable def n17_22 : Code := cl n17_21
noncomputable def n17_23 : Code := cl n17_22
noncomputable def q17_23 : List Oper := opsOf n17_23
noncomputable def n17_24 : Code := cr n17_22
noncomputable def n17_25 : Code := cl n17_24
noncomputable def n17_26 : Code := cl n17_25
noncomputable def n17_27 : Code := cr n17_25
noncomputable def n17_28 : Code := cr n17_24
noncomputable def n17_29 : Code := cl n17_28
noncomputable def n17_30 : Code := cl n17_29
noncomputable def n17_31 : Code := cl n17_30
noncomputable def q17_31 : List Oper := opsOf n17_31
noncomputable def n17_32 : Code := cr n17_30
noncomputable def n17_33 : Code := cl n17_32
noncomputable def q17_33 : List Oper := opsOf n17_33
noncomputable def n17_34 : Code := cr n17_32
noncomputable def n17_35 : Code := cl n17_34
noncomputable def n17_36 : Code := cl n17_35
noncomputable def q17_36 : List Oper := opsOf n17_36
noncomputable def n17_37 : Code := cr n17_35
noncomputable def n17_38 : Code := cr n17_34
noncomputable def n17_39 : Code := cr n17_28
noncomputable def q17_39 : List Oper := opsOf n17_39
noncomputable def n17_40 : Code := cr n17_17
noncomputable def n17_41 : Code := cl n17_40
noncomputable def n17_42 : Code := cl n17_41
noncomputable def q17_42 : List Oper := opsOf n17_42
noncomputable def n17_43 : Code := cr n17_41
noncomputable def n17_44 : Code := cl n17_43
noncomputable def n17_45 : Code := cl n17_44
noncomputable def n17_46 : Code := cl n17_45
noncomputable def q17_46 : List Oper := opsOf n17_46
noncomputable def n17_47 : Code := cr n17_45
noncomputable def n17_48 : Code := cl n17_47
noncomputable def n17_49 : Code := cl n17_48
noncomputable def n17_50 : Code := cr n17_48
noncomputable def n17_51 : Code := cr n17_47
noncomputable def n17_52 : Code := cl n17_51
noncomputable def n17_53 : Code := cl n17_52
noncomputable def n17_54 : Code := cl n17_53
noncomputable def q17_54 : List Oper := opsOf n17_54
noncomputable def n17_55 : Code := cr n17_53
noncomputable def n17_56 : Code := cl n17_55
noncomputable def q17_56 : List Oper := opsOf n17_56
noncomputable def n17_57 : Code := cr n17_55
noncomputable def n17_58 : Code := cl n17_57
noncomputable def q17_58 : List Oper := opsOf n17_58
noncomputable def n17_59 : Code := cr n17_57
noncomputable def n17_60 : Code := cl n17_59
noncomputable def n17_61 : Code := cl n17_60
noncomputable def q17_61 : List Oper := opsOf n17_61
noncomputable def n17_62 : Code := cr n17_60
noncomputable def n17_63 : Code := cr n17_59
noncomputable def n17_64 : Code := cr n17_51
noncomputable def q17_64 : List Oper := opsOf n17_64
noncomputable def n17_65 : Code := cr n17_40
noncomputable def n17_66 : Code := cl n17_65
noncomputable def q17_66 : List Oper := opsOf n17_66
noncomputable def n17_67 : Code := cr n17_65
theorem body17 : Try.f17.body = some n17_0 := by kernel_rfl
theorem run17 (E : Ev) (args : List Value) (h : List Blk) (hl : args.length ≤ 94) : runB Try.prog E 17 args h = endS Try.prog [.tmp 2] h.length (codeB Try.prog E ⟨17, 94, h.length, none⟩ n17_0 ⟨enumT 0 args, h, []⟩) := GE.run_step Try.func17 body17 (by kernel_rfl) (by decide) (by kernel_rfl) hl
theorem n17_1s : codeB Try.prog E ⟨f, 94, b, ro⟩ n17_1 st = plainS (runOps Try.prog E b q17_1 (ops [false] Try.f17) st) := GE.region_step (id := 0) (GE.reg_of (by kernel_rfl)) (by kernel_rfl)
theorem q17_5g4 : gd q17_5 4 = some 14 := by kernel_rfl
theorem q17_5g10 : gd q17_5 10 = some 20 := by kernel_rfl
theorem n17_5s : codeB Try.prog E ⟨f, 94, b, ro⟩ n17_5 st = plainS (runOps Try.prog E b q17_5 (ops [true, false, false, false] Try.f17) st) := GE.region_step (id := 1) (GE.reg_of (by kernel_rfl)) (by kernel_rfl)
theorem n17_8s : codeB Try.prog E ⟨f, 94, b, ro⟩ n17_8 st = plainS (runOps Try.prog E b q17_8 (ops [true, false, false, true, false, false] Try.f17) st) := GE.region_step (id := 2) (GE.reg_of (by kernel_rfl)) (by kernel_rfl)
theorem n17_9s : codeB Try.prog LL ⟨17, 94, b, ro⟩ n17_9 st = normS b ⟨[2], []⟩ .ret st := GE.ret_step (by kernel_rfl) (by kernel_rfl)
theorem n17_7s : codeB Try.prog E cx n17_7 st = thenS (codeB Try.prog E cx n17_8 st) (codeB Try.prog E cx n17_9) := GE.seq_step (by kernel_rfl)
theorem n17_11s : codeB Try.prog E ⟨f, 94, b, ro⟩ n17_11 st = plainS (runOps Try.prog E b q17_11 (ops [true, false, false, true, true, false] Try.f17) st) := GE.region_step (id := 3) (GE.reg_of (by kernel_rfl)) (by kernel_rfl)
theorem n17_14s : codeB Try.prog E ⟨f, 94, b, ro⟩ n17_14 st = plainS (runOps Try.prog E b q17_14 (ops [true, false, false, true, true, true, false, false] Try.f17) st) := GE.region_step (id := 4) (GE.reg_of (by kernel_rfl)) (by kernel_rfl)
theorem n17_15s : codeB Try.prog LL ⟨17, 94, b, ro⟩ n17_15 st = normS b ⟨[2], []⟩ .ret st := GE.ret_step (by kernel_rfl) (by kernel_rfl)
theorem n17_13s : codeB Try.prog E cx n17_13 st = thenS (codeB Try.prog E cx n17_14 st) (codeB Try.prog E cx n17_15) := GE.seq_step (by kernel_rfl)
theorem n17_16s : codeB Try.prog E cx n17_16 st = some (.normal, st) := GE.skip_step (by kernel_rfl)
theorem n17_12s : codeB Try.prog E cx n17_12 st = condS (codeB Try.prog E cx n17_13) (codeB Try.prog E cx n17_16) (lk st.σ 26) st := GE.cond_step (c := .tmp 26) (by kernel_rfl)
theorem n17_10s : codeB Try.prog E cx n17_10 st = thenS (codeB Try.prog E cx n17_11 st) (codeB Try.prog E cx n17_12) := GE.seq_step (by kernel_rfl)
theorem n17_6s : codeB Try.prog E cx n17_6 st = condS (codeB Try.prog E cx n17_7) (codeB Try.prog E cx n17_10) (lk st.σ 9) st := GE.cond_step (c := .tmp 9) (by kernel_rfl)
theorem n17_4s : codeB Try.prog E cx n17_4 st = thenS (codeB Try.prog E cx n17_5 st) (codeB Try.prog E cx n17_6) := GE.seq_step (by kernel_rfl)
theorem n17_3s : codeB Try.prog E cx n17_3 st = blockS 0 (codeB Try.prog E cx n17_4 st) st := GE.block_step (by kernel_rfl)
theorem n17_19s : codeB Try.prog E ⟨f, 94, b, ro⟩ n17_19 st = plainS (runOps Try.prog E b q17_19 (ops [true, true, false, false] Try.f17) st) := GE.region_step (id := 5) (GE.reg_of (by kernel_rfl)) (by kernel_rfl)
theorem n17_23s : codeB Try.prog E ⟨f, 94, b, ro⟩ n17_23 st = plainS (runOps Try.prog E b q17_23 (ops [true, true, false, true, false, false, false] Try.f17) st) := GE.region_step (id := 6) (GE.reg_of (by kernel_rfl)) (by kernel_rfl)
theorem n17_26s : codeB Try.prog E cx n17_26 st = some (.normal, st) := GE.skip_step (by kernel_rfl)
theorem n17_27s : codeB Try.prog LL ⟨17, 94, b, ro⟩ n17_27 st = normS b ⟨[1], [⟨1, 3, 1, true⟩]⟩ (.exit 1) st := GE.exit_step (by kernel_rfl) (by kernel_rfl)
theorem n17_25s : codeB Try.prog E cx n17_25 st = condS (codeB Try.prog E cx n17_26) (codeB Try.prog E cx n17_27) (lk st.σ 40) st := GE.cond_step (c := .tmp 40) (by kernel_rfl)
theorem n17_31s : codeB Try.prog E ⟨f, 94, b, ro⟩ n17_31 st = plainS (runOps Try.prog E b q17_31 (ops [true, true, false, true, false, false, true, true, false, false, false] Try.f17) st) := GE.region_step (id := 7) (GE.reg_of (by kernel_rfl)) (by kernel_rfl)
theorem n17_33s : codeB Try.prog E ⟨f, 94, b, ro⟩ n17_33 st = plainS (runOps Try.prog E b q17_33 (ops [true, true, false, true, false, false, true, true, false, false, true, false] Try.f17) st) := GE.region_step (id := 8) (GE.reg_of (by kernel_rfl)) (by kernel_rfl)
theorem n17_36s : codeB Try.prog E ⟨f, 94, b, ro⟩ n17_36 st = plainS (runOps Try.prog E b q17_36 (ops [true, true, false, true, false, false, true, true, false, false, true, true, false, false] Try.f17) st) := GE.region_step (id := 9) (GE.reg_of (by kernel_rfl)) (by kernel_rfl)
theorem n17_37s : codeB Try.prog LL ⟨17, 94, b, ro⟩ n17_37 st = normS b ⟨[2], []⟩ .ret st := GE.ret_step (by kernel_rfl) (by kernel_rfl)
theorem n17_35s : codeB Try.prog E cx n17_35 st = thenS (codeB Try.prog E cx n17_36 st) (codeB Try.prog E cx n17_37) := GE.seq_step (by kernel_rfl)
theorem n17_38s : codeB Try.prog E cx n17_38 st = some (.normal, st) := GE.skip_step (by kernel_rfl)
theorem n17_34s : codeB Try.prog E cx n17_34 st = condS (codeB Try.prog E cx n17_35) (codeB Try.prog E cx n17_38) (lk st.σ 45) st := GE.cond_step (c := .tmp 45) (by kernel_rfl)
theorem n17_32s : codeB Try.prog E cx n17_32 st = thenS (codeB Try.prog E cx n17_33 st) (codeB Try.prog E cx n17_34) := GE.seq_step (by kernel_rfl)
theorem n17_30s : codeB Try.prog E cx n17_30 st = thenS (codeB Try.prog E cx n17_31 st) (codeB Try.prog E cx n17_32) := GE.seq_step (by kernel_rfl)
theorem n17_29s : codeB Try.prog E cx n17_29 st = blockS 2 (codeB Try.prog E cx n17_30 st) st := GE.block_step (by kernel_rfl)
theorem n17_39s : codeB Try.prog E ⟨f, 94, b, ro⟩ n17_39 st = plainS (runOps Try.prog E b q17_39 (ops [true, true, false, true, false, false, true, true, true] Try.f17) st) := GE.region_step (id := 10) (GE.reg_of (by kernel_rfl)) (by kernel_rfl)
theorem n17_28s : codeB Try.prog E cx n17_28 st = thenS (codeB Try.prog E cx n17_29 st) (codeB Try.prog E cx n17_39) := GE.seq_step (by kernel_rfl)
theorem n17_24s : codeB Try.prog E cx n17_24 st = thenS (codeB Try.prog E cx n17_25 st) (codeB Try.prog E cx n17_28) := GE.seq_step (by kernel_rfl)
theorem n17_22s : codeB Try.prog E cx n17_22 st = thenS (codeB Try.prog E cx n17_23 st) (codeB Try.prog E cx n17_24) := GE.seq_step (by kernel_rfl)
theorem n17_21k : LL.kp (⟨17, 94, b, ro⟩ : Cx).fn (4 * rid n17_22 + 3) = some ⟨[1, 37, 38, 39], [⟨1, 3, 1, true⟩, ⟨37, 0, 1, true⟩]⟩ := by kernel_rfl
theorem n17_21s : codeB Try.prog LL ⟨17, 94, b, ro⟩ n17_21 st = headS b ⟨[1, 37, 38, 39], [⟨1, 3, 1, true⟩, ⟨37, 0, 1, true⟩]⟩ st (lpB Try.prog LL ⟨17, 94, b, ro⟩ n17_21 n17_22) := GE.lpB_step (by kernel_rfl) (n17_21k b ro)
theorem n17_21g : LL.code ⟨17, 94, b, ro⟩ n17_21 st = headS b ⟨[1, 37, 38, 39], [⟨1, 3, 1, true⟩, ⟨37, 0, 1, true⟩]⟩ st (lpB Try.prog LL ⟨17, 94, b, ro⟩ n17_21 n17_22) := GE.lpB_again (by kernel_rfl) (n17_21k b ro)
theorem n17_20s : codeB Try.prog E cx n17_20 st = blockS 1 (codeB Try.prog E cx n17_21 st) st := GE.block_step (by kernel_rfl)
theorem n17_18s : codeB Try.prog E cx n17_18 st = thenS (codeB Try.prog E cx n17_19 st) (codeB Try.prog E cx n17_20) := GE.seq_step (by kernel_rfl)
theorem n17_42s : codeB Try.prog E ⟨f, 94, b, ro⟩ n17_42 st = plainS (runOps Try.prog E b q17_42 (ops [true, true, true, false, false] Try.f17) st) := GE.region_step (id := 11) (GE.reg_of (by kernel_rfl)) (by kernel_rfl)
theorem n17_46s : codeB Try.prog E ⟨f, 94, b, ro⟩ n17_46 st = plainS (runOps Try.prog E b q17_46 (ops [true, true, true, false, true, false, false, false] Try.f17) st) := GE.region_step (id := 12) (GE.reg_of (by kernel_rfl)) (by kernel_rfl)
theorem n17_49s : codeB Try.prog E cx n17_49 st = some (.normal, st) := GE.skip_step (by kernel_rfl)
theorem n17_50s : codeB Try.prog LL ⟨17, 94, b, ro⟩ n17_50 st = normS b ⟨[], []⟩ (.exit 3) st := GE.exit_step (by kernel_rfl) (by kernel_rfl)
theorem n17_48s : codeB Try.prog E cx n17_48 st = condS (codeB Try.prog E cx n17_49) (codeB Try.prog E cx n17_50) (lk st.σ 51) st := GE.cond_step (c := .tmp 51) (by kernel_rfl)
theorem n17_54s : codeB Try.prog E ⟨f, 94, b, ro⟩ n17_54 st = plainS (runOps Try.prog E b q17_54 (ops [true, true, true, false, true, false, false, true, true, false, false, false] Try.f17) st) := GE.region_step (id := 13) (GE.reg_of (by kernel_rfl)) (by kernel_rfl)
theorem n17_56s : codeB Try.prog E ⟨f, 94, b, ro⟩ n17_56 st = drawS [0, 0, 2, 7, 0, 0, 32, 112, 15, 511] (runOpsF Try.prog E b q17_56 (ops [true, true, true, false, true, false, false, true, true, false, false, true, false] Try.f17) st) := GE.draw_step (id := 14) (GE.reg_of (by kernel_rfl)) (by kernel_rfl) (by kernel_rfl) (by kernel_rfl)
theorem q17_58g2 : gd q17_58 2 = some 65 := by kernel_rfl
theorem q17_58g14 : gd q17_58 14 = some 77 := by kernel_rfl
theorem q17_58g17 : gd q17_58 17 = some 80 := by kernel_rfl
theorem n17_58s : codeB Try.prog E ⟨f, 94, b, ro⟩ n17_58 st = drawS [0, 1, 3, 7, 7, 7, 7, 71, 7, 487, 1015, 2047, 4095, 8191, 16383, 32767, 65535, 131071, 262143, 262143, 262143, 262143, 262143, 4456447, 15990783, 33292287, 67108863, 134217727, 268435455, 536870911] (runOpsF Try.prog E b q17_58 (ops [true, true, true, false, true, false, false, true, true, false, false, true, true, false] Try.f17) st) := GE.draw_step (id := 15) (GE.reg_of (by kernel_rfl)) (by kernel_rfl) (by kernel_rfl) (by kernel_rfl)
theorem n17_61s : codeB Try.prog E ⟨f, 94, b, ro⟩ n17_61 st = plainS (runOps Try.prog E b q17_61 (ops [true, true, true, false, true, false, false, true, true, false, false, true, true, true, false, false] Try.f17) st) := GE.region_step (id := 16) (GE.reg_of (by kernel_rfl)) (by kernel_rfl)
theorem n17_62s : codeB Try.prog LL ⟨17, 94, b, ro⟩ n17_62 st = normS b ⟨[2], []⟩ .ret st := GE.ret_step (by kernel_rfl) (by kernel_rfl)
theorem n17_60s : codeB Try.prog E cx n17_60 st = thenS (codeB Try.prog E cx n17_61 st) (codeB Try.prog E cx n17_62) := GE.seq_step (by kernel_rfl)
theorem n17_63s : codeB Try.prog E cx n17_63 st = some (.normal, st) := GE.skip_step (by kernel_rfl)
theorem n17_59s : codeB Try.prog E cx n17_59 st = condS (codeB Try.prog E cx n17_60) (codeB Try.prog E cx n17_63) (lk st.σ 92) st := GE.cond_step (c := .tmp 92) (by kernel_rfl)
theorem n17_57s : codeB Try.prog E cx n17_57 st = thenS (codeB Try.prog E cx n17_58 st) (codeB Try.prog E cx n17_59) := GE.seq_step (by kernel_rfl)
theorem n17_55s : codeB Try.prog E cx n17_55 st = thenS (codeB Try.prog E cx n17_56 st) (codeB Try.prog E cx n17_57) := GE.seq_step (by kernel_rfl)
theorem n17_53s : codeB Try.prog E cx n17_53 st = thenS (codeB Try.prog E cx n17_54 st) (codeB Try.prog E cx n17_55) := GE.seq_step (by kernel_rfl)
theorem n17_52s : codeB Try.prog E cx n17_52 st = blockS 4 (codeB Try.prog E cx n17_53 st) st := GE.block_step (by kernel_rfl)
theorem n17_64s : codeB Try.prog E ⟨f, 94, b, ro⟩ n17_64 st = plainS (runOps Try.prog E b q17_64 (ops [true, true, true, false, true, false, false, true, true, true] Try.f17) st) := GE.region_step (id := 17) (GE.reg_of (by kernel_rfl)) (by kernel_rfl)
theorem n17_51s : codeB Try.prog E cx n17_51 st = thenS (codeB Try.prog E cx n17_52 st) (codeB Try.prog E cx n17_64) := GE.seq_step (by kernel_rfl)
theorem n17_47s : codeB Try.prog E cx n17_47 st = thenS (codeB Try.prog E cx n17_48 st) (codeB Try.prog E cx n17_51) := GE.seq_step (by kernel_rfl)
theorem n17_45s : codeB Try.prog E cx n17_45 st = thenS (codeB Try.prog E cx n17_46 st) (codeB Try.prog E cx n17_47) := GE.seq_step (by kernel_rfl)
theorem n17_44k : LL.kp (⟨17, 94, b, ro⟩ : Cx).fn (4 * rid n17_45 + 3) = some ⟨[1, 48, 49, 50], [⟨1, 3, 1, true⟩, ⟨48, 0, 1, true⟩]⟩ := by kernel_rfl
theorem n17_44s : codeB Try.prog LL ⟨17, 94, b, ro⟩ n17_44 st = headS b ⟨[1, 48, 49, 50], [⟨1, 3, 1, true⟩, ⟨48, 0, 1, true⟩]⟩ st (lpB Try.prog LL ⟨17, 94, b, ro⟩ n17_44 n17_45) := GE.lpB_step (by kernel_rfl) (n17_44k b ro)
theorem n17_44g : LL.code ⟨17, 94, b, ro⟩ n17_44 st = headS b ⟨[1, 48, 49, 50], [⟨1, 3, 1, true⟩, ⟨48, 0, 1, true⟩]⟩ st (lpB Try.prog LL ⟨17, 94, b, ro⟩ n17_44 n17_45) := GE.lpB_again (by kernel_rfl) (n17_44k b ro)
theorem n17_43s : codeB Try.prog E cx n17_43 st = blockS 3 (codeB Try.prog E cx n17_44 st) st := GE.block_step (by kernel_rfl)
theorem n17_41s : codeB Try.prog E cx n17_41 st = thenS (codeB Try.prog E cx n17_42 st) (codeB Try.prog E cx n17_43) := GE.seq_step (by kernel_rfl)
theorem n17_66s : codeB Try.prog E ⟨f, 94, b, ro⟩ n17_66 st = plainS (runOps Try.prog E b q17_66 (ops [true, true, true, true, false] Try.f17) st) := GE.region_step (id := 18) (GE.reg_of (by kernel_rfl)) (by kernel_rfl)
theorem n17_67s : codeB Try.prog LL ⟨17, 94, b, ro⟩ n17_67 st = normS b ⟨[2], []⟩ .ret st := GE.ret_step (by kernel_rfl) (by kernel_rfl)
theorem n17_65s : codeB Try.prog E cx n17_65 st = thenS (codeB Try.prog E cx n17_66 st) (codeB Try.prog E cx n17_67) := GE.seq_step (by kernel_rfl)
theorem n17_40s : codeB Try.prog E cx n17_40 st = thenS (codeB Try.prog E cx n17_41 st) (codeB Try.prog E cx n17_65) := GE.seq_step (by kernel_rfl)
theorem n17_17s : codeB Try.prog E cx n17_17 st = thenS (codeB Try.prog E cx n17_18 st) (codeB Try.prog E cx n17_40) := GE.seq_step (by kernel_rfl)
theorem n17_2s : codeB Try.prog E cx n17_2 st = thenS (codeB Try.prog E cx n17_3 st) (codeB Try.prog E cx n17_17) := GE.seq_step (by kernel_rfl)
theorem n17_0s : codeB Try.prog E cx n17_0 st = thenS (codeB Try.prog E cx n17_1 st) (codeB Try.prog E cx n17_2) := GE.seq_step (by kernel_rfl)
noncomputable def n20_0 : Code := bodyOf Try.f20
noncomputable def n20_1 : Code := cl n20_0
noncomputable def q20_1 : List Oper := opsOf n20_1
noncomputable def n20_2 : Code := cr n20_0
noncomputable def n20_3 : Code := cl n20_2
noncomputable def q20_3 : List Oper := opsOf n20_3
noncomputable def n20_4 : Code := cr n20_2
noncomputable def n20_5 : Code := cl n20_4
noncomputable def n20_6 : Code := cl n20_5
noncomputable def n20_7 : Code := cl n20_6
noncomputable def q20_7 : List Oper := opsOf n20_7
noncomputable def n20_8 : Code := cr n20_6
noncomputable def n20_9 : Code := cl n20_8
noncomputable def n20_10 : Code := cl n20_9
noncomputable def q20_10 : List Oper := opsOf n20_10
noncomputable def n20_11 : Code := cr n20_9
noncomputable def n20_12 : Code := cr n20_8
noncomputable def n20_13 : Code := cl n20_12
noncomputable def q20_13 : List Oper := opsOf n20_13
noncomputable def n20_14 : Code := cr n20_12
noncomputable def n20_15 : Code := cl n20_14
noncomputable def n20_16 : Code := cl n20_15
noncomputable def q20_16 : List Oper := opsOf n20_16
noncomputable def n20_17 : Code := cr n20_15
noncomputable def n20_18 : Code := cr n20_14
noncomputable def n20_19 : Code := cr n20_4
noncomputable def n20_20 : Code := cl n20_19
noncomputable def q20_20 : List Oper := opsOf n20_20
noncomputable def n20_21 : Code := cr n20_19
theorem body20 : Try.f20.body = some n20_0 := by kernel_rfl
theorem run20 (E : Ev) (args : List Value) (h : List Blk) (hl : args.length ≤ 21) : runB Try.prog E 20 args h = endS Try.prog [.tmp 4, .tmp 5] h.length (codeB Try.prog E ⟨20, 21, h.length, none⟩ n20_0 ⟨enumT 0 args, h, []⟩) := GE.run_step Try.func20 body20 (by kernel_rfl) (by decide) (by kernel_rfl) hl
theorem n20_1s : codeB Try.prog E ⟨f, 21, b, ro⟩ n20_1 st = plainS (runOps Try.prog E b q20_1 (ops [false] Try.f20) st) := GE.region_step (id := 0) (GE.reg_of (by kernel_rfl)) (by kernel_rfl)
theorem n20_3s : codeB Try.prog E ⟨f, 21, b, ro⟩ n20_3 st = plainS (runOps Try.prog E b q20_3 (ops [true, false] Try.f20) st) := GE.region_step (id := 1) (GE.reg_of (by kernel_rfl)) (by kernel_rfl)
theorem n20_7s : codeB Try.prog E ⟨f, 21, b, ro⟩ n20_7 st = plainS (runOps Try.prog E b q20_7 (ops [true, true, false, false, false] Try.f20) st) := GE.region_step (id := 2) (GE.reg_of (by kernel_rfl)) (by kernel_rfl)
theorem n20_10s : codeB Try.prog E ⟨f, 21, b, ro⟩ n20_10 st = plainS (runOps Try.prog E b q20_10 (ops [true, true, false, false, true, false, false] Try.f20) st) := GE.region_step (id := 3) (GE.reg_of (by kernel_rfl)) (by kernel_rfl)
theorem n20_11s : codeB Try.prog LL ⟨20, 21, b, ro⟩ n20_11 st = normS b ⟨[4, 5], []⟩ .ret st := GE.ret_step (by kernel_rfl) (by kernel_rfl)
theorem n20_9s : codeB Try.prog E cx n20_9 st = thenS (codeB Try.prog E cx n20_10 st) (codeB Try.prog E cx n20_11) := GE.seq_step (by kernel_rfl)
theorem n20_13s : codeB Try.prog E ⟨f, 21, b, ro⟩ n20_13 st = plainS (runOps Try.prog E b q20_13 (ops [true, true, false, false, true, true, false] Try.f20) st) := GE.region_step (id := 4) (GE.reg_of (by kernel_rfl)) (by kernel_rfl)
theorem n20_16s : codeB Try.prog E ⟨f, 21, b, ro⟩ n20_16 st = plainS (runOps Try.prog E b q20_16 (ops [true, true, false, false, true, true, true, false, false] Try.f20) st) := GE.region_step (id := 5) (GE.reg_of (by kernel_rfl)) (by kernel_rfl)
theorem n20_17s : codeB Try.prog LL ⟨20, 21, b, ro⟩ n20_17 st = normS b ⟨[4, 5], []⟩ .ret st := GE.ret_step (by kernel_rfl) (by kernel_rfl)
theorem n20_15s : codeB Try.prog E cx n20_15 st = thenS (codeB Try.prog E cx n20_16 st) (codeB Try.prog E cx n20_17) := GE.seq_step (by kernel_rfl)
theorem n20_18s : codeB Try.prog E cx n20_18 st = some (.normal, st) := GE.skip_step (by kernel_rfl)
theorem n20_14s : codeB Try.prog E cx n20_14 st = condS (codeB Try.prog E cx n20_15) (codeB Try.prog E cx n20_18) (lk st.σ 13) st := GE.cond_step (c := .tmp 13) (by kernel_rfl)
theorem n20_12s : codeB Try.prog E cx n20_12 st = thenS (codeB Try.prog E cx n20_13 st) (codeB Try.prog E cx n20_14) := GE.seq_step (by kernel_rfl)
theorem n20_8s : codeB Try.prog E cx n20_8 st = condS (codeB Try.prog E cx n20_9) (codeB Try.prog E cx n20_12) (lk st.σ 9) st := GE.cond_step (c := .tmp 9) (by kernel_rfl)
theorem n20_6s : codeB Try.prog E cx n20_6 st = thenS (codeB Try.prog E cx n20_7 st) (codeB Try.prog E cx n20_8) := GE.seq_step (by kernel_rfl)
theorem n20_5s : codeB Try.prog E cx n20_5 st = blockS 0 (codeB Try.prog E cx n20_6 st) st := GE.block_step (by kernel_rfl)
theorem n20_20s : codeB Try.prog E ⟨f, 21, b, ro⟩ n20_20 st = plainS (runOps Try.prog E b q20_20 (ops [true, true, true, false] Try.f20) st) := GE.region_step (id := 6) (GE.reg_of (by kernel_rfl)) (by kernel_rfl)
theorem n20_21s : codeB Try.prog LL ⟨20, 21, b, ro⟩ n20_21 st = normS b ⟨[4, 5], []⟩ .ret st := GE.ret_step (by kernel_rfl) (by kernel_rfl)
theorem n20_19s : codeB Try.prog E cx n20_19 st = thenS (codeB Try.prog E cx n20_20 st) (codeB Try.prog E cx n20_21) := GE.seq_step (by kernel_rfl)
theorem n20_4s : codeB Try.prog E cx n20_4 st = thenS (codeB Try.prog E cx n20_5 st) (codeB Try.prog E cx n20_19) := GE.seq_step (by kernel_rfl)
theorem n20_2s : codeB Try.prog E cx n20_2 st = thenS (codeB Try.prog E cx n20_3 st) (codeB Try.prog E cx n20_4) := GE.seq_step (by kernel_rfl)
theorem n20_0s : codeB Try.prog E cx n20_0 st = thenS (codeB Try.prog E cx n20_1 st) (codeB Try.prog E cx n20_2) := GE.seq_step (by kernel_rfl)
noncomputable def n22_0 : Code := bodyOf Try.f22
noncomputable def n22_1 : Code := cl n22_0
noncomputable def q22_1 : List Oper := opsOf n22_1
noncomputable def n22_2 : Code := cr n22_0
noncomputable def n22_3 : Code := cl n22_2
noncomputable def n22_4 : Code := cl n22_3
noncomputable def q22_4 : List Oper := opsOf n22_4
noncomputable def n22_5 : Code := cr n22_3
noncomputable def n22_6 : Code := cl n22_5
noncomputable def q22_6 : List Oper := opsOf n22_6
noncomputable def n22_7 : Code := cr n22_5
noncomputable def n22_8 : Code := cl n22_7
noncomputable def n22_9 : Code := cl n22_8
noncomputable def q22_9 : List Oper := opsOf n22_9
noncomputable def n22_10 : Code := cr n22_8
noncomputable def n22_11 : Code := cr n22_7
noncomputable def n22_12 : Code := cr n22_2
noncomputable def n22_13 : Code := cl n22_12
noncomputable def q22_13 : List Oper := opsOf n22_13
noncomputable def n22_14 : Code := cr n22_12
noncomputable def n22_15 : Code := cl n22_14
noncomputable def q22_15 : List Oper := opsOf n22_15
noncomputable def n22_16 : Code := cr n22_14
noncomputable def n22_17 : Code := cl n22_16
noncomputable def n22_18 : Code := cl n22_17
noncomputable def q22_18 : List Oper := opsOf n22_18
noncomputable def n22_19 : Code := cr n22_17
noncomputable def n22_20 : Code := cl n22_19
noncomputable def n22_21 : Code := cl n22_20
noncomputable def n22_22 : Code := cl n22_21
noncomputable def q22_22 : List Oper := opsOf n22_22
noncomputable def n22_23 : Code := cr n22_21
noncomputable def n22_24 : Code := cl n22_23
noncomputable def n22_25 : Code := cl n22_24
noncomputable def n22_26 : Code := cr n22_24
noncomputable def n22_27 : Code := cr n22_23
noncomputable def n22_28 : Code := cl n22_27
noncomputable def n22_29 : Code := cl n22_28
noncomputable def n22_30 : Code := cl n22_29
noncomputable def q22_30 : List Oper := opsOf n22_30
noncomputable def n22_31 : Code := cr n22_29
noncomputable def n22_32 : Code := cl n22_31
noncomputable def q22_32 : List Oper := opsOf n22_32
noncomputable def n22_33 : Code := cr n22_31
noncomputable def n22_34 : Code := cl n22_33
noncomputable def n22_35 : Code := cl n22_34
noncomputable def n22_36 : Code := cl n22_35
noncomputable def q22_36 : List Oper := opsOf n22_36
noncomputable def n22_37 : Code := cr n22_35
noncomputable def n22_38 : Code := cl n22_37
noncomputable def n22_39 : Code := cl n22_38
noncomputable def n22_40 : Code := cr n22_38
noncomputable def n22_41 : Code := cr n22_37
noncomputable def n22_42 : Code := cl n22_41
noncomputable def n22_43 : Code := cl n22_42
noncomputable def n22_44 : Code := cl n22_43
noncomputable def q22_44 : List Oper := opsOf n22_44
noncomputable def n22_45 : Code := cr n22_43
noncomputable def n22_46 : Code := cl n22_45
noncomputable def q22_46 : List Oper := opsOf n22_46
noncomputable def n22_47 : Code := cr n22_45
noncomputable def n22_48 : Code := cl n22_47
noncomputable def q22_48 : List Oper := opsOf n22_48
noncomputable def n22_49 : Code := cr n22_47
noncomputable def n22_50 : Code := cl n22_49
noncomputable def q22_50 : List Oper := opsOf n22_50
noncomputable def n22_51 : Code := cr n22_49
noncomputable def n22_52 : Code := cl n22_51
noncomputable def q22_52 : List Oper := opsOf n22_52
noncomputable def n22_53 : Code := cr n22_51
noncomputable def n22_54 : Code := cr n22_41
noncomputable def q22_54 : List Oper := opsOf n22_54
noncomputable def n22_55 : Code := cr n22_27
noncomputable def q22_55 : List Oper := opsOf n22_55
noncomputable def n22_56 : Code := cr n22_16
noncomputable def n22_57 : Code := cl n22_56
noncomputable def q22_57 : List Oper := opsOf n22_57
noncomputable def n22_58 : Code := cr n22_56
theorem body22 : Try.f22.body = some n22_0 := by kernel_rfl
theorem run22 (E : Ev) (args : List Value) (h : List Blk) (hl : args.length ≤ 49) : runB Try.prog E 22 args h = endS Try.prog [.tmp 2, .tmp 3, .tmp 4] h.length (codeB Try.prog E ⟨22, 49, h.length, none⟩ n22_0 ⟨enumT 0 args, h, []⟩) := GE.run_step Try.func22 body22 (by kernel_rfl) (by decide) (by kernel_rfl) hl
theorem n22_1s : codeB Try.prog E ⟨f, 49, b, ro⟩ n22_1 st = plainS (runOps Try.prog E b q22_1 (ops [false] Try.f22) st) := GE.region_step (id := 0) (GE.reg_of (by kernel_rfl)) (by kernel_rfl)
theorem n22_4s : codeB Try.prog E ⟨f, 49, b, ro⟩ n22_4 st = plainS (runOps Try.prog E b q22_4 (ops [true, false, false] Try.f22) st) := GE.region_step (id := 1) (GE.reg_of (by kernel_rfl)) (by kernel_rfl)
theorem n22_6s : codeB Try.prog E ⟨f, 49, b, ro⟩ n22_6 st = plainS (runOps Try.prog E b q22_6 (ops [true, false, true, false] Try.f22) st) := GE.region_step (id := 2) (GE.reg_of (by kernel_rfl)) (by kernel_rfl)
theorem n22_9s : codeB Try.prog E ⟨f, 49, b, ro⟩ n22_9 st = plainS (runOps Try.prog E b q22_9 (ops [true, false, true, true, false, false] Try.f22) st) := GE.region_step (id := 3) (GE.reg_of (by kernel_rfl)) (by kernel_rfl)
theorem n22_10s : codeB Try.prog LL ⟨22, 49, b, ro⟩ n22_10 st = normS b ⟨[2, 3, 4], [⟨2, 0, 4, true⟩, ⟨3, 0, 1, true⟩]⟩ .ret st := GE.ret_step (by kernel_rfl) (by kernel_rfl)
theorem n22_8s : codeB Try.prog E cx n22_8 st = thenS (codeB Try.prog E cx n22_9 st) (codeB Try.prog E cx n22_10) := GE.seq_step (by kernel_rfl)
theorem n22_11s : codeB Try.prog E cx n22_11 st = some (.normal, st) := GE.skip_step (by kernel_rfl)
theorem n22_7s : codeB Try.prog E cx n22_7 st = condS (codeB Try.prog E cx n22_8) (codeB Try.prog E cx n22_11) (lk st.σ 15) st := GE.cond_step (c := .tmp 15) (by kernel_rfl)
theorem n22_5s : codeB Try.prog E cx n22_5 st = thenS (codeB Try.prog E cx n22_6 st) (codeB Try.prog E cx n22_7) := GE.seq_step (by kernel_rfl)
theorem n22_3s : codeB Try.prog E cx n22_3 st = thenS (codeB Try.prog E cx n22_4 st) (codeB Try.prog E cx n22_5) := GE.seq_step (by kernel_rfl)
theorem n22_13s : codeB Try.prog E ⟨f, 49, b, ro⟩ n22_13 st = plainS (runOps Try.prog E b q22_13 (ops [true, true, false] Try.f22) st) := GE.region_step (id := 4) (GE.reg_of (by kernel_rfl)) (by kernel_rfl)
theorem n22_15s : codeB Try.prog E ⟨f, 49, b, ro⟩ n22_15 st = plainS (runOps Try.prog E b q22_15 (ops [true, true, true, false] Try.f22) st) := GE.region_step (id := 5) (GE.reg_of (by kernel_rfl)) (by kernel_rfl)
theorem n22_18s : codeB Try.prog E ⟨f, 49, b, ro⟩ n22_18 st = plainS (runOps Try.prog E b q22_18 (ops [true, true, true, true, false, false] Try.f22) st) := GE.region_step (id := 6) (GE.reg_of (by kernel_rfl)) (by kernel_rfl)
theorem n22_22s : codeB Try.prog E ⟨f, 49, b, ro⟩ n22_22 st = plainS (runOps Try.prog E b q22_22 (ops [true, true, true, true, false, true, false, false, false] Try.f22) st) := GE.region_step (id := 7) (GE.reg_of (by kernel_rfl)) (by kernel_rfl)
theorem n22_25s : codeB Try.prog E cx n22_25 st = some (.normal, st) := GE.skip_step (by kernel_rfl)
theorem n22_26s : codeB Try.prog LL ⟨22, 49, b, ro⟩ n22_26 st = normS b ⟨[6, 7], [⟨6, 0, 4, true⟩, ⟨7, 0, 1, true⟩]⟩ (.exit 0) st := GE.exit_step (by kernel_rfl) (by kernel_rfl)
theorem n22_24s : codeB Try.prog E cx n22_24 st = condS (codeB Try.prog E cx n22_25) (codeB Try.prog E cx n22_26) (lk st.σ 21) st := GE.cond_step (c := .tmp 21) (by kernel_rfl)
theorem n22_30s : codeB Try.prog E ⟨f, 49, b, ro⟩ n22_30 st = plainS (runOps Try.prog E b q22_30 (ops [true, true, true, true, false, true, false, false, true, true, false, false, false] Try.f22) st) := GE.region_step (id := 8) (GE.reg_of (by kernel_rfl)) (by kernel_rfl)
theorem n22_32s : codeB Try.prog E ⟨f, 49, b, ro⟩ n22_32 st = plainS (runOps Try.prog E b q22_32 (ops [true, true, true, true, false, true, false, false, true, true, false, false, true, false] Try.f22) st) := GE.region_step (id := 9) (GE.reg_of (by kernel_rfl)) (by kernel_rfl)
theorem n22_36s : codeB Try.prog E ⟨f, 49, b, ro⟩ n22_36 st = plainS (runOps Try.prog E b q22_36 (ops [true, true, true, true, false, true, false, false, true, true, false, false, true, true, false, false, false] Try.f22) st) := GE.region_step (id := 10) (GE.reg_of (by kernel_rfl)) (by kernel_rfl)
theorem n22_39s : codeB Try.prog E cx n22_39 st = some (.normal, st) := GE.skip_step (by kernel_rfl)
theorem n22_40s : codeB Try.prog LL ⟨22, 49, b, ro⟩ n22_40 st = normS b ⟨[1, 6, 7, 19, 20], [⟨1, 3, 1, true⟩, ⟨6, 0, 4, true⟩, ⟨7, 0, 1, true⟩]⟩ (.exit 2) st := GE.exit_step (by kernel_rfl) (by kernel_rfl)
theorem n22_38s : codeB Try.prog E cx n22_38 st = condS (codeB Try.prog E cx n22_39) (codeB Try.prog E cx n22_40) (lk st.σ 27) st := GE.cond_step (c := .tmp 27) (by kernel_rfl)
theorem n22_44s : codeB Try.prog E ⟨f, 49, b, ro⟩ n22_44 st = plainS (runOps Try.prog E b q22_44 (ops [true, true, true, true, false, true, false, false, true, true, false, false, true, true, false, false, true, true, false, false, false] Try.f22) st) := GE.region_step (id := 11) (GE.reg_of (by kernel_rfl)) (by kernel_rfl)
theorem n22_46s : codeB Try.prog E ⟨f, 49, b, ro⟩ n22_46 st = plainS (runOps Try.prog E b q22_46 (ops [true, true, true, true, false, true, false, false, true, true, false, false, true, true, false, false, true, true, false, false, true, false] Try.f22) st) := GE.region_step (id := 12) (GE.reg_of (by kernel_rfl)) (by kernel_rfl)
theorem n22_48s : codeB Try.prog E ⟨f, 49, b, ro⟩ n22_48 st = plainS (runOps Try.prog E b q22_48 (ops [true, true, true, true, false, true, false, false, true, true, false, false, true, true, false, false, true, true, false, false, true, true, false] Try.f22) st) := GE.region_step (id := 13) (GE.reg_of (by kernel_rfl)) (by kernel_rfl)
theorem n22_50s : codeB Try.prog E ⟨f, 49, b, ro⟩ n22_50 st = plainS (runOps Try.prog E b q22_50 (ops [true, true, true, true, false, true, false, false, true, true, false, false, true, true, false, false, true, true, false, false, true, true, true, false] Try.f22) st) := GE.region_step (id := 14) (GE.reg_of (by kernel_rfl)) (by kernel_rfl)
theorem n22_52s : codeB Try.prog E ⟨f, 49, b, ro⟩ n22_52 st = plainS (runOps Try.prog E b q22_52 (ops [true, true, true, true, false, true, false, false, true, true, false, false, true, true, false, false, true, true, false, false, true, true, true, true, false] Try.f22) st) := GE.region_step (id := 15) (GE.reg_of (by kernel_rfl)) (by kernel_rfl)
theorem n22_53s : codeB Try.prog E cx n22_53 st = some (.normal, st) := GE.skip_step (by kernel_rfl)
theorem n22_51s : codeB Try.prog E cx n22_51 st = condS (codeB Try.prog E cx n22_52) (codeB Try.prog E cx n22_53) (lk st.σ 36) st := GE.cond_step (c := .tmp 36) (by kernel_rfl)
theorem n22_49s : codeB Try.prog E cx n22_49 st = thenS (codeB Try.prog E cx n22_50 st) (codeB Try.prog E cx n22_51) := GE.seq_step (by kernel_rfl)
theorem n22_47s : codeB Try.prog E cx n22_47 st = thenS (codeB Try.prog E cx n22_48 st) (codeB Try.prog E cx n22_49) := GE.seq_step (by kernel_rfl)
theorem n22_45s : codeB Try.prog E cx n22_45 st = thenS (codeB Try.prog E cx n22_46 st) (codeB Try.prog E cx n22_47) := GE.seq_step (by kernel_rfl)
theorem n22_43s : codeB Try.prog E cx n22_43 st = thenS (codeB Try.prog E cx n22_44 st) (codeB Try.prog E cx n22_45) := GE.seq_step (by kernel_rfl)
theorem n22_42s : codeB Try.prog E cx n22_42 st = blockS 3 (codeB Try.prog E cx n22_43 st) st := GE.block_step (by kernel_rfl)
theorem n22_54s : codeB Try.prog E ⟨f, 49, b, ro⟩ n22_54 st = plainS (runOps Try.prog E b q22_54 (ops [true, true, true, true, false, true, false, false, true, true, false, false, true, true, false, false, true, true, true] Try.f22) st) := GE.region_step (id := 16) (GE.reg_of (by kernel_rfl)) (by kernel_rfl)
theorem n22_41s : codeB Try.prog E cx n22_41 st = thenS (codeB Try.prog E cx n22_42 st) (codeB Try.prog E cx n22_54) := GE.seq_step (by kernel_rfl)
theorem n22_37s : codeB Try.prog E cx n22_37 st = thenS (codeB Try.prog E cx n22_38 st) (codeB Try.prog E cx n22_41) := GE.seq_step (by kernel_rfl)
theorem n22_35s : codeB Try.prog E cx n22_35 st = thenS (codeB Try.prog E cx n22_36 st) (codeB Try.prog E cx n22_37) := GE.seq_step (by kernel_rfl)
theorem n22_34k : LL.kp (⟨22, 49, b, ro⟩ : Cx).fn (4 * rid n22_35 + 3) = some ⟨[8, 25, 26, 1, 6, 7, 19, 20], [⟨1, 3, 1, true⟩, ⟨6, 0, 4, true⟩, ⟨7, 0, 1, true⟩]⟩ := by kernel_rfl
theorem n22_34s : codeB Try.prog LL ⟨22, 49, b, ro⟩ n22_34 st = headS b ⟨[8, 25, 26, 1, 6, 7, 19, 20], [⟨1, 3, 1, true⟩, ⟨6, 0, 4, true⟩, ⟨7, 0, 1, true⟩]⟩ st (lpB Try.prog LL ⟨22, 49, b, ro⟩ n22_34 n22_35) := GE.lpB_step (by kernel_rfl) (n22_34k b ro)
theorem n22_34g : LL.code ⟨22, 49, b, ro⟩ n22_34 st = headS b ⟨[8, 25, 26, 1, 6, 7, 19, 20], [⟨1, 3, 1, true⟩, ⟨6, 0, 4, true⟩, ⟨7, 0, 1, true⟩]⟩ st (lpB Try.prog LL ⟨22, 49, b, ro⟩ n22_34 n22_35) := GE.lpB_again (by kernel_rfl) (n22_34k b ro)
theorem n22_33s : codeB Try.prog E cx n22_33 st = blockS 2 (codeB Try.prog E cx n22_34 st) st := GE.block_step (by kernel_rfl)
theorem n22_31s : codeB Try.prog E cx n22_31 st = thenS (codeB Try.prog E cx n22_32 st) (codeB Try.prog E cx n22_33) := GE.seq_step (by kernel_rfl)
theorem n22_29s : codeB Try.prog E cx n22_29 st = thenS (codeB Try.prog E cx n22_30 st) (codeB Try.prog E cx n22_31) := GE.seq_step (by kernel_rfl)
theorem n22_28s : codeB Try.prog E cx n22_28 st = blockS 1 (codeB Try.prog E cx n22_29 st) st := GE.block_step (by kernel_rfl)
theorem n22_55s : codeB Try.prog E ⟨f, 49, b, ro⟩ n22_55 st = plainS (runOps Try.prog E b q22_55 (ops [true, true, true, true, false, true, false, false, true, true, true] Try.f22) st) := GE.region_step (id := 17) (GE.reg_of (by kernel_rfl)) (by kernel_rfl)
theorem n22_27s : codeB Try.prog E cx n22_27 st = thenS (codeB Try.prog E cx n22_28 st) (codeB Try.prog E cx n22_55) := GE.seq_step (by kernel_rfl)
theorem n22_23s : codeB Try.prog E cx n22_23 st = thenS (codeB Try.prog E cx n22_24 st) (codeB Try.prog E cx n22_27) := GE.seq_step (by kernel_rfl)
theorem n22_21s : codeB Try.prog E cx n22_21 st = thenS (codeB Try.prog E cx n22_22 st) (codeB Try.prog E cx n22_23) := GE.seq_step (by kernel_rfl)
theorem n22_20k : LL.kp (⟨22, 49, b, ro⟩ : Cx).fn (4 * rid n22_21 + 3) = some ⟨[1, 6, 7, 19, 20], [⟨1, 3, 1, true⟩, ⟨6, 0, 4, true⟩, ⟨7, 0, 1, true⟩]⟩ := by kernel_rfl
theorem n22_20s : codeB Try.prog LL ⟨22, 49, b, ro⟩ n22_20 st = headS b ⟨[1, 6, 7, 19, 20], [⟨1, 3, 1, true⟩, ⟨6, 0, 4, true⟩, ⟨7, 0, 1, true⟩]⟩ st (lpB Try.prog LL ⟨22, 49, b, ro⟩ n22_20 n22_21) := GE.lpB_step (by kernel_rfl) (n22_20k b ro)
theorem n22_20g : LL.code ⟨22, 49, b, ro⟩ n22_20 st = headS b ⟨[1, 6, 7, 19, 20], [⟨1, 3, 1, true⟩, ⟨6, 0, 4, true⟩, ⟨7, 0, 1, true⟩]⟩ st (lpB Try.prog LL ⟨22, 49, b, ro⟩ n22_20 n22_21) := GE.lpB_again (by kernel_rfl) (n22_20k b ro)
theorem n22_19s : codeB Try.prog E cx n22_19 st = blockS 0 (codeB Try.prog E cx n22_20 st) st := GE.block_step (by kernel_rfl)
theorem n22_17s : codeB Try.prog E cx n22_17 st = thenS (codeB Try.prog E cx n22_18 st) (codeB Try.prog E cx n22_19) := GE.seq_step (by kernel_rfl)
theorem n22_57s : codeB Try.prog E ⟨f, 49, b, ro⟩ n22_57 st = plainS (runOps Try.prog E b q22_57 (ops [true, true, true, true, true, false] Try.f22) st) := GE.region_step (id := 18) (GE.reg_of (by kernel_rfl)) (by kernel_rfl)
theorem n22_58s : codeB Try.prog LL ⟨22, 49, b, ro⟩ n22_58 st = normS b ⟨[2, 3, 4], [⟨2, 0, 4, true⟩, ⟨3, 0, 1, true⟩]⟩ .ret st := GE.ret_step (by kernel_rfl) (by kernel_rfl)
theorem n22_56s : codeB Try.prog E cx n22_56 st = thenS (codeB Try.prog E cx n22_57 st) (codeB Try.prog E cx n22_58) := GE.seq_step (by kernel_rfl)
theorem n22_16s : codeB Try.prog E cx n22_16 st = thenS (codeB Try.prog E cx n22_17 st) (codeB Try.prog E cx n22_56) := GE.seq_step (by kernel_rfl)
theorem n22_14s : codeB Try.prog E cx n22_14 st = thenS (codeB Try.prog E cx n22_15 st) (codeB Try.prog E cx n22_16) := GE.seq_step (by kernel_rfl)
theorem n22_12s : codeB Try.prog E cx n22_12 st = thenS (codeB Try.prog E cx n22_13 st) (codeB Try.prog E cx n22_14) := GE.seq_step (by kernel_rfl)
theorem n22_2s : codeB Try.prog E cx n22_2 st = thenS (codeB Try.prog E cx n22_3 st) (codeB Try.prog E cx n22_12) := GE.seq_step (by kernel_rfl)
theorem n22_0s : codeB Try.prog E cx n22_0 st = thenS (codeB Try.prog E cx n22_1 st) (codeB Try.prog E cx n22_2) := GE.seq_step (by kernel_rfl)
noncomputable def n31_0 : Code := bodyOf Try.f31
noncomputable def n31_1 : Code := cl n31_0
noncomputable def q31_1 : List Oper := opsOf n31_1
noncomputable def n31_2 : Code := cr n31_0
noncomputable def n31_3 : Code := cl n31_2
noncomputable def q31_3 : List Oper := opsOf n31_3
noncomputable def n31_4 : Code := cr n31_2
noncomputable def n31_5 : Code := cl n31_4
noncomputable def n31_6 : Code := cl n31_5
noncomputable def q31_6 : List Oper := opsOf n31_6
noncomputable def n31_7 : Code := cr n31_5
noncomputable def n31_8 : Code := cl n31_7
noncomputable def n31_9 : Code := cl n31_8
noncomputable def n31_10 : Code := cl n31_9
noncomputable def n31_11 : Code := cl n31_10
noncomputable def q31_11 : List Oper := opsOf n31_11
noncomputable def n31_12 : Code := cr n31_10
noncomputable def n31_13 : Code := cl n31_12
noncomputable def n31_14 : Code := cr n31_12
noncomputable def n31_15 : Code := cr n31_9
noncomputable def n31_16 : Code := cl n31_15
noncomputable def n31_17 : Code := cl n31_16
noncomputable def n31_18 : Code := cl n31_17
noncomputable def q31_18 : List Oper := opsOf n31_18
noncomputable def n31_19 : Code := cr n31_17
noncomputable def n31_20 : Code := cl n31_19
noncomputable def n31_21 : Code := cl n31_20
noncomputable def q31_21 : List Oper := opsOf n31_21
noncomputable def n31_22 : Code := cr n31_20
noncomputable def n31_23 : Code := cl n31_22
noncomputable def q31_23 : List Oper := opsOf n31_23
noncomputable def n31_24 : Code := cr n31_22
noncomputable def n31_25 : Code := cr n31_19
noncomputable def q31_25 : List Oper := opsOf n31_25
noncomputable def n31_26 : Code := cr n31_15
noncomputable def q31_26 : List Oper := opsOf n31_26
noncomputable def n31_27 : Code := cr n31_4
noncomputable def n31_28 : Code := cl n31_27
noncomputable def q31_28 : List Oper := opsOf n31_28
noncomputable def n31_29 : Code := cr n31_27
theorem body31 : Try.f31.body = some n31_0 := by kernel_rfl
theorem run31 (E : Ev) (args : List Value) (h : List Blk) (hl : args.length ≤ 59) : runB Try.prog E 31 args h = endS Try.prog [.cell 2 24] h.length (codeB Try.prog E ⟨31, 59, h.length, none⟩ n31_0 ⟨enumT 0 args, h, []⟩) := GE.run_step Try.func31 body31 (by kernel_rfl) (by decide) (by kernel_rfl) hl
theorem n31_1s : codeB Try.prog E ⟨f, 59, b, ro⟩ n31_1 st = plainS (runOps Try.prog E b q31_1 (ops [false] Try.f31) st) := GE.region_step (id := 0) (GE.reg_of (by kernel_rfl)) (by kernel_rfl)
theorem n31_3s : codeB Try.prog E ⟨f, 59, b, ro⟩ n31_3 st = plainS (runOps Try.prog E b q31_3 (ops [true, false] Try.f31) st) := GE.region_step (id := 1) (GE.reg_of (by kernel_rfl)) (by kernel_rfl)
theorem n31_6s : codeB Try.prog E ⟨f, 59, b, ro⟩ n31_6 st = plainS (runOps Try.prog E b q31_6 (ops [true, true, false, false] Try.f31) st) := GE.region_step (id := 2) (GE.reg_of (by kernel_rfl)) (by kernel_rfl)
theorem n31_11s : codeB Try.prog E ⟨f, 59, b, ro⟩ n31_11 st = plainS (runOps Try.prog E b q31_11 (ops [true, true, false, true, false, false, false, false] Try.f31) st) := GE.region_step (id := 3) (GE.reg_of (by kernel_rfl)) (by kernel_rfl)
theorem n31_13s : codeB Try.prog E cx n31_13 st = some (.normal, st) := GE.skip_step (by kernel_rfl)
theorem n31_14s : codeB Try.prog LL ⟨31, 59, b, ro⟩ n31_14 st = normS b ⟨[2, 3], [⟨2, 3, 1, true⟩, ⟨3, 3, 1, true⟩]⟩ (.exit 0) st := GE.exit_step (by kernel_rfl) (by kernel_rfl)
theorem n31_12s : codeB Try.prog E cx n31_12 st = condS (codeB Try.prog E cx n31_13) (codeB Try.prog E cx n31_14) (lk st.σ 27) st := GE.cond_step (c := .tmp 27) (by kernel_rfl)
theorem n31_10s : codeB Try.prog E cx n31_10 st = thenS (codeB Try.prog E cx n31_11 st) (codeB Try.prog E cx n31_12) := GE.seq_step (by kernel_rfl)
theorem n31_18s : codeB Try.prog E ⟨f, 59, b, ro⟩ n31_18 st = plainS (runOps Try.prog E b q31_18 (ops [true, true, false, true, false, false, true, false, false, false] Try.f31) st) := GE.region_step (id := 5) (GE.reg_of (by kernel_rfl)) (by kernel_rfl)
theorem n31_21s : codeB Try.prog E ⟨f, 59, b, ro⟩ n31_21 st = plainS (runOps Try.prog E b q31_21 (ops [true, true, false, true, false, false, true, false, false, true, false, false] Try.f31) st) := GE.region_step (id := 6) (GE.reg_of (by kernel_rfl)) (by kernel_rfl)
theorem n31_23s : codeB Try.prog E ⟨f, 59, b, ro⟩ n31_23 st = drawS [0, 1, 0, 7, 15, 31, 63, 127, 0, 256, 0, 1792, 3840, 7936, 16128, 32512, 65535, 131071] (runOpsF Try.prog E b q31_23 (ops [true, true, false, true, false, false, true, false, false, true, false, true, false] Try.f31) st) := GE.draw_step (id := 7) (GE.reg_of (by kernel_rfl)) (by kernel_rfl) (by kernel_rfl) (by kernel_rfl)
theorem n31_24s : codeB Try.prog E cx n31_24 st = some (.normal, st) := GE.skip_step (by kernel_rfl)
theorem n31_22s : codeB Try.prog E cx n31_22 st = condS (codeB Try.prog E cx n31_23) (codeB Try.prog E cx n31_24) (lk st.σ 34) st := GE.cond_step (c := .tmp 34) (by kernel_rfl)
theorem n31_20s : codeB Try.prog E cx n31_20 st = thenS (codeB Try.prog E cx n31_21 st) (codeB Try.prog E cx n31_22) := GE.seq_step (by kernel_rfl)
theorem n31_25s : codeB Try.prog E ⟨f, 59, b, ro⟩ n31_25 st = plainS (runOps Try.prog E b q31_25 (ops [true, true, false, true, false, false, true, false, false, true, true] Try.f31) st) := GE.region_step (id := 8) (GE.reg_of (by kernel_rfl)) (by kernel_rfl)
theorem n31_19s : codeB Try.prog E cx n31_19 st = thenS (codeB Try.prog E cx n31_20 st) (codeB Try.prog E cx n31_25) := GE.seq_step (by kernel_rfl)
theorem n31_17s : codeB Try.prog E cx n31_17 st = thenS (codeB Try.prog E cx n31_18 st) (codeB Try.prog E cx n31_19) := GE.seq_step (by kernel_rfl)
theorem n31_16s : codeB Try.prog E cx n31_16 st = blockS 1 (codeB Try.prog E cx n31_17 st) st := GE.block_step (by kernel_rfl)
theorem n31_26s : codeB Try.prog E ⟨f, 59, b, ro⟩ n31_26 st = plainS (runOps Try.prog E b q31_26 (ops [true, true, false, true, false, false, true, true] Try.f31) st) := GE.region_step (id := 4) (GE.reg_of (by kernel_rfl)) (by kernel_rfl)
theorem n31_15s : codeB Try.prog E cx n31_15 st = thenS (codeB Try.prog E cx n31_16 st) (codeB Try.prog E cx n31_26) := GE.seq_step (by kernel_rfl)
theorem n31_9s : codeB Try.prog E cx n31_9 st = thenS (codeB Try.prog E cx n31_10 st) (codeB Try.prog E cx n31_15) := GE.seq_step (by kernel_rfl)
theorem n31_8k : LL.kp (⟨31, 59, b, ro⟩ : Cx).fn (4 * rid n31_9 + 3) = some ⟨[1, 2, 3, 4], [⟨1, 3, 1, true⟩, ⟨2, 3, 1, true⟩, ⟨3, 3, 1, true⟩]⟩ := by kernel_rfl
theorem n31_8s : codeB Try.prog LL ⟨31, 59, b, ro⟩ n31_8 st = headS b ⟨[1, 2, 3, 4], [⟨1, 3, 1, true⟩, ⟨2, 3, 1, true⟩, ⟨3, 3, 1, true⟩]⟩ st (lpB Try.prog LL ⟨31, 59, b, ro⟩ n31_8 n31_9) := GE.lpB_step (by kernel_rfl) (n31_8k b ro)
theorem n31_8g : LL.code ⟨31, 59, b, ro⟩ n31_8 st = headS b ⟨[1, 2, 3, 4], [⟨1, 3, 1, true⟩, ⟨2, 3, 1, true⟩, ⟨3, 3, 1, true⟩]⟩ st (lpB Try.prog LL ⟨31, 59, b, ro⟩ n31_8 n31_9) := GE.lpB_again (by kernel_rfl) (n31_8k b ro)
theorem n31_7s : codeB Try.prog E cx n31_7 st = blockS 0 (codeB Try.prog E cx n31_8 st) st := GE.block_step (by kernel_rfl)
theorem n31_5s : codeB Try.prog E cx n31_5 st = thenS (codeB Try.prog E cx n31_6 st) (codeB Try.prog E cx n31_7) := GE.seq_step (by kernel_rfl)
theorem n31_28s : codeB Try.prog E ⟨f, 59, b, ro⟩ n31_28 st = plainS (runOps Try.prog E b q31_28 (ops [true, true, true, false] Try.f31) st) := GE.region_step (id := 9) (GE.reg_of (by kernel_rfl)) (by kernel_rfl)
theorem n31_29s : codeB Try.prog LL ⟨31, 59, b, ro⟩ n31_29 st = normS b ⟨[2], [⟨2, 3, 1, true⟩]⟩ .ret st := GE.ret_step (by kernel_rfl) (by kernel_rfl)
theorem n31_27s : codeB Try.prog E cx n31_27 st = thenS (codeB Try.prog E cx n31_28 st) (codeB Try.prog E cx n31_29) := GE.seq_step (by kernel_rfl)
theorem n31_4s : codeB Try.prog E cx n31_4 st = thenS (codeB Try.prog E cx n31_5 st) (codeB Try.prog E cx n31_27) := GE.seq_step (by kernel_rfl)
theorem n31_2s : codeB Try.prog E cx n31_2 st = thenS (codeB Try.prog E cx n31_3 st) (codeB Try.prog E cx n31_4) := GE.seq_step (by kernel_rfl)
theorem n31_0s : codeB Try.prog E cx n31_0 st = thenS (codeB Try.prog E cx n31_1 st) (codeB Try.prog E cx n31_2) := GE.seq_step (by kernel_rfl)
noncomputable def n32_0 : Code := bodyOf Try.f32
noncomputable def n32_1 : Code := cl n32_0
noncomputable def q32_1 : List Oper := opsOf n32_1
noncomputable def n32_2 : Code := cr n32_0
noncomputable def n32_3 : Code := cl n32_2
noncomputable def q32_3 : List Oper := opsOf n32_3
noncomputable def n32_4 : Code := cr n32_2
noncomputable def n32_5 : Code := cl n32_4
noncomputable def q32_5 : List Oper := opsOf n32_5
noncomputable def n32_6 : Code := cr n32_4
theorem body32 : Try.f32.body = some n32_0 := by kernel_rfl
theorem run32 (E : Ev) (args : List Value) (h : List Blk) (hl : args.length ≤ 44) : runB Try.prog E 32 args h = endS Try.prog [.cell 4 35] h.length (codeB Try.prog E ⟨32, 44, h.length, none⟩ n32_0 ⟨enumT 0 args, h, []⟩) := GE.run_step Try.func32 body32 (by kernel_rfl) (by decide) (by kernel_rfl) hl
theorem n32_1s : codeB Try.prog E ⟨f, 44, b, ro⟩ n32_1 st = plainS (runOps Try.prog E b q32_1 (ops [false] Try.f32) st) := GE.region_step (id := 0) (GE.reg_of (by kernel_rfl)) (by kernel_rfl)
theorem n32_3s : codeB Try.prog E ⟨f, 44, b, ro⟩ n32_3 st = drawS [0, 1, 3, 0, 8, 24, 63, 0, 128, 384, 0, 1024, 3072, 8064, 127, 32767] (runOpsF Try.prog E b q32_3 (ops [true, false] Try.f32) st) := GE.draw_step (id := 1) (GE.reg_of (by kernel_rfl)) (by kernel_rfl) (by kernel_rfl) (by kernel_rfl)
theorem n32_5s : codeB Try.prog E ⟨f, 44, b, ro⟩ n32_5 st = drawS [0, 0, 0, 4, 12, 0, 32, 96, 0, 480, 1020, 2044, 0, 4096, 12288, 0, 32768, 98304, 0, 491520, 1044480, 2093056, 4194303, 8388607] (runOpsF Try.prog E b q32_5 (ops [true, true, false] Try.f32) st) := GE.draw_step (id := 2) (GE.reg_of (by kernel_rfl)) (by kernel_rfl) (by kernel_rfl) (by kernel_rfl)
theorem n32_6s : codeB Try.prog LL ⟨32, 44, b, ro⟩ n32_6 st = normS b ⟨[4], []⟩ .ret st := GE.ret_step (by kernel_rfl) (by kernel_rfl)
theorem n32_4s : codeB Try.prog E cx n32_4 st = thenS (codeB Try.prog E cx n32_5 st) (codeB Try.prog E cx n32_6) := GE.seq_step (by kernel_rfl)
theorem n32_2s : codeB Try.prog E cx n32_2 st = thenS (codeB Try.prog E cx n32_3 st) (codeB Try.prog E cx n32_4) := GE.seq_step (by kernel_rfl)
theorem n32_0s : codeB Try.prog E cx n32_0 st = thenS (codeB Try.prog E cx n32_1 st) (codeB Try.prog E cx n32_2) := GE.seq_step (by kernel_rfl)
noncomputable def n34_0 : Code := bodyOf Try.f34
noncomputable def n34_1 : Code := cl n34_0
noncomputable def q34_1 : List Oper := opsOf n34_1
noncomputable def n34_2 : Code := cr n34_0
noncomputable def n34_3 : Code := cl n34_2
noncomputable def q34_3 : List Oper := opsOf n34_3
noncomputable def n34_4 : Code := cr n34_2
theorem body34 : Try.f34.body = some n34_0 := by kernel_rfl
theorem run34 (E : Ev) (args : List Value) (h : List Blk) (hl : args.length ≤ 14) : runB Try.prog E 34 args h = endS Try.prog [.cell 8 35] h.length (codeB Try.prog E ⟨34, 14, h.length, none⟩ n34_0 ⟨enumT 0 args, h, []⟩) := GE.run_step Try.func34 body34 (by kernel_rfl) (by decide) (by kernel_rfl) hl
theorem n34_1s : codeB Try.prog E ⟨f, 14, b, ro⟩ n34_1 st = plainS (runOps Try.prog E b q34_1 (ops [false] Try.f34) st) := GE.region_step (id := 0) (GE.reg_of (by kernel_rfl)) (by kernel_rfl)
theorem n34_3s : codeB Try.prog E ⟨f, 14, b, ro⟩ n34_3 st = plainS (runOps Try.prog E b q34_3 (ops [true, false] Try.f34) st) := GE.region_step (id := 1) (GE.reg_of (by kernel_rfl)) (by kernel_rfl)
theorem n34_4s : codeB Try.prog LL ⟨34, 14, b, ro⟩ n34_4 st = normS b ⟨[8], []⟩ .ret st := GE.ret_step (by kernel_rfl) (by kernel_rfl)
theorem n34_2s : codeB Try.prog E cx n34_2 st = thenS (codeB Try.prog E cx n34_3 st) (codeB Try.prog E cx n34_4) := GE.seq_step (by kernel_rfl)
theorem n34_0s : codeB Try.prog E cx n34_0 st = thenS (codeB Try.prog E cx n34_1 st) (codeB Try.prog E cx n34_2) := GE.seq_step (by kernel_rfl)
noncomputable def n36_0 : Code := bodyOf Try.f36
noncomputable def n36_1 : Code := cl n36_0
noncomputable def q36_1 : List Oper := opsOf n36_1
noncomputable def n36_2 : Code := cr n36_0
noncomputable def n36_3 : Code := cl n36_2
noncomputable def q36_3 : List Oper := opsOf n36_3
noncomputable def n36_4 : Code := cr n36_2
theorem body36 : Try.f36.body = some n36_0 := by kernel_rfl
theorem run36 (E : Ev) (args : List Value) (h : List Blk) (hl : args.length ≤ 15) : runB Try.prog E 36 args h = endS Try.prog [.tmp 6] h.length (codeB Try.prog E ⟨36, 15, h.length, none⟩ n36_0 ⟨enumT 0 args, h, []⟩) := GE.run_step Try.func36 body36 (by kernel_rfl) (by decide) (by kernel_rfl) hl
theorem n36_1s : codeB Try.prog E ⟨f, 15, b, ro⟩ n36_1 st = plainS (runOps Try.prog E b q36_1 (ops [false] Try.f36) st) := GE.region_step (id := 0) (GE.reg_of (by kernel_rfl)) (by kernel_rfl)
theorem q36_3g3 : gd q36_3 3 = some 10 := by kernel_rfl
theorem n36_3s : codeB Try.prog E ⟨f, 15, b, ro⟩ n36_3 st = plainS (runOps Try.prog E b q36_3 (ops [true, false] Try.f36) st) := GE.region_step (id := 1) (GE.reg_of (by kernel_rfl)) (by kernel_rfl)
theorem n36_4s : codeB Try.prog LL ⟨36, 15, b, ro⟩ n36_4 st = normS b ⟨[6], []⟩ .ret st := GE.ret_step (by kernel_rfl) (by kernel_rfl)
theorem n36_2s : codeB Try.prog E cx n36_2 st = thenS (codeB Try.prog E cx n36_3 st) (codeB Try.prog E cx n36_4) := GE.seq_step (by kernel_rfl)
theorem n36_0s : codeB Try.prog E cx n36_0 st = thenS (codeB Try.prog E cx n36_1 st) (codeB Try.prog E cx n36_2) := GE.seq_step (by kernel_rfl)
noncomputable def n37_0 : Code := bodyOf Try.f37
noncomputable def n37_1 : Code := cl n37_0
noncomputable def q37_1 : List Oper := opsOf n37_1
noncomputable def n37_2 : Code := cr n37_0
noncomputable def n37_3 : Code := cl n37_2
noncomputable def q37_3 : List Oper := opsOf n37_3
noncomputable def n37_4 : Code := cr n37_2
theorem body37 : Try.f37.body = some n37_0 := by kernel_rfl
theorem run37 (E : Ev) (args : List Value) (h : List Blk) (hl : args.length ≤ 12) : runB Try.prog E 37 args h = endS Try.prog [.tmp 4] h.length (codeB Try.prog E ⟨37, 12, h.length, none⟩ n37_0 ⟨enumT 0 args, h, []⟩) := GE.run_step Try.func37 body37 (by kernel_rfl) (by decide) (by kernel_rfl) hl
theorem n37_1s : codeB Try.prog E ⟨f, 12, b, ro⟩ n37_1 st = plainS (runOps Try.prog E b q37_1 (ops [false] Try.f37) st) := GE.region_step (id := 0) (GE.reg_of (by kernel_rfl)) (by kernel_rfl)
theorem n37_3s : codeB Try.prog E ⟨f, 12, b, ro⟩ n37_3 st = plainS (runOps Try.prog E b q37_3 (ops [true, false] Try.f37) st) := GE.region_step (id := 1) (GE.reg_of (by kernel_rfl)) (by kernel_rfl)
theorem n37_4s : codeB Try.prog LL ⟨37, 12, b, ro⟩ n37_4 st = normS b ⟨[4], []⟩ .ret st := GE.ret_step (by kernel_rfl) (by kernel_rfl)
theorem n37_2s : codeB Try.prog E cx n37_2 st = thenS (codeB Try.prog E cx n37_3 st) (codeB Try.prog E cx n37_4) := GE.seq_step (by kernel_rfl)
theorem n37_0s : codeB Try.prog E cx n37_0 st = thenS (codeB Try.prog E cx n37_1 st) (codeB Try.prog E cx n37_2) := GE.seq_step (by kernel_rfl)
noncomputable def n40_0 : Code := bodyOf Try.f40
noncomputable def n40_1 : Code := cl n40_0
noncomputable def q40_1 : List Oper := opsOf n40_1
noncomputable def n40_2 : Code := cr n40_0
noncomputable def n40_3 : Code := cl n40_2
noncomputable def q40_3 : List Oper := opsOf n40_3
noncomputable def n40_4 : Code := cr n40_2
theorem body40 : Try.f40.body = some n40_0 := by kernel_rfl
theorem run40 (E : Ev) (args : List Value) (h : List Blk) (hl : args.length ≤ 14) : runB Try.prog E 40 args h = endS Try.prog [.tmp 4] h.length (codeB Try.prog E ⟨40, 14, h.length, none⟩ n40_0 ⟨enumT 0 args, h, []⟩) := GE.run_step Try.func40 body40 (by kernel_rfl) (by decide) (by kernel_rfl) hl
theorem n40_1s : codeB Try.prog E ⟨f, 14, b, ro⟩ n40_1 st = plainS (runOps Try.prog E b q40_1 (ops [false] Try.f40) st) := GE.region_step (id := 0) (GE.reg_of (by kernel_rfl)) (by kernel_rfl)
theorem n40_3s : codeB Try.prog E ⟨f, 14, b, ro⟩ n40_3 st = plainS (runOps Try.prog E b q40_3 (ops [true, false] Try.f40) st) := GE.region_step (id := 1) (GE.reg_of (by kernel_rfl)) (by kernel_rfl)
theorem n40_4s : codeB Try.prog LL ⟨40, 14, b, ro⟩ n40_4 st = normS b ⟨[4], []⟩ .ret st := GE.ret_step (by kernel_rfl) (by kernel_rfl)
theorem n40_2s : codeB Try.prog E cx n40_2 st = thenS (codeB Try.prog E cx n40_3 st) (codeB Try.prog E cx n40_4) := GE.seq_step (by kernel_rfl)
theorem n40_0s : codeB Try.prog E cx n40_0 st = thenS (codeB Try.prog E cx n40_1 st) (codeB Try.prog E cx n40_2) := GE.seq_step (by kernel_rfl)
noncomputable def n41_0 : Code := bodyOf Try.f41
noncomputable def n41_1 : Code := cl n41_0
noncomputable def q41_1 : List Oper := opsOf n41_1
noncomputable def n41_2 : Code := cr n41_0
noncomputable def n41_3 : Code := cl n41_2
noncomputable def q41_3 : List Oper := opsOf n41_3
noncomputable def n41_4 : Code := cr n41_2
theorem body41 : Try.f41.body = some n41_0 := by kernel_rfl
theorem run41 (E : Ev) (args : List Value) (h : List Blk) (hl : args.length ≤ 17) : runB Try.prog E 41 args h = endS Try.prog [.tmp 6] h.length (codeB Try.prog E ⟨41, 17, h.length, none⟩ n41_0 ⟨enumT 0 args, h, []⟩) := GE.run_step Try.func41 body41 (by kernel_rfl) (by decide) (by kernel_rfl) hl
theorem n41_1s : codeB Try.prog E ⟨f, 17, b, ro⟩ n41_1 st = plainS (runOps Try.prog E b q41_1 (ops [false] Try.f41) st) := GE.region_step (id := 0) (GE.reg_of (by kernel_rfl)) (by kernel_rfl)
theorem n41_3s : codeB Try.prog E ⟨f, 17, b, ro⟩ n41_3 st = plainS (runOps Try.prog E b q41_3 (ops [true, false] Try.f41) st) := GE.region_step (id := 1) (GE.reg_of (by kernel_rfl)) (by kernel_rfl)
theorem n41_4s : codeB Try.prog LL ⟨41, 17, b, ro⟩ n41_4 st = normS b ⟨[6], []⟩ .ret st := GE.ret_step (by kernel_rfl) (by kernel_rfl)
theorem n41_2s : codeB Try.prog E cx n41_2 st = thenS (codeB Try.prog E cx n41_3 st) (codeB Try.prog E cx n41_4) := GE.seq_step (by kernel_rfl)
theorem n41_0s : codeB Try.prog E cx n41_0 st = thenS (codeB Try.prog E cx n41_1 st) (codeB Try.prog E cx n41_2) := GE.seq_step (by kernel_rfl)
noncomputable def n43_0 : Code := bodyOf Try.f43
noncomputable def n43_1 : Code := cl n43_0
noncomputable def q43_1 : List Oper := opsOf n43_1
noncomputable def n43_2 : Code := cr n43_0
noncomputable def n43_3 : Code := cl n43_2
noncomputable def q43_3 : List Oper := opsOf n43_3
noncomputable def n43_4 : Code := cr n43_2
theorem body43 : Try.f43.body = some n43_0 := by kernel_rfl
theorem run43 (E : Ev) (args : List Value) (h : List Blk) (hl : args.length ≤ 41) : runB Try.prog E 43 args h = endS Try.prog [.tmp 4] h.length (codeB Try.prog E ⟨43, 41, h.length, none⟩ n43_0 ⟨enumT 0 args, h, []⟩) := GE.run_step Try.func43 body43 (by kernel_rfl) (by decide) (by kernel_rfl) hl
theorem n43_1s : codeB Try.prog E ⟨f, 41, b, ro⟩ n43_1 st = plainS (runOps Try.prog E b q43_1 (ops [false] Try.f43) st) := GE.region_step (id := 0) (GE.reg_of (by kernel_rfl)) (by kernel_rfl)
theorem q43_3g6 : gd q43_3 6 = some 11 := by kernel_rfl
theorem q43_3g14 : gd q43_3 14 = some 19 := by kernel_rfl
theorem q43_3g25 : gd q43_3 25 = some 30 := by kernel_rfl
theorem n43_3s : codeB Try.prog E ⟨f, 41, b, ro⟩ n43_3 st = plainS (runOps Try.prog E b q43_3 (ops [true, false] Try.f43) st) := GE.region_step (id := 1) (GE.reg_of (by kernel_rfl)) (by kernel_rfl)
theorem n43_4s : codeB Try.prog LL ⟨43, 41, b, ro⟩ n43_4 st = normS b ⟨[4], []⟩ .ret st := GE.ret_step (by kernel_rfl) (by kernel_rfl)
theorem n43_2s : codeB Try.prog E cx n43_2 st = thenS (codeB Try.prog E cx n43_3 st) (codeB Try.prog E cx n43_4) := GE.seq_step (by kernel_rfl)
theorem n43_0s : codeB Try.prog E cx n43_0 st = thenS (codeB Try.prog E cx n43_1 st) (codeB Try.prog E cx n43_2) := GE.seq_step (by kernel_rfl)
noncomputable def n44_0 : Code := bodyOf Try.f44
noncomputable def n44_1 : Code := cl n44_0
noncomputable def q44_1 : List Oper := opsOf n44_1
noncomputable def n44_2 : Code := cr n44_0
noncomputable def n44_3 : Code := cl n44_2
noncomputable def q44_3 : List Oper := opsOf n44_3
noncomputable def n44_4 : Code := cr n44_2
noncomputable def n44_5 : Code := cl n44_4
noncomputable def n44_6 : Code := cl n44_5
noncomputable def q44_6 : List Oper := opsOf n44_6
noncomputable def n44_7 : Code := cr n44_5
noncomputable def n44_8 : Code := cl n44_7
noncomputable def n44_9 : Code := cl n44_8
noncomputable def q44_9 : List Oper := opsOf n44_9
noncomputable def n44_10 : Code := cr n44_8
noncomputable def n44_11 : Code := cl n44_10
noncomputable def n44_12 : Code := cl n44_11
noncomputable def n44_13 : Code := cl n44_12
noncomputable def q44_13 : List Oper := opsOf n44_13
noncomputable def n44_14 : Code := cr n44_12
noncomputable def n44_15 : Code := cl n44_14
noncomputable def q44_15 : List Oper := opsOf n44_15
noncomputable def n44_16 : Code := cr n44_14
noncomputable def n44_17 : Code := cr n44_11
noncomputable def q44_17 : List Oper := opsOf n44_17
noncomputable def n44_18 : Code := cr n44_4
noncomputable def n44_19 : Code := cl n44_18
noncomputable def q44_19 : List Oper := opsOf n44_19
noncomputable def n44_20 : Code := cr n44_18
theorem body44 : Try.f44.body = some n44_0 := by kernel_rfl
theorem run44 (E : Ev) (args : List Value) (h : List Blk) (hl : args.length ≤ 22) : runB Try.prog E 44 args h = endS Try.prog [.tmp 4] h.length (codeB Try.prog E ⟨44, 22, h.length, none⟩ n44_0 ⟨enumT 0 args, h, []⟩) := GE.run_step Try.func44 body44 (by kernel_rfl) (by decide) (by kernel_rfl) hl
theorem n44_1s : codeB Try.prog E ⟨f, 22, b, ro⟩ n44_1 st = plainS (runOps Try.prog E b q44_1 (ops [false] Try.f44) st) := GE.region_step (id := 0) (GE.reg_of (by kernel_rfl)) (by kernel_rfl)
theorem n44_3s : codeB Try.prog E ⟨f, 22, b, ro⟩ n44_3 st = plainS (runOps Try.prog E b q44_3 (ops [true, false] Try.f44) st) := GE.region_step (id := 1) (GE.reg_of (by kernel_rfl)) (by kernel_rfl)
theorem n44_6s : codeB Try.prog E ⟨f, 22, b, ro⟩ n44_6 st = plainS (runOps Try.prog E b q44_6 (ops [true, true, false, false] Try.f44) st) := GE.region_step (id := 2) (GE.reg_of (by kernel_rfl)) (by kernel_rfl)
theorem n44_9s : codeB Try.prog E ⟨f, 22, b, ro⟩ n44_9 st = plainS (runOps Try.prog E b q44_9 (ops [true, true, false, true, false, false] Try.f44) st) := GE.region_step (id := 3) (GE.reg_of (by kernel_rfl)) (by kernel_rfl)
theorem n44_13s : codeB Try.prog E ⟨f, 22, b, ro⟩ n44_13 st = plainS (runOps Try.prog E b q44_13 (ops [true, true, false, true, false, true, false, false, false] Try.f44) st) := GE.region_step (id := 4) (GE.reg_of (by kernel_rfl)) (by kernel_rfl)
theorem n44_15s : codeB Try.prog E ⟨f, 22, b, ro⟩ n44_15 st = drawS [0, 0, 0, 6, 15, 31] (runOpsF Try.prog E b q44_15 (ops [true, true, false, true, false, true, false, false, true, false] Try.f44) st) := GE.draw_step (id := 5) (GE.reg_of (by kernel_rfl)) (by kernel_rfl) (by kernel_rfl) (by kernel_rfl)
theorem n44_16s : codeB Try.prog E cx n44_16 st = some (.normal, st) := GE.skip_step (by kernel_rfl)
theorem n44_14s : codeB Try.prog E cx n44_14 st = condS (codeB Try.prog E cx n44_15) (codeB Try.prog E cx n44_16) (lk st.σ 13) st := GE.cond_step (c := .tmp 13) (by kernel_rfl)
theorem n44_12s : codeB Try.prog E cx n44_12 st = thenS (codeB Try.prog E cx n44_13 st) (codeB Try.prog E cx n44_14) := GE.seq_step (by kernel_rfl)
theorem n44_17s : codeB Try.prog E ⟨f, 22, b, ro⟩ n44_17 st = plainS (runOps Try.prog E b q44_17 (ops [true, true, false, true, false, true, false, true] Try.f44) st) := GE.region_step (id := 6) (GE.reg_of (by kernel_rfl)) (by kernel_rfl)
theorem n44_11s : codeB Try.prog E cx n44_11 st = thenS (codeB Try.prog E cx n44_12 st) (codeB Try.prog E cx n44_17) := GE.seq_step (by kernel_rfl)
theorem n44_10s : codeB Try.prog E cx n44_10 st = blockS 1 (codeB Try.prog E cx n44_11 st) st := GE.block_step (by kernel_rfl)
theorem n44_8e : n44_8 = .rangeFunc (.tmp 10) #[11] n44_9 n44_10 := by kernel_rfl
theorem n44_8k : (ue n44_9).1 ++ (ue n44_10).1 = [11, 6, 5, 7] := by kernel_rfl
theorem n44_7s : codeB Try.prog E cx n44_7 st = blockS 0 (codeB Try.prog E cx n44_8 st) st := GE.block_step (by kernel_rfl)
theorem n44_5s : codeB Try.prog E cx n44_5 st = thenS (codeB Try.prog E cx n44_6 st) (codeB Try.prog E cx n44_7) := GE.seq_step (by kernel_rfl)
theorem n44_19s : codeB Try.prog E ⟨f, 22, b, ro⟩ n44_19 st = plainS (runOps Try.prog E b q44_19 (ops [true, true, true, false] Try.f44) st) := GE.region_step (id := 7) (GE.reg_of (by kernel_rfl)) (by kernel_rfl)
theorem n44_20s : codeB Try.prog LL ⟨44, 22, b, ro⟩ n44_20 st = normS b ⟨[4], []⟩ .ret st := GE.ret_step (by kernel_rfl) (by kernel_rfl)
theorem n44_18s : codeB Try.prog E cx n44_18 st = thenS (codeB Try.prog E cx n44_19 st) (codeB Try.prog E cx n44_20) := GE.seq_step (by kernel_rfl)
theorem n44_4s : codeB Try.prog E cx n44_4 st = thenS (codeB Try.prog E cx n44_5 st) (codeB Try.prog E cx n44_18) := GE.seq_step (by kernel_rfl)
theorem n44_2s : codeB Try.prog E cx n44_2 st = thenS (codeB Try.prog E cx n44_3 st) (codeB Try.prog E cx n44_4) := GE.seq_step (by kernel_rfl)
theorem n44_0s : codeB Try.prog E cx n44_0 st = thenS (codeB Try.prog E cx n44_1 st) (codeB Try.prog E cx n44_2) := GE.seq_step (by kernel_rfl)
noncomputable def n53_0 : Code := bodyOf Try.f53
noncomputable def n53_1 : Code := cl n53_0
noncomputable def q53_1 : List Oper := opsOf n53_1
noncomputable def n53_2 : Code := cr n53_0
noncomputable def n53_3 : Code := cl n53_2
noncomputable def q53_3 : List Oper := opsOf n53_3
noncomputable def n53_4 : Code := cr n53_2
theorem body53 : Try.f53.body = some n53_0 := by kernel_rfl
theorem run53 (E : Ev) (args : List Value) (h : List Blk) (hl : args.length ≤ 6) : runB Try.prog E 53 args h = endS Try.prog [.tmp 4] h.length (codeB Try.prog E ⟨53, 6, h.length, none⟩ n53_0 ⟨enumT 0 args, h, []⟩) := GE.run_step Try.func53 body53 (by kernel_rfl) (by decide) (by kernel_rfl) hl
theorem n53_1s : codeB Try.prog E ⟨f, 6, b, ro⟩ n53_1 st = plainS (runOps Try.prog E b q53_1 (ops [false] Try.f53) st) := GE.region_step (id := 0) (GE.reg_of (by kernel_rfl)) (by kernel_rfl)
theorem n53_3s : codeB Try.prog E ⟨f, 6, b, ro⟩ n53_3 st = plainS (runOps Try.prog E b q53_3 (ops [true, false] Try.f53) st) := GE.region_step (id := 1) (GE.reg_of (by kernel_rfl)) (by kernel_rfl)
theorem n53_4s : codeB Try.prog LL ⟨53, 6, b, ro⟩ n53_4 st = normS b ⟨[4], []⟩ .ret st := GE.ret_step (by kernel_rfl) (by kernel_rfl)
theorem n53_2s : codeB Try.prog E cx n53_2 st = thenS (codeB Try.prog E cx n53_3 st) (codeB Try.prog E cx n53_4) := GE.seq_step (by kernel_rfl)
theorem n53_0s : codeB Try.prog E cx n53_0 st = thenS (codeB Try.prog E cx n53_1 st) (codeB Try.prog E cx n53_2) := GE.seq_step (by kernel_rfl)
noncomputable def n56_0 : Code := bodyOf Try.f56
noncomputable def n56_1 : Code := cl n56_0
noncomputable def q56_1 : List Oper := opsOf n56_1
noncomputable def n56_2 : Code := cr n56_0
noncomputable def n56_3 : Code := cl n56_2
noncomputable def n56_4 : Code := cl n56_3
noncomputable def q56_4 : List Oper := opsOf n56_4
noncomputable def n56_5 : Code := cr n56_3
noncomputable def n56_6 : Code := cl n56_5
noncomputable def n56_7 : Code := cl n56_6
noncomputable def n56_8 : Code := cl n56_7
noncomputable def q56_8 : List Oper := opsOf n56_8
noncomputable def n56_9 : Code := cr n56_7
noncomputable def n56_10 : Code := cl n56_9
noncomputable def n56_11 : Code := cl n56_10
noncomputable def n56_12 : Code := cr n56_10
noncomputable def n56_13 : Code := cr n56_9
noncomputable def n56_14 : Code := cl n56_13
noncomputable def n56_15 : Code := cl n56_14
noncomputable def n56_16 : Code := cl n56_15
noncomputable def q56_16 : List Oper := opsOf n56_16
noncomputable def n56_17 : Code := cr n56_15
noncomputable def n56_18 : Code := cl n56_17
noncomputable def q56_18 : List Oper := opsOf n56_18
noncomputable def n56_19 : Code := cr n56_17
noncomputable def n56_20 : Code := cl n56_19
noncomputable def n56_21 : Code := cl n56_20
noncomputable def n56_22 : Code := cl n56_21
noncomputable def q56_22 : List Oper := opsOf n56_22
noncomputable def n56_23 : Code := cr n56_21
noncomputable def n56_24 : Code := cl n56_23
noncomputable def n56_25 : Code := cl n56_24
noncomputable def n56_26 : Code := cr n56_24
noncomputable def n56_27 : Code := cr n56_23
noncomputable def n56_28 : Code := cl n56_27
noncomputable def n56_29 : Code := cl n56_28
noncomputable def n56_30 : Code := cl n56_29
noncomputable def n56_31 : Code := cl n56_30
noncomputable def q56_31 : List Oper := opsOf n56_31
noncomputable def n56_32 : Code := cr n56_30
noncomputable def n56_33 : Code := cl n56_32
noncomputable def n56_34 : Code := cr n56_32
noncomputable def n56_35 : Code := cr n56_29
noncomputable def q56_35 : List Oper := opsOf n56_35
noncomputable def n56_36 : Code := cr n56_27
noncomputable def q56_36 : List Oper := opsOf n56_36
noncomputable def n56_37 : Code := cr n56_13
noncomputable def q56_37 : List Oper := opsOf n56_37
noncomputable def n56_38 : Code := cr n56_2
noncomputable def q56_38 : List Oper := opsOf n56_38
theorem body56 : Try.f56.body = some n56_0 := by kernel_rfl
theorem run56 (E : Ev) (args : List Value) (h : List Blk) (hl : args.length ≤ 57) : runB Try.prog E 56 args h = endS Try.prog [] h.length (codeB Try.prog E ⟨56, 57, h.length, none⟩ n56_0 ⟨enumT 0 args, h, []⟩) := GE.run_step Try.func56 body56 (by kernel_rfl) (by decide) (by kernel_rfl) hl
theorem n56_1s : codeB Try.prog E ⟨f, 57, b, ro⟩ n56_1 st = drawS [0, 1, 0, 4, 3, 31] (runOpsF Try.prog E b q56_1 (ops [false] Try.f56) st) := GE.draw_step (id := 0) (GE.reg_of (by kernel_rfl)) (by kernel_rfl) (by kernel_rfl) (by kernel_rfl)
theorem n56_4s : codeB Try.prog E ⟨f, 57, b, ro⟩ n56_4 st = plainS (runOps Try.prog E b q56_4 (ops [true, false, false] Try.f56) st) := GE.region_step (id := 1) (GE.reg_of (by kernel_rfl)) (by kernel_rfl)
theorem n56_8s : codeB Try.prog E ⟨f, 57, b, ro⟩ n56_8 st = plainS (runOps Try.prog E b q56_8 (ops [true, false, true, false, false, false] Try.f56) st) := GE.region_step (id := 2) (GE.reg_of (by kernel_rfl)) (by kernel_rfl)
theorem n56_11s : codeB Try.prog E cx n56_11 st = some (.normal, st) := GE.skip_step (by kernel_rfl)
theorem n56_12s : codeB Try.prog LL ⟨56, 57, b, ro⟩ n56_12 st = normS b ⟨[0, 2, 4, 5], []⟩ (.exit 0) st := GE.exit_step (by kernel_rfl) (by kernel_rfl)
theorem n56_10s : codeB Try.prog E cx n56_10 st = condS (codeB Try.prog E cx n56_11) (codeB Try.prog E cx n56_12) (lk st.σ 27) st := GE.cond_step (c := .tmp 27) (by kernel_rfl)
theorem n56_16s : codeB Try.prog E ⟨f, 57, b, ro⟩ n56_16 st = plainS (runOps Try.prog E b q56_16 (ops [true, false, true, false, false, true, true, false, false, false] Try.f56) st) := GE.region_step (id := 3) (GE.reg_of (by kernel_rfl)) (by kernel_rfl)
theorem n56_18s : codeB Try.prog E ⟨f, 57, b, ro⟩ n56_18 st = plainS (runOps Try.prog E b q56_18 (ops [true, false, true, false, false, true, true, false, false, true, false] Try.f56) st) := GE.region_step (id := 4) (GE.reg_of (by kernel_rfl)) (by kernel_rfl)
theorem n56_22s : codeB Try.prog E ⟨f, 57, b, ro⟩ n56_22 st = plainS (runOps Try.prog E b q56_22 (ops [true, false, true, false, false, true, true, false, false, true, true, false, false, false] Try.f56) st) := GE.region_step (id := 5) (GE.reg_of (by kernel_rfl)) (by kernel_rfl)
theorem n56_25s : codeB Try.prog E cx n56_25 st = some (.normal, st) := GE.skip_step (by kernel_rfl)
theorem n56_26s : codeB Try.prog LL ⟨56, 57, b, ro⟩ n56_26 st = normS b ⟨[0, 2, 4, 5, 24, 25, 26], [⟨24, 0, 3, true⟩]⟩ (.exit 2) st := GE.exit_step (by kernel_rfl) (by kernel_rfl)
theorem n56_24s : codeB Try.prog E cx n56_24 st = condS (codeB Try.prog E cx n56_25) (codeB Try.prog E cx n56_26) (lk st.σ 33) st := GE.cond_step (c := .tmp 33) (by kernel_rfl)
theorem n56_31s : codeB Try.prog E ⟨f, 57, b, ro⟩ n56_31 st = plainS (runOps Try.prog E b q56_31 (ops [true, false, true, false, false, true, true, false, false, true, true, false, false, true, true, false, false, false, false] Try.f56) st) := GE.region_step (id := 6) (GE.reg_of (by kernel_rfl)) (by kernel_rfl)
theorem n56_33s : codeB Try.prog LL ⟨56, 57, b, ro⟩ n56_33 st = normS b ⟨[], []⟩ .ret st := GE.ret_step (by kernel_rfl) (by kernel_rfl)
theorem n56_34s : codeB Try.prog E cx n56_34 st = some (.normal, st) := GE.skip_step (by kernel_rfl)
theorem n56_32s : codeB Try.prog E cx n56_32 st = condS (codeB Try.prog E cx n56_33) (codeB Try.prog E cx n56_34) (lk st.σ 40) st := GE.cond_step (c := .tmp 40) (by kernel_rfl)
theorem n56_30s : codeB Try.prog E cx n56_30 st = thenS (codeB Try.prog E cx n56_31 st) (codeB Try.prog E cx n56_32) := GE.seq_step (by kernel_rfl)
theorem n56_35s : codeB Try.prog E ⟨f, 57, b, ro⟩ n56_35 st = drawS [0, 0, 2, 7, 0, 0, 32, 112, 15, 511] (runOpsF Try.prog E b q56_35 (ops [true, false, true, false, false, true, true, false, false, true, true, false, false, true, true, false, false, true] Try.f56) st) := GE.draw_step (id := 7) (GE.reg_of (by kernel_rfl)) (by kernel_rfl) (by kernel_rfl) (by kernel_rfl)
theorem n56_29s : codeB Try.prog E cx n56_29 st = thenS (codeB Try.prog E cx n56_30 st) (codeB Try.prog E cx n56_35) := GE.seq_step (by kernel_rfl)
theorem n56_28s : codeB Try.prog E cx n56_28 st = blockS 3 (codeB Try.prog E cx n56_29 st) st := GE.block_step (by kernel_rfl)
theorem n56_36s : codeB Try.prog E ⟨f, 57, b, ro⟩ n56_36 st = plainS (runOps Try.prog E b q56_36 (ops [true, false, true, false, false, true, true, false, false, true, true, false, false, true, true, true] Try.f56) st) := GE.region_step (id := 8) (GE.reg_of (by kernel_rfl)) (by kernel_rfl)
theorem n56_27s : codeB Try.prog E cx n56_27 st = thenS (codeB Try.prog E cx n56_28 st) (codeB Try.prog E cx n56_36) := GE.seq_step (by kernel_rfl)
theorem n56_23s : codeB Try.prog E cx n56_23 st = thenS (codeB Try.prog E cx n56_24 st) (codeB Try.prog E cx n56_27) := GE.seq_step (by kernel_rfl)
theorem n56_21s : codeB Try.prog E cx n56_21 st = thenS (codeB Try.prog E cx n56_22 st) (codeB Try.prog E cx n56_23) := GE.seq_step (by kernel_rfl)
theorem n56_20k : LL.kp (⟨56, 57, b, ro⟩ : Cx).fn (4 * rid n56_21 + 3) = some ⟨[7, 31, 32, 0, 2, 4, 5, 24, 25, 26], [⟨24, 0, 3, true⟩]⟩ := by kernel_rfl
theorem n56_20s : codeB Try.prog LL ⟨56, 57, b, ro⟩ n56_20 st = headS b ⟨[7, 31, 32, 0, 2, 4, 5, 24, 25, 26], [⟨24, 0, 3, true⟩]⟩ st (lpB Try.prog LL ⟨56, 57, b, ro⟩ n56_20 n56_21) := GE.lpB_step (by kernel_rfl) (n56_20k b ro)
theorem n56_20g : LL.code ⟨56, 57, b, ro⟩ n56_20 st = headS b ⟨[7, 31, 32, 0, 2, 4, 5, 24, 25, 26], [⟨24, 0, 3, true⟩]⟩ st (lpB Try.prog LL ⟨56, 57, b, ro⟩ n56_20 n56_21) := GE.lpB_again (by kernel_rfl) (n56_20k b ro)
theorem n56_19s : codeB Try.prog E cx n56_19 st = blockS 2 (codeB Try.prog E cx n56_20 st) st := GE.block_step (by kernel_rfl)
theorem n56_17s : codeB Try.prog E cx n56_17 st = thenS (codeB Try.prog E cx n56_18 st) (codeB Try.prog E cx n56_19) := GE.seq_step (by kernel_rfl)
theorem n56_15s : codeB Try.prog E cx n56_15 st = thenS (codeB Try.prog E cx n56_16 st) (codeB Try.prog E cx n56_17) := GE.seq_step (by kernel_rfl)
theorem n56_14s : codeB Try.prog E cx n56_14 st = blockS 1 (codeB Try.prog E cx n56_15 st) st := GE.block_step (by kernel_rfl)
theorem n56_37s : codeB Try.prog E ⟨f, 57, b, ro⟩ n56_37 st = plainS (runOps Try.prog E b q56_37 (ops [true, false, true, false, false, true, true, true] Try.f56) st) := GE.region_step (id := 9) (GE.reg_of (by kernel_rfl)) (by kernel_rfl)
theorem n56_13s : codeB Try.prog E cx n56_13 st = thenS (codeB Try.prog E cx n56_14 st) (codeB Try.prog E cx n56_37) := GE.seq_step (by kernel_rfl)
theorem n56_9s : codeB Try.prog E cx n56_9 st = thenS (codeB Try.prog E cx n56_10 st) (codeB Try.prog E cx n56_13) := GE.seq_step (by kernel_rfl)
theorem n56_7s : codeB Try.prog E cx n56_7 st = thenS (codeB Try.prog E cx n56_8 st) (codeB Try.prog E cx n56_9) := GE.seq_step (by kernel_rfl)
theorem n56_6k : LL.kp (⟨56, 57, b, ro⟩ : Cx).fn (4 * rid n56_7 + 3) = some ⟨[0, 2, 4, 5, 24, 25, 26], [⟨24, 0, 3, true⟩]⟩ := by kernel_rfl
theorem n56_6s : codeB Try.prog LL ⟨56, 57, b, ro⟩ n56_6 st = headS b ⟨[0, 2, 4, 5, 24, 25, 26], [⟨24, 0, 3, true⟩]⟩ st (lpB Try.prog LL ⟨56, 57, b, ro⟩ n56_6 n56_7) := GE.lpB_step (by kernel_rfl) (n56_6k b ro)
theorem n56_6g : LL.code ⟨56, 57, b, ro⟩ n56_6 st = headS b ⟨[0, 2, 4, 5, 24, 25, 26], [⟨24, 0, 3, true⟩]⟩ st (lpB Try.prog LL ⟨56, 57, b, ro⟩ n56_6 n56_7) := GE.lpB_again (by kernel_rfl) (n56_6k b ro)
theorem n56_5s : codeB Try.prog E cx n56_5 st = blockS 0 (codeB Try.prog E cx n56_6 st) st := GE.block_step (by kernel_rfl)
theorem n56_3s : codeB Try.prog E cx n56_3 st = thenS (codeB Try.prog E cx n56_4 st) (codeB Try.prog E cx n56_5) := GE.seq_step (by kernel_rfl)
theorem n56_38s : codeB Try.prog E ⟨f, 57, b, ro⟩ n56_38 st = plainS (runOps Try.prog E b q56_38 (ops [true, true] Try.f56) st) := GE.region_step (id := 10) (GE.reg_of (by kernel_rfl)) (by kernel_rfl)
theorem n56_2s : codeB Try.prog E cx n56_2 st = thenS (codeB Try.prog E cx n56_3 st) (codeB Try.prog E cx n56_38) := GE.seq_step (by kernel_rfl)
theorem n56_0s : codeB Try.prog E cx n56_0 st = thenS (codeB Try.prog E cx n56_1 st) (codeB Try.prog E cx n56_2) := GE.seq_step (by kernel_rfl)
theorem ia_59 : aggK Try.prog 59 = some (true, 4) := by kernel_rfl
theorem za_24 : zeroA Try.prog 24 = some (.agg #[(.int .i64 (0)), (.int .i64 (0)), (.int .i64 (0)), (.slice none 0 0)]) := by kernel_rfl
theorem sz_24 : aggSize Try.prog 24 = some 4 := by kernel_rfl
theorem ia_24 : aggK Try.prog 24 = some (true, 4) := by kernel_rfl
theorem ia_60 : aggK Try.prog 60 = some (true, 4) := by kernel_rfl
theorem za_35 : zeroA Try.prog 35 = some (.agg #[(.int .i64 (0)), (.int .i64 (0)), (.int .i64 (0)), (.int .i64 (0))]) := by kernel_rfl
theorem sz_35 : aggSize Try.prog 35 = some 4 := by kernel_rfl
theorem fa_24_2 : fieldAt Try.prog 24 2 = some (2, 1) := by kernel_rfl
theorem sz_3 : aggSize Try.prog 3 = some 1 := by kernel_rfl
theorem fa_24_3 : fieldAt Try.prog 24 3 = some (3, 1) := by kernel_rfl
theorem sz_22 : aggSize Try.prog 22 = some 1 := by kernel_rfl
theorem ia_22 : aggK Try.prog 22 = some (false, 1) := by kernel_rfl
theorem lk_22 : lenK Try.prog 22 = some .sl := by kernel_rfl
theorem es_22 : elemK Try.prog 22 = some (none, 1) := by kernel_rfl
theorem ia_3 : aggK Try.prog 3 = some (false, 1) := by kernel_rfl
theorem ea_67 : elemK Try.prog 67 = some (some 36, 1) := by kernel_rfl
theorem ia_66 : aggK Try.prog 66 = some (false, 1) := by kernel_rfl
theorem cv_66_3 : convK Try.prog 66 3 = some .i64 := by kernel_rfl
theorem ze_22 : zeroE Try.prog 22 = some (.int .i64 (0)) := by kernel_rfl
theorem ba_22_1 : baseArr (Value.cells (.int .i64 (0))) (1 * 1) = #[(.int .i64 (0))] := by kernel_rfl
theorem ap_22 : apK Try.prog 22 = some (1, 8) := by kernel_rfl
theorem ni_22 : notInt Try.prog 22 = true := by kernel_rfl
theorem ia_35 : aggK Try.prog 35 = some (true, 4) := by kernel_rfl
theorem lk_39 : lenK Try.prog 39 = some .sl := by kernel_rfl
theorem es_39 : elemK Try.prog 39 = some (none, 4) := by kernel_rfl
theorem fa_24_0 : fieldAt Try.prog 24 0 = some (0, 1) := by kernel_rfl
theorem fa_24_1 : fieldAt Try.prog 24 1 = some (1, 1) := by kernel_rfl
theorem pl_35 : plK Try.prog 35 = some [(0, 1), (1, 1), (2, 1), (3, 1)] := by kernel_rfl
theorem ze_39 : zeroE Try.prog 39 = some (.agg #[(.int .i64 (0)), (.int .i64 (0)), (.int .i64 (0)), (.int .i64 (0))]) := by kernel_rfl
theorem ba_39_1 : baseArr (Value.cells (.agg #[(.int .i64 (0)), (.int .i64 (0)), (.int .i64 (0)), (.int .i64 (0))])) (1 * 4) = #[(.int .i64 (0)), (.int .i64 (0)), (.int .i64 (0)), (.int .i64 (0))] := by kernel_rfl
theorem ap_39 : apK Try.prog 39 = some (4, 32) := by kernel_rfl
theorem ni_39 : notInt Try.prog 39 = true := by kernel_rfl
theorem fa_59_0 : fieldAt Try.prog 59 0 = some (0, 1) := by kernel_rfl
theorem ia_5 : aggK Try.prog 5 = some (false, 1) := by kernel_rfl
theorem cv_5_3 : convK Try.prog 5 3 = some .i64 := by kernel_rfl
theorem fa_59_1 : fieldAt Try.prog 59 1 = some (1, 1) := by kernel_rfl
theorem fa_59_2 : fieldAt Try.prog 59 2 = some (2, 1) := by kernel_rfl
theorem pl_24 : plK Try.prog 24 = some [(0, 1), (1, 1), (2, 1), (3, 1)] := by kernel_rfl
theorem fa_59_3 : fieldAt Try.prog 59 3 = some (3, 1) := by kernel_rfl
theorem ia_57 : aggK Try.prog 57 = some (false, 1) := by kernel_rfl
theorem lk_57 : lenK Try.prog 57 = some .sl := by kernel_rfl
theorem es_57 : elemK Try.prog 57 = some (none, 1) := by kernel_rfl
theorem ea_60 : elemK Try.prog 60 = some (some 4, 1) := by kernel_rfl
theorem fa_35_0 : fieldAt Try.prog 35 0 = some (0, 1) := by kernel_rfl
theorem fa_35_1 : fieldAt Try.prog 35 1 = some (1, 1) := by kernel_rfl
theorem fa_35_2 : fieldAt Try.prog 35 2 = some (2, 1) := by kernel_rfl
theorem fa_35_3 : fieldAt Try.prog 35 3 = some (3, 1) := by kernel_rfl
theorem za_3 : zeroA Try.prog 3 = some (.int .i64 (0)) := by kernel_rfl
theorem za_103 : zeroA Try.prog 103 = some (.agg #[(.int .i64 (0)), (.int .i64 (0)), (.int .i64 (0))]) := by kernel_rfl
theorem pl_103 : plK Try.prog 103 = some [(0, 1), (1, 1), (2, 1)] := by kernel_rfl
theorem es_104 : elemK Try.prog 104 = some (none, 3) := by kernel_rfl
theorem ze_104 : zeroE Try.prog 104 = some (.agg #[(.int .i64 (0)), (.int .i64 (0)), (.int .i64 (0))]) := by kernel_rfl
theorem ba_104_4 : baseArr (Value.cells (.agg #[(.int .i64 (0)), (.int .i64 (0)), (.int .i64 (0))])) (4 * 3) = #[(.int .i64 (0)), (.int .i64 (0)), (.int .i64 (0)), (.int .i64 (0)), (.int .i64 (0)), (.int .i64 (0)), (.int .i64 (0)), (.int .i64 (0)), (.int .i64 (0)), (.int .i64 (0)), (.int .i64 (0)), (.int .i64 (0))] := by kernel_rfl
theorem lk_104 : lenK Try.prog 104 = some .sl := by kernel_rfl
theorem ia_103 : aggK Try.prog 103 = some (true, 3) := by kernel_rfl
theorem sz_103 : aggSize Try.prog 103 = some 3 := by kernel_rfl
theorem fa_103_2 : fieldAt Try.prog 103 2 = some (2, 1) := by kernel_rfl
theorem fa_103_0 : fieldAt Try.prog 103 0 = some (0, 1) := by kernel_rfl
theorem fa_103_1 : fieldAt Try.prog 103 1 = some (1, 1) := by kernel_rfl

end Go.Proofs.Ytgpcjdhlijompaa.oo
