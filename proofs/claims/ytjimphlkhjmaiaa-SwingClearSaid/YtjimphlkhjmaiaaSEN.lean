/-
  Names for the nodes of the code of some functions (projections of their bodies), the step of each node, and the facts of types that they use.
-/
import Derived.Test.YtjimphlkhjmaiaaKp
namespace Go.Proofs.Ytjimphlkhjmaiaa.sw
open Go.GE
set_option maxRecDepth 100000
variable (E : Ev) (cx : Cx) (st : St) (f nt b : Nat) (ro : Option Nat)
noncomputable def n8_0 : Code := bodyOf Try.f8
noncomputable def n8_1 : Code := cl n8_0
noncomputable def q8_1 : List Oper := opsOf n8_1
noncomputable def n8_2 : Code := cr n8_0
noncomputable def n8_3 : Code := cl n8_2
noncomputable def q8_3 : List Oper := opsOf n8_3
noncomputable def n8_4 : Code := cr n8_2
noncomputable def n8_5 : Code := cl n8_4
noncomputable def q8_5 : List Oper := opsOf n8_5
noncomputable def n8_6 : Code := cr n8_4
noncomputable def n8_7 : Code := cl n8_6
noncomputable def q8_7 : List Oper := opsOf n8_7
noncomputable def n8_8 : Code := cr n8_6
noncomputable def n8_9 : Code := cl n8_8
noncomputable def n8_10 : Code := cl n8_9
noncomputable def q8_10 : List Oper := opsOf n8_10
noncomputable def n8_11 : Code := cr n8_9
noncomputable def n8_12 : Code := cl n8_11
noncomputable def n8_13 : Code := cl n8_12
noncomputable def n8_14 : Code := cl n8_13
noncomputable def q8_14 : List Oper := opsOf n8_14
noncomputable def n8_15 : Code := cr n8_13
noncomputable def n8_16 : Code := cl n8_15
noncomputable def n8_17 : Code := cl n8_16
noncomputable def n8_18 : Code := cr n8_16
noncomputable def n8_19 : Code := cr n8_15
noncomputable def n8_20 : Code := cl n8_19
noncomputable def n8_21 : Code := cl n8_20
noncomputable def q8_21 : List Oper := opsOf n8_21
noncomputable def n8_22 : Code := cr n8_20
noncomputable def n8_23 : Code := cl n8_22
noncomputable def q8_23 : List Oper := opsOf n8_23
noncomputable def n8_24 : Code := cr n8_22
noncomputable def q8_24 : List Oper := opsOf n8_24
noncomputable def n8_25 : Code := cr n8_8
noncomputable def n8_26 : Code := cl n8_25
noncomputable def n8_27 : Code := cl n8_26
noncomputable def q8_27 : List Oper := opsOf n8_27
noncomputable def n8_28 : Code := cr n8_26
noncomputable def n8_29 : Code := cl n8_28
noncomputable def n8_30 : Code := cl n8_29
noncomputable def n8_31 : Code := cl n8_30
noncomputable def q8_31 : List Oper := opsOf n8_31
noncomputable def n8_32 : Code := cr n8_30
noncomputable def n8_33 : Code := cl n8_32
noncomputable def n8_34 : Code := cl n8_33
noncomputable def n8_35 : Code := cr n8_33
noncomputable def n8_36 : Code := cr n8_32
noncomputable def n8_37 : Code := cl n8_36
noncomputable def n8_38 : Code := cl n8_37
noncomputable def n8_39 : Code := cl n8_38
noncomputable def q8_39 : List Oper := opsOf n8_39
noncomputable def n8_40 : Code := cr n8_38
noncomputable def n8_41 : Code := cl n8_40
noncomputable def q8_41 : List Oper := opsOf n8_41
noncomputable def n8_42 : Code := cr n8_40
noncomputable def n8_43 : Code := cl n8_42
noncomputable def q8_43 : List Oper := opsOf n8_43
noncomputable def n8_44 : Code := cr n8_42
noncomputable def n8_45 : Code := cl n8_44
noncomputable def n8_46 : Code := cl n8_45
noncomputable def q8_46 : List Oper := opsOf n8_46
noncomputable def n8_47 : Code := cr n8_45
noncomputable def n8_48 : Code := cr n8_44
noncomputable def n8_49 : Code := cr n8_36
noncomputable def q8_49 : List Oper := opsOf n8_49
noncomputable def n8_50 : Code := cr n8_25
noncomputable def n8_51 : Code := cl n8_50
noncomputable def n8_52 : Code := cl n8_51
noncomputable def q8_52 : List Oper := opsOf n8_52
noncomputable def n8_53 : Code := cr n8_51
noncomputable def n8_54 : Code := cl n8_53
noncomputable def n8_55 : Code := cl n8_54
noncomputable def q8_55 : List Oper := opsOf n8_55
noncomputable def n8_56 : Code := cr n8_54
noncomputable def n8_57 : Code := cr n8_53
noncomputable def n8_58 : Code := cr n8_50
noncomputable def n8_59 : Code := cl n8_58
noncomputable def q8_59 : List Oper := opsOf n8_59
noncomputable def n8_60 : Code := cr n8_58
theorem body8 : Try.f8.body = some n8_0 := by kernel_rfl
theorem run8 (E : Ev) (args : List Value) (h : List Blk) (hl : args.length ≤ 115) : runB Try.prog E 8 args h = endS Try.prog [.tmp 4] h.length (codeB Try.prog E ⟨8, 115, h.length, none⟩ n8_0 ⟨enumT 0 args, h, []⟩) := GE.run_step Try.func8 body8 (by kernel_rfl) (by decide) (by kernel_rfl) hl
theorem n8_1s : codeB Try.prog E ⟨f, 115, b, ro⟩ n8_1 st = plainS (runOps Try.prog E b q8_1 (ops [false] Try.f8) st) := GE.region_step (id := 0) (GE.reg_of (by kernel_rfl)) (by kernel_rfl)
theorem n8_3s : codeB Try.prog E ⟨f, 115, b, ro⟩ n8_3 st = plainS (runOps Try.prog E b q8_3 (ops [true, false] Try.f8) st) := GE.region_step (id := 1) (GE.reg_of (by kernel_rfl)) (by kernel_rfl)
theorem n8_5s : codeB Try.prog E ⟨f, 115, b, ro⟩ n8_5 st = plainS (runOps Try.prog E b q8_5 (ops [true, true, false] Try.f8) st) := GE.region_step (id := 2) (GE.reg_of (by kernel_rfl)) (by kernel_rfl)
theorem n8_7s : codeB Try.prog E ⟨f, 115, b, ro⟩ n8_7 st = plainS (runOps Try.prog E b q8_7 (ops [true, true, true, false] Try.f8) st) := GE.region_step (id := 3) (GE.reg_of (by kernel_rfl)) (by kernel_rfl)
theorem n8_10s : codeB Try.prog E ⟨f, 115, b, ro⟩ n8_10 st = plainS (runOps Try.prog E b q8_10 (ops [true, true, true, true, false, false] Try.f8) st) := GE.region_step (id := 4) (GE.reg_of (by kernel_rfl)) (by kernel_rfl)
theorem n8_14s : codeB Try.prog E ⟨f, 115, b, ro⟩ n8_14 st = plainS (runOps Try.prog E b q8_14 (ops [true, true, true, true, false, true, false, false, false] Try.f8) st) := GE.region_step (id := 5) (GE.reg_of (by kernel_rfl)) (by kernel_rfl)
theorem n8_17s : codeB Try.prog E cx n8_17 st = some (.normal, st) := GE.skip_step (by kernel_rfl)
theorem n8_18s : codeB Try.prog LL ⟨8, 115, b, ro⟩ n8_18 st = normS b ⟨[1, 5, 6, 7, 8, 9], []⟩ (.exit 0) st := GE.exit_step (by kernel_rfl) (by kernel_rfl)
theorem n8_16s : codeB Try.prog E cx n8_16 st = condS (codeB Try.prog E cx n8_17) (codeB Try.prog E cx n8_18) (lk st.σ 25) st := GE.cond_step (c := .tmp 25) (by kernel_rfl)
theorem n8_21s : codeB Try.prog E ⟨f, 115, b, ro⟩ n8_21 st = plainS (runOps Try.prog E b q8_21 (ops [true, true, true, true, false, true, false, false, true, true, false, false] Try.f8) st) := GE.region_step (id := 6) (GE.reg_of (by kernel_rfl)) (by kernel_rfl)
theorem n8_23s : codeB Try.prog E ⟨f, 115, b, ro⟩ n8_23 st = plainS (runOps Try.prog E b q8_23 (ops [true, true, true, true, false, true, false, false, true, true, false, true, false] Try.f8) st) := GE.region_step (id := 7) (GE.reg_of (by kernel_rfl)) (by kernel_rfl)
theorem n8_24s : codeB Try.prog E ⟨f, 115, b, ro⟩ n8_24 st = plainS (runOps Try.prog E b q8_24 (ops [true, true, true, true, false, true, false, false, true, true, false, true, true] Try.f8) st) := GE.region_step (id := 8) (GE.reg_of (by kernel_rfl)) (by kernel_rfl)
theorem n8_22s : codeB Try.prog E cx n8_22 st = thenS (codeB Try.prog E cx n8_23 st) (codeB Try.prog E cx n8_24) := GE.seq_step (by kernel_rfl)
theorem n8_20s : codeB Try.prog E cx n8_20 st = thenS (codeB Try.prog E cx n8_21 st) (codeB Try.prog E cx n8_22) := GE.seq_step (by kernel_rfl)
theorem n8_19s : codeB Try.prog E cx n8_19 st = blockS 1 (codeB Try.prog E cx n8_20 st) st := GE.block_step (by kernel_rfl)
theorem n8_15s : codeB Try.prog E cx n8_15 st = thenS (codeB Try.prog E cx n8_16 st) (codeB Try.prog E cx n8_19) := GE.seq_step (by kernel_rfl)
theorem n8_13s : codeB Try.prog E cx n8_13 st = thenS (codeB Try.prog E cx n8_14 st) (codeB Try.prog E cx n8_15) := GE.seq_step (by kernel_rfl)
theorem n8_12k : LL.kp (⟨8, 115, b, ro⟩ : Cx).fn (4 * rid n8_13 + 3) = some ⟨[1, 5, 6, 7, 8, 9, 23], []⟩ := by kernel_rfl
theorem n8_12s : codeB Try.prog LL ⟨8, 115, b, ro⟩ n8_12 st = headS b ⟨[1, 5, 6, 7, 8, 9, 23], []⟩ st (lpB Try.prog LL ⟨8, 115, b, ro⟩ n8_12 n8_13) := GE.lpB_step (by kernel_rfl) (n8_12k b ro)
theorem n8_12g : LL.code ⟨8, 115, b, ro⟩ n8_12 st = headS b ⟨[1, 5, 6, 7, 8, 9, 23], []⟩ st (lpB Try.prog LL ⟨8, 115, b, ro⟩ n8_12 n8_13) := GE.lpB_again (by kernel_rfl) (n8_12k b ro)
theorem n8_11s : codeB Try.prog E cx n8_11 st = blockS 0 (codeB Try.prog E cx n8_12 st) st := GE.block_step (by kernel_rfl)
theorem n8_9s : codeB Try.prog E cx n8_9 st = thenS (codeB Try.prog E cx n8_10 st) (codeB Try.prog E cx n8_11) := GE.seq_step (by kernel_rfl)
theorem n8_27s : codeB Try.prog E ⟨f, 115, b, ro⟩ n8_27 st = plainS (runOps Try.prog E b q8_27 (ops [true, true, true, true, true, false, false] Try.f8) st) := GE.region_step (id := 9) (GE.reg_of (by kernel_rfl)) (by kernel_rfl)
theorem n8_31s : codeB Try.prog E ⟨f, 115, b, ro⟩ n8_31 st = plainS (runOps Try.prog E b q8_31 (ops [true, true, true, true, true, false, true, false, false, false] Try.f8) st) := GE.region_step (id := 10) (GE.reg_of (by kernel_rfl)) (by kernel_rfl)
theorem n8_34s : codeB Try.prog E cx n8_34 st = some (.normal, st) := GE.skip_step (by kernel_rfl)
theorem n8_35s : codeB Try.prog LL ⟨8, 115, b, ro⟩ n8_35 st = normS b ⟨[5, 6, 7], []⟩ (.exit 2) st := GE.exit_step (by kernel_rfl) (by kernel_rfl)
theorem n8_33s : codeB Try.prog E cx n8_33 st = condS (codeB Try.prog E cx n8_34) (codeB Try.prog E cx n8_35) (lk st.σ 54) st := GE.cond_step (c := .tmp 54) (by kernel_rfl)
theorem n8_39s : codeB Try.prog E ⟨f, 115, b, ro⟩ n8_39 st = plainS (runOps Try.prog E b q8_39 (ops [true, true, true, true, true, false, true, false, false, true, true, false, false, false] Try.f8) st) := GE.region_step (id := 11) (GE.reg_of (by kernel_rfl)) (by kernel_rfl)
theorem n8_41s : codeB Try.prog E ⟨f, 115, b, ro⟩ n8_41 st = plainS (runOps Try.prog E b q8_41 (ops [true, true, true, true, true, false, true, false, false, true, true, false, false, true, false] Try.f8) st) := GE.region_step (id := 12) (GE.reg_of (by kernel_rfl)) (by kernel_rfl)
theorem q8_43g3 : gd q8_43 3 = some 65 := by kernel_rfl
theorem n8_43s : codeB Try.prog E ⟨f, 115, b, ro⟩ n8_43 st = plainS (runOps Try.prog E b q8_43 (ops [true, true, true, true, true, false, true, false, false, true, true, false, false, true, true, false] Try.f8) st) := GE.region_step (id := 13) (GE.reg_of (by kernel_rfl)) (by kernel_rfl)
theorem n8_46s : codeB Try.prog E ⟨f, 115, b, ro⟩ n8_46 st = plainS (runOps Try.prog E b q8_46 (ops [true, true, true, true, true, false, true, false, false, true, true, false, false, true, true, true, false, false] Try.f8) st) := GE.region_step (id := 14) (GE.reg_of (by kernel_rfl)) (by kernel_rfl)
theorem n8_47s : codeB Try.prog LL ⟨8, 115, b, ro⟩ n8_47 st = normS b ⟨[4], []⟩ .ret st := GE.ret_step (by kernel_rfl) (by kernel_rfl)
theorem n8_45s : codeB Try.prog E cx n8_45 st = thenS (codeB Try.prog E cx n8_46 st) (codeB Try.prog E cx n8_47) := GE.seq_step (by kernel_rfl)
theorem n8_48s : codeB Try.prog E cx n8_48 st = some (.normal, st) := GE.skip_step (by kernel_rfl)
theorem n8_44s : codeB Try.prog E cx n8_44 st = condS (codeB Try.prog E cx n8_45) (codeB Try.prog E cx n8_48) (lk st.σ 69) st := GE.cond_step (c := .tmp 69) (by kernel_rfl)
theorem n8_42s : codeB Try.prog E cx n8_42 st = thenS (codeB Try.prog E cx n8_43 st) (codeB Try.prog E cx n8_44) := GE.seq_step (by kernel_rfl)
theorem n8_40s : codeB Try.prog E cx n8_40 st = thenS (codeB Try.prog E cx n8_41 st) (codeB Try.prog E cx n8_42) := GE.seq_step (by kernel_rfl)
theorem n8_38s : codeB Try.prog E cx n8_38 st = thenS (codeB Try.prog E cx n8_39 st) (codeB Try.prog E cx n8_40) := GE.seq_step (by kernel_rfl)
theorem n8_37s : codeB Try.prog E cx n8_37 st = blockS 3 (codeB Try.prog E cx n8_38 st) st := GE.block_step (by kernel_rfl)
theorem n8_49s : codeB Try.prog E ⟨f, 115, b, ro⟩ n8_49 st = plainS (runOps Try.prog E b q8_49 (ops [true, true, true, true, true, false, true, false, false, true, true, true] Try.f8) st) := GE.region_step (id := 15) (GE.reg_of (by kernel_rfl)) (by kernel_rfl)
theorem n8_36s : codeB Try.prog E cx n8_36 st = thenS (codeB Try.prog E cx n8_37 st) (codeB Try.prog E cx n8_49) := GE.seq_step (by kernel_rfl)
theorem n8_32s : codeB Try.prog E cx n8_32 st = thenS (codeB Try.prog E cx n8_33 st) (codeB Try.prog E cx n8_36) := GE.seq_step (by kernel_rfl)
theorem n8_30s : codeB Try.prog E cx n8_30 st = thenS (codeB Try.prog E cx n8_31 st) (codeB Try.prog E cx n8_32) := GE.seq_step (by kernel_rfl)
theorem n8_29k : LL.kp (⟨8, 115, b, ro⟩ : Cx).fn (4 * rid n8_30 + 3) = some ⟨[5, 6, 7, 51, 52, 53], [⟨51, 0, 1, true⟩]⟩ := by kernel_rfl
theorem n8_29s : codeB Try.prog LL ⟨8, 115, b, ro⟩ n8_29 st = headS b ⟨[5, 6, 7, 51, 52, 53], [⟨51, 0, 1, true⟩]⟩ st (lpB Try.prog LL ⟨8, 115, b, ro⟩ n8_29 n8_30) := GE.lpB_step (by kernel_rfl) (n8_29k b ro)
theorem n8_29g : LL.code ⟨8, 115, b, ro⟩ n8_29 st = headS b ⟨[5, 6, 7, 51, 52, 53], [⟨51, 0, 1, true⟩]⟩ st (lpB Try.prog LL ⟨8, 115, b, ro⟩ n8_29 n8_30) := GE.lpB_again (by kernel_rfl) (n8_29k b ro)
theorem n8_28s : codeB Try.prog E cx n8_28 st = blockS 2 (codeB Try.prog E cx n8_29 st) st := GE.block_step (by kernel_rfl)
theorem n8_26s : codeB Try.prog E cx n8_26 st = thenS (codeB Try.prog E cx n8_27 st) (codeB Try.prog E cx n8_28) := GE.seq_step (by kernel_rfl)
theorem n8_52s : codeB Try.prog E ⟨f, 115, b, ro⟩ n8_52 st = plainS (runOps Try.prog E b q8_52 (ops [true, true, true, true, true, true, false, false] Try.f8) st) := GE.region_step (id := 16) (GE.reg_of (by kernel_rfl)) (by kernel_rfl)
theorem q8_55g6 : gd q8_55 6 = some 79 := by kernel_rfl
theorem n8_55s : codeB Try.prog E ⟨f, 115, b, ro⟩ n8_55 st = plainS (runOps Try.prog E b q8_55 (ops [true, true, true, true, true, true, false, true, false, false] Try.f8) st) := GE.region_step (id := 17) (GE.reg_of (by kernel_rfl)) (by kernel_rfl)
theorem n8_56s : codeB Try.prog LL ⟨8, 115, b, ro⟩ n8_56 st = normS b ⟨[4], []⟩ .ret st := GE.ret_step (by kernel_rfl) (by kernel_rfl)
theorem n8_54s : codeB Try.prog E cx n8_54 st = thenS (codeB Try.prog E cx n8_55 st) (codeB Try.prog E cx n8_56) := GE.seq_step (by kernel_rfl)
theorem n8_57s : codeB Try.prog E cx n8_57 st = some (.normal, st) := GE.skip_step (by kernel_rfl)
theorem n8_53s : codeB Try.prog E cx n8_53 st = condS (codeB Try.prog E cx n8_54) (codeB Try.prog E cx n8_57) (lk st.σ 72) st := GE.cond_step (c := .tmp 72) (by kernel_rfl)
theorem n8_51s : codeB Try.prog E cx n8_51 st = thenS (codeB Try.prog E cx n8_52 st) (codeB Try.prog E cx n8_53) := GE.seq_step (by kernel_rfl)
theorem q8_59g2 : gd q8_59 2 = some 84 := by kernel_rfl
theorem q8_59g6 : gd q8_59 6 = some 88 := by kernel_rfl
theorem q8_59g12 : gd q8_59 12 = some 94 := by kernel_rfl
theorem q8_59g18 : gd q8_59 18 = some 100 := by kernel_rfl
theorem q8_59g21 : gd q8_59 21 = some 103 := by kernel_rfl
theorem q8_59g30 : gd q8_59 30 = some 112 := by kernel_rfl
theorem n8_59s : codeB Try.prog E ⟨f, 115, b, ro⟩ n8_59 st = plainS (runOps Try.prog E b q8_59 (ops [true, true, true, true, true, true, true, false] Try.f8) st) := GE.region_step (id := 18) (GE.reg_of (by kernel_rfl)) (by kernel_rfl)
theorem n8_60s : codeB Try.prog LL ⟨8, 115, b, ro⟩ n8_60 st = normS b ⟨[4], []⟩ .ret st := GE.ret_step (by kernel_rfl) (by kernel_rfl)
theorem n8_58s : codeB Try.prog E cx n8_58 st = thenS (codeB Try.prog E cx n8_59 st) (codeB Try.prog E cx n8_60) := GE.seq_step (by kernel_rfl)
theorem n8_50s : codeB Try.prog E cx n8_50 st = thenS (codeB Try.prog E cx n8_51 st) (codeB Try.prog E cx n8_58) := GE.seq_step (by kernel_rfl)
theorem n8_25s : codeB Try.prog E cx n8_25 st = thenS (codeB Try.prog E cx n8_26 st) (codeB Try.prog E cx n8_50) := GE.seq_step (by kernel_rfl)
theorem n8_8s : codeB Try.prog E cx n8_8 st = thenS (codeB Try.prog E cx n8_9 st) (codeB Try.prog E cx n8_25) := GE.seq_step (by kernel_rfl)
theorem n8_6s : codeB Try.prog E cx n8_6 st = thenS (codeB Try.prog E cx n8_7 st) (codeB Try.prog E cx n8_8) := GE.seq_step (by kernel_rfl)
theorem n8_4s : codeB Try.prog E cx n8_4 st = thenS (codeB Try.prog E cx n8_5 st) (codeB Try.prog E cx n8_6) := GE.seq_step (by kernel_rfl)
theorem n8_2s : codeB Try.prog E cx n8_2 st = thenS (codeB Try.prog E cx n8_3 st) (codeB Try.prog E cx n8_4) := GE.seq_step (by kernel_rfl)
theorem n8_0s : codeB Try.prog E cx n8_0 st = thenS (codeB Try.prog E cx n8_1 st) (codeB Try.prog E cx n8_2) := GE.seq_step (by kernel_rfl)
noncomputable def n19_0 : Code := bodyOf Try.f19
noncomputable def n19_1 : Code := cl n19_0
noncomputable def q19_1 : List Oper := opsOf n19_1
noncomputable def n19_2 : Code := cr n19_0
noncomputable def n19_3 : Code := cl n19_2
noncomputable def n19_4 : Code := cl n19_3
noncomputable def q19_4 : List Oper := opsOf n19_4
noncomputable def n19_5 : Code := cr n19_3
noncomputable def n19_6 : Code := cl n19_5
noncomputable def q19_6 : List Oper := opsOf n19_6
noncomputable def n19_7 : Code := cr n19_5
noncomputable def n19_8 : Code := cl n19_7
noncomputable def n19_9 : Code := cl n19_8
noncomputable def q19_9 : List Oper := opsOf n19_9
noncomputable def n19_10 : Code := cr n19_8
noncomputable def n19_11 : Code := cr n19_7
noncomputable def n19_12 : Code := cr n19_2
noncomputable def n19_13 : Code := cl n19_12
noncomputable def n19_14 : Code := cl n19_13
noncomputable def q19_14 : List Oper := opsOf n19_14
noncomputable def n19_15 : Code := cr n19_13
noncomputable def n19_16 : Code := cl n19_15
noncomputable def n19_17 : Code := cl n19_16
noncomputable def n19_18 : Code := cl n19_17
noncomputable def q19_18 : List Oper := opsOf n19_18
noncomputable def n19_19 : Code := cr n19_17
noncomputable def n19_20 : Code := cl n19_19
noncomputable def n19_21 : Code := cl n19_20
noncomputable def n19_22 : Code := cr n19_20
noncomputable def n19_23 : Code := cr n19_19
noncomputable def n19_24 : Code := cl n19_23
noncomputable def n19_25 : Code := cl n19_24
noncomputable def n19_26 : Code := cl n19_25
noncomputable def q19_26 : List Oper := opsOf n19_26
noncomputable def n19_27 : Code := cr n19_25
noncomputable def n19_28 : Code := cl n19_27
noncomputable def q19_28 : List Oper := opsOf n19_28
noncomputable def n19_29 : Code := cr n19_27
noncomputable def n19_30 : Code := cl n19_29
noncomputable def n19_31 : Code := cl n19_30
noncomputable def q19_31 : List Oper := opsOf n19_31
noncomputable def n19_32 : Code := cr n19_30
noncomputable def n19_33 : Code := cr n19_29
noncomputable def n19_34 : Code := cr n19_23
noncomputable def q19_34 : List Oper := opsOf n19_34
noncomputable def n19_35 : Code := cr n19_12
noncomputable def n19_36 : Code := cl n19_35
noncomputable def q19_36 : List Oper := opsOf n19_36
noncomputable def n19_37 : Code := cr n19_35
theorem body19 : Try.f19.body = some n19_0 := by kernel_rfl
theorem run19 (E : Ev) (args : List Value) (h : List Blk) (hl : args.length ≤ 22) : runB Try.prog E 19 args h = endS Try.prog [.tmp 2, .tmp 3] h.length (codeB Try.prog E ⟨19, 22, h.length, none⟩ n19_0 ⟨enumT 0 args, h, []⟩) := GE.run_step Try.func19 body19 (by kernel_rfl) (by decide) (by kernel_rfl) hl
theorem n19_1s : codeB Try.prog E ⟨f, 22, b, ro⟩ n19_1 st = plainS (runOps Try.prog E b q19_1 (ops [false] Try.f19) st) := GE.region_step (id := 0) (GE.reg_of (by kernel_rfl)) (by kernel_rfl)
theorem n19_4s : codeB Try.prog E ⟨f, 22, b, ro⟩ n19_4 st = plainS (runOps Try.prog E b q19_4 (ops [true, false, false] Try.f19) st) := GE.region_step (id := 1) (GE.reg_of (by kernel_rfl)) (by kernel_rfl)
theorem n19_6s : codeB Try.prog E ⟨f, 22, b, ro⟩ n19_6 st = plainS (runOps Try.prog E b q19_6 (ops [true, false, true, false] Try.f19) st) := GE.region_step (id := 2) (GE.reg_of (by kernel_rfl)) (by kernel_rfl)
theorem n19_9s : codeB Try.prog E ⟨f, 22, b, ro⟩ n19_9 st = plainS (runOps Try.prog E b q19_9 (ops [true, false, true, true, false, false] Try.f19) st) := GE.region_step (id := 3) (GE.reg_of (by kernel_rfl)) (by kernel_rfl)
theorem n19_10s : codeB Try.prog LL ⟨19, 22, b, ro⟩ n19_10 st = normS b ⟨[2, 3], []⟩ .ret st := GE.ret_step (by kernel_rfl) (by kernel_rfl)
theorem n19_8s : codeB Try.prog E cx n19_8 st = thenS (codeB Try.prog E cx n19_9 st) (codeB Try.prog E cx n19_10) := GE.seq_step (by kernel_rfl)
theorem n19_11s : codeB Try.prog E cx n19_11 st = some (.normal, st) := GE.skip_step (by kernel_rfl)
theorem n19_7s : codeB Try.prog E cx n19_7 st = condS (codeB Try.prog E cx n19_8) (codeB Try.prog E cx n19_11) (lk st.σ 9) st := GE.cond_step (c := .tmp 9) (by kernel_rfl)
theorem n19_5s : codeB Try.prog E cx n19_5 st = thenS (codeB Try.prog E cx n19_6 st) (codeB Try.prog E cx n19_7) := GE.seq_step (by kernel_rfl)
theorem n19_3s : codeB Try.prog E cx n19_3 st = thenS (codeB Try.prog E cx n19_4 st) (codeB Try.prog E cx n19_5) := GE.seq_step (by kernel_rfl)
theorem n19_14s : codeB Try.prog E ⟨f, 22, b, ro⟩ n19_14 st = plainS (runOps Try.prog E b q19_14 (ops [true, true, false, false] Try.f19) st) := GE.region_step (id := 4) (GE.reg_of (by kernel_rfl)) (by kernel_rfl)
theorem n19_18s : codeB Try.prog E ⟨f, 22, b, ro⟩ n19_18 st = plainS (runOps Try.prog E b q19_18 (ops [true, true, false, true, false, false, false] Try.f19) st) := GE.region_step (id := 5) (GE.reg_of (by kernel_rfl)) (by kernel_rfl)
theorem n19_21s : codeB Try.prog E cx n19_21 st = some (.normal, st) := GE.skip_step (by kernel_rfl)
theorem n19_22s : codeB Try.prog LL ⟨19, 22, b, ro⟩ n19_22 st = normS b ⟨[], []⟩ (.exit 0) st := GE.exit_step (by kernel_rfl) (by kernel_rfl)
theorem n19_20s : codeB Try.prog E cx n19_20 st = condS (codeB Try.prog E cx n19_21) (codeB Try.prog E cx n19_22) (lk st.σ 15) st := GE.cond_step (c := .tmp 15) (by kernel_rfl)
theorem n19_26s : codeB Try.prog E ⟨f, 22, b, ro⟩ n19_26 st = plainS (runOps Try.prog E b q19_26 (ops [true, true, false, true, false, false, true, true, false, false, false] Try.f19) st) := GE.region_step (id := 6) (GE.reg_of (by kernel_rfl)) (by kernel_rfl)
theorem n19_28s : codeB Try.prog E ⟨f, 22, b, ro⟩ n19_28 st = plainS (runOps Try.prog E b q19_28 (ops [true, true, false, true, false, false, true, true, false, false, true, false] Try.f19) st) := GE.region_step (id := 7) (GE.reg_of (by kernel_rfl)) (by kernel_rfl)
theorem n19_31s : codeB Try.prog E ⟨f, 22, b, ro⟩ n19_31 st = plainS (runOps Try.prog E b q19_31 (ops [true, true, false, true, false, false, true, true, false, false, true, true, false, false] Try.f19) st) := GE.region_step (id := 8) (GE.reg_of (by kernel_rfl)) (by kernel_rfl)
theorem n19_32s : codeB Try.prog LL ⟨19, 22, b, ro⟩ n19_32 st = normS b ⟨[2, 3], []⟩ .ret st := GE.ret_step (by kernel_rfl) (by kernel_rfl)
theorem n19_30s : codeB Try.prog E cx n19_30 st = thenS (codeB Try.prog E cx n19_31 st) (codeB Try.prog E cx n19_32) := GE.seq_step (by kernel_rfl)
theorem n19_33s : codeB Try.prog E cx n19_33 st = some (.normal, st) := GE.skip_step (by kernel_rfl)
theorem n19_29s : codeB Try.prog E cx n19_29 st = condS (codeB Try.prog E cx n19_30) (codeB Try.prog E cx n19_33) (lk st.σ 19) st := GE.cond_step (c := .tmp 19) (by kernel_rfl)
theorem n19_27s : codeB Try.prog E cx n19_27 st = thenS (codeB Try.prog E cx n19_28 st) (codeB Try.prog E cx n19_29) := GE.seq_step (by kernel_rfl)
theorem n19_25s : codeB Try.prog E cx n19_25 st = thenS (codeB Try.prog E cx n19_26 st) (codeB Try.prog E cx n19_27) := GE.seq_step (by kernel_rfl)
theorem n19_24s : codeB Try.prog E cx n19_24 st = blockS 1 (codeB Try.prog E cx n19_25 st) st := GE.block_step (by kernel_rfl)
theorem n19_34s : codeB Try.prog E ⟨f, 22, b, ro⟩ n19_34 st = plainS (runOps Try.prog E b q19_34 (ops [true, true, false, true, false, false, true, true, true] Try.f19) st) := GE.region_step (id := 9) (GE.reg_of (by kernel_rfl)) (by kernel_rfl)
theorem n19_23s : codeB Try.prog E cx n19_23 st = thenS (codeB Try.prog E cx n19_24 st) (codeB Try.prog E cx n19_34) := GE.seq_step (by kernel_rfl)
theorem n19_19s : codeB Try.prog E cx n19_19 st = thenS (codeB Try.prog E cx n19_20 st) (codeB Try.prog E cx n19_23) := GE.seq_step (by kernel_rfl)
theorem n19_17s : codeB Try.prog E cx n19_17 st = thenS (codeB Try.prog E cx n19_18 st) (codeB Try.prog E cx n19_19) := GE.seq_step (by kernel_rfl)
theorem n19_16k : LL.kp (⟨19, 22, b, ro⟩ : Cx).fn (4 * rid n19_17 + 3) = some ⟨[0, 13, 14], []⟩ := by kernel_rfl
theorem n19_16s : codeB Try.prog LL ⟨19, 22, b, ro⟩ n19_16 st = headS b ⟨[0, 13, 14], []⟩ st (lpB Try.prog LL ⟨19, 22, b, ro⟩ n19_16 n19_17) := GE.lpB_step (by kernel_rfl) (n19_16k b ro)
theorem n19_16g : LL.code ⟨19, 22, b, ro⟩ n19_16 st = headS b ⟨[0, 13, 14], []⟩ st (lpB Try.prog LL ⟨19, 22, b, ro⟩ n19_16 n19_17) := GE.lpB_again (by kernel_rfl) (n19_16k b ro)
theorem n19_15s : codeB Try.prog E cx n19_15 st = blockS 0 (codeB Try.prog E cx n19_16 st) st := GE.block_step (by kernel_rfl)
theorem n19_13s : codeB Try.prog E cx n19_13 st = thenS (codeB Try.prog E cx n19_14 st) (codeB Try.prog E cx n19_15) := GE.seq_step (by kernel_rfl)
theorem n19_36s : codeB Try.prog E ⟨f, 22, b, ro⟩ n19_36 st = plainS (runOps Try.prog E b q19_36 (ops [true, true, true, false] Try.f19) st) := GE.region_step (id := 10) (GE.reg_of (by kernel_rfl)) (by kernel_rfl)
theorem n19_37s : codeB Try.prog LL ⟨19, 22, b, ro⟩ n19_37 st = normS b ⟨[2, 3], []⟩ .ret st := GE.ret_step (by kernel_rfl) (by kernel_rfl)
theorem n19_35s : codeB Try.prog E cx n19_35 st = thenS (codeB Try.prog E cx n19_36 st) (codeB Try.prog E cx n19_37) := GE.seq_step (by kernel_rfl)
theorem n19_12s : codeB Try.prog E cx n19_12 st = thenS (codeB Try.prog E cx n19_13 st) (codeB Try.prog E cx n19_35) := GE.seq_step (by kernel_rfl)
theorem n19_2s : codeB Try.prog E cx n19_2 st = thenS (codeB Try.prog E cx n19_3 st) (codeB Try.prog E cx n19_12) := GE.seq_step (by kernel_rfl)
theorem n19_0s : codeB Try.prog E cx n19_0 st = thenS (codeB Try.prog E cx n19_1 st) (codeB Try.prog E cx n19_2) := GE.seq_step (by kernel_rfl)
noncomputable def n22_0 : Code := bodyOf Try.f22
noncomputable def n22_1 : Code := cl n22_0
noncomputable def q22_1 : List Oper := opsOf n22_1
noncomputable def n22_2 : Code := cr n22_0
noncomputable def n22_3 : Code := cl n22_2
noncomputable def n22_4 : Code := cl n22_3
noncomputable def n22_5 : Code := cl n22_4
noncomputable def q22_5 : List Oper := opsOf n22_5
noncomputable def n22_6 : Code := cr n22_4
noncomputable def n22_7 : Code := cl n22_6
noncomputable def n22_8 : Code := cl n22_7
noncomputable def q22_8 : List Oper := opsOf n22_8
noncomputable def n22_9 : Code := cr n22_7
noncomputable def n22_10 : Code := cr n22_6
noncomputable def n22_11 : Code := cl n22_10
noncomputable def q22_11 : List Oper := opsOf n22_11
noncomputable def n22_12 : Code := cr n22_10
noncomputable def n22_13 : Code := cl n22_12
noncomputable def n22_14 : Code := cl n22_13
noncomputable def q22_14 : List Oper := opsOf n22_14
noncomputable def n22_15 : Code := cr n22_13
noncomputable def n22_16 : Code := cr n22_12
noncomputable def n22_17 : Code := cl n22_16
noncomputable def q22_17 : List Oper := opsOf n22_17
noncomputable def n22_18 : Code := cr n22_16
noncomputable def n22_19 : Code := cl n22_18
noncomputable def n22_20 : Code := cl n22_19
noncomputable def q22_20 : List Oper := opsOf n22_20
noncomputable def n22_21 : Code := cr n22_19
noncomputable def n22_22 : Code := cr n22_18
noncomputable def n22_23 : Code := cr n22_2
noncomputable def n22_24 : Code := cl n22_23
noncomputable def q22_24 : List Oper := opsOf n22_24
noncomputable def n22_25 : Code := cr n22_23
theorem body22 : Try.f22.body = some n22_0 := by kernel_rfl
theorem run22 (E : Ev) (args : List Value) (h : List Blk) (hl : args.length ≤ 14) : runB Try.prog E 22 args h = endS Try.prog [.tmp 2] h.length (codeB Try.prog E ⟨22, 14, h.length, none⟩ n22_0 ⟨enumT 0 args, h, []⟩) := GE.run_step Try.func22 body22 (by kernel_rfl) (by decide) (by kernel_rfl) hl
theorem n22_1s : codeB Try.prog E ⟨f, 14, b, ro⟩ n22_1 st = plainS (runOps Try.prog E b q22_1 (ops [false] Try.f22) st) := GE.region_step (id := 0) (GE.reg_of (by kernel_rfl)) (by kernel_rfl)
theorem n22_5s : codeB Try.prog E ⟨f, 14, b, ro⟩ n22_5 st = plainS (runOps Try.prog E b q22_5 (ops [true, false, false, false] Try.f22) st) := GE.region_step (id := 1) (GE.reg_of (by kernel_rfl)) (by kernel_rfl)
theorem n22_8s : codeB Try.prog E ⟨f, 14, b, ro⟩ n22_8 st = plainS (runOps Try.prog E b q22_8 (ops [true, false, false, true, false, false] Try.f22) st) := GE.region_step (id := 2) (GE.reg_of (by kernel_rfl)) (by kernel_rfl)
theorem n22_9s : codeB Try.prog LL ⟨22, 14, b, ro⟩ n22_9 st = normS b ⟨[2], []⟩ .ret st := GE.ret_step (by kernel_rfl) (by kernel_rfl)
theorem n22_7s : codeB Try.prog E cx n22_7 st = thenS (codeB Try.prog E cx n22_8 st) (codeB Try.prog E cx n22_9) := GE.seq_step (by kernel_rfl)
theorem n22_11s : codeB Try.prog E ⟨f, 14, b, ro⟩ n22_11 st = plainS (runOps Try.prog E b q22_11 (ops [true, false, false, true, true, false] Try.f22) st) := GE.region_step (id := 3) (GE.reg_of (by kernel_rfl)) (by kernel_rfl)
theorem n22_14s : codeB Try.prog E ⟨f, 14, b, ro⟩ n22_14 st = plainS (runOps Try.prog E b q22_14 (ops [true, false, false, true, true, true, false, false] Try.f22) st) := GE.region_step (id := 4) (GE.reg_of (by kernel_rfl)) (by kernel_rfl)
theorem n22_15s : codeB Try.prog LL ⟨22, 14, b, ro⟩ n22_15 st = normS b ⟨[2], []⟩ .ret st := GE.ret_step (by kernel_rfl) (by kernel_rfl)
theorem n22_13s : codeB Try.prog E cx n22_13 st = thenS (codeB Try.prog E cx n22_14 st) (codeB Try.prog E cx n22_15) := GE.seq_step (by kernel_rfl)
theorem n22_17s : codeB Try.prog E ⟨f, 14, b, ro⟩ n22_17 st = plainS (runOps Try.prog E b q22_17 (ops [true, false, false, true, true, true, true, false] Try.f22) st) := GE.region_step (id := 5) (GE.reg_of (by kernel_rfl)) (by kernel_rfl)
theorem n22_20s : codeB Try.prog E ⟨f, 14, b, ro⟩ n22_20 st = plainS (runOps Try.prog E b q22_20 (ops [true, false, false, true, true, true, true, true, false, false] Try.f22) st) := GE.region_step (id := 6) (GE.reg_of (by kernel_rfl)) (by kernel_rfl)
theorem n22_21s : codeB Try.prog LL ⟨22, 14, b, ro⟩ n22_21 st = normS b ⟨[2], []⟩ .ret st := GE.ret_step (by kernel_rfl) (by kernel_rfl)
theorem n22_19s : codeB Try.prog E cx n22_19 st = thenS (codeB Try.prog E cx n22_20 st) (codeB Try.prog E cx n22_21) := GE.seq_step (by kernel_rfl)
theorem n22_22s : codeB Try.prog E cx n22_22 st = some (.normal, st) := GE.skip_step (by kernel_rfl)
theorem n22_18s : codeB Try.prog E cx n22_18 st = condS (codeB Try.prog E cx n22_19) (codeB Try.prog E cx n22_22) (lk st.σ 10) st := GE.cond_step (c := .tmp 10) (by kernel_rfl)
theorem n22_16s : codeB Try.prog E cx n22_16 st = thenS (codeB Try.prog E cx n22_17 st) (codeB Try.prog E cx n22_18) := GE.seq_step (by kernel_rfl)
theorem n22_12s : codeB Try.prog E cx n22_12 st = condS (codeB Try.prog E cx n22_13) (codeB Try.prog E cx n22_16) (lk st.σ 6) st := GE.cond_step (c := .tmp 6) (by kernel_rfl)
theorem n22_10s : codeB Try.prog E cx n22_10 st = thenS (codeB Try.prog E cx n22_11 st) (codeB Try.prog E cx n22_12) := GE.seq_step (by kernel_rfl)
theorem n22_6s : codeB Try.prog E cx n22_6 st = condS (codeB Try.prog E cx n22_7) (codeB Try.prog E cx n22_10) (lk st.σ 3) st := GE.cond_step (c := .tmp 3) (by kernel_rfl)
theorem n22_4s : codeB Try.prog E cx n22_4 st = thenS (codeB Try.prog E cx n22_5 st) (codeB Try.prog E cx n22_6) := GE.seq_step (by kernel_rfl)
theorem n22_3s : codeB Try.prog E cx n22_3 st = blockS 0 (codeB Try.prog E cx n22_4 st) st := GE.block_step (by kernel_rfl)
theorem n22_24s : codeB Try.prog E ⟨f, 14, b, ro⟩ n22_24 st = plainS (runOps Try.prog E b q22_24 (ops [true, true, false] Try.f22) st) := GE.region_step (id := 7) (GE.reg_of (by kernel_rfl)) (by kernel_rfl)
theorem n22_25s : codeB Try.prog LL ⟨22, 14, b, ro⟩ n22_25 st = normS b ⟨[2], []⟩ .ret st := GE.ret_step (by kernel_rfl) (by kernel_rfl)
theorem n22_23s : codeB Try.prog E cx n22_23 st = thenS (codeB Try.prog E cx n22_24 st) (codeB Try.prog E cx n22_25) := GE.seq_step (by kernel_rfl)
theorem n22_2s : codeB Try.prog E cx n22_2 st = thenS (codeB Try.prog E cx n22_3 st) (codeB Try.prog E cx n22_23) := GE.seq_step (by kernel_rfl)
theorem n22_0s : codeB Try.prog E cx n22_0 st = thenS (codeB Try.prog E cx n22_1 st) (codeB Try.prog E cx n22_2) := GE.seq_step (by kernel_rfl)
noncomputable def n33_0 : Code := bodyOf Try.f33
noncomputable def n33_1 : Code := cl n33_0
noncomputable def q33_1 : List Oper := opsOf n33_1
noncomputable def n33_2 : Code := cr n33_0
noncomputable def n33_3 : Code := cl n33_2
noncomputable def q33_3 : List Oper := opsOf n33_3
noncomputable def n33_4 : Code := cr n33_2
noncomputable def n33_5 : Code := cl n33_4
noncomputable def q33_5 : List Oper := opsOf n33_5
noncomputable def n33_6 : Code := cr n33_4
noncomputable def n33_7 : Code := cl n33_6
noncomputable def n33_8 : Code := cl n33_7
noncomputable def q33_8 : List Oper := opsOf n33_8
noncomputable def n33_9 : Code := cr n33_7
noncomputable def n33_10 : Code := cl n33_9
noncomputable def n33_11 : Code := cl n33_10
noncomputable def n33_12 : Code := cl n33_11
noncomputable def q33_12 : List Oper := opsOf n33_12
noncomputable def n33_13 : Code := cr n33_11
noncomputable def n33_14 : Code := cl n33_13
noncomputable def n33_15 : Code := cl n33_14
noncomputable def n33_16 : Code := cr n33_14
noncomputable def n33_17 : Code := cr n33_13
noncomputable def n33_18 : Code := cl n33_17
noncomputable def n33_19 : Code := cl n33_18
noncomputable def n33_20 : Code := cl n33_19
noncomputable def q33_20 : List Oper := opsOf n33_20
noncomputable def n33_21 : Code := cr n33_19
noncomputable def q33_21 : List Oper := opsOf n33_21
noncomputable def n33_22 : Code := cr n33_17
noncomputable def q33_22 : List Oper := opsOf n33_22
noncomputable def n33_23 : Code := cr n33_6
noncomputable def n33_24 : Code := cl n33_23
noncomputable def q33_24 : List Oper := opsOf n33_24
noncomputable def n33_25 : Code := cr n33_23
theorem body33 : Try.f33.body = some n33_0 := by kernel_rfl
theorem run33 (E : Ev) (args : List Value) (h : List Blk) (hl : args.length ≤ 41) : runB Try.prog E 33 args h = endS Try.prog [.tmp 6] h.length (codeB Try.prog E ⟨33, 41, h.length, none⟩ n33_0 ⟨enumT 0 args, h, []⟩) := GE.run_step Try.func33 body33 (by kernel_rfl) (by decide) (by kernel_rfl) hl
theorem n33_1s : codeB Try.prog E ⟨f, 41, b, ro⟩ n33_1 st = plainS (runOps Try.prog E b q33_1 (ops [false] Try.f33) st) := GE.region_step (id := 0) (GE.reg_of (by kernel_rfl)) (by kernel_rfl)
theorem n33_3s : codeB Try.prog E ⟨f, 41, b, ro⟩ n33_3 st = plainS (runOps Try.prog E b q33_3 (ops [true, false] Try.f33) st) := GE.region_step (id := 1) (GE.reg_of (by kernel_rfl)) (by kernel_rfl)
theorem n33_5s : codeB Try.prog E ⟨f, 41, b, ro⟩ n33_5 st = plainS (runOps Try.prog E b q33_5 (ops [true, true, false] Try.f33) st) := GE.region_step (id := 2) (GE.reg_of (by kernel_rfl)) (by kernel_rfl)
theorem n33_8s : codeB Try.prog E ⟨f, 41, b, ro⟩ n33_8 st = plainS (runOps Try.prog E b q33_8 (ops [true, true, true, false, false] Try.f33) st) := GE.region_step (id := 3) (GE.reg_of (by kernel_rfl)) (by kernel_rfl)
theorem n33_12s : codeB Try.prog E ⟨f, 41, b, ro⟩ n33_12 st = plainS (runOps Try.prog E b q33_12 (ops [true, true, true, false, true, false, false, false] Try.f33) st) := GE.region_step (id := 4) (GE.reg_of (by kernel_rfl)) (by kernel_rfl)
theorem n33_15s : codeB Try.prog E cx n33_15 st = some (.normal, st) := GE.skip_step (by kernel_rfl)
theorem n33_16s : codeB Try.prog LL ⟨33, 41, b, ro⟩ n33_16 st = normS b ⟨[8], [⟨8, 0, 1, true⟩]⟩ (.exit 0) st := GE.exit_step (by kernel_rfl) (by kernel_rfl)
theorem n33_14s : codeB Try.prog E cx n33_14 st = condS (codeB Try.prog E cx n33_15) (codeB Try.prog E cx n33_16) (lk st.σ 25) st := GE.cond_step (c := .tmp 25) (by kernel_rfl)
theorem n33_20s : codeB Try.prog E ⟨f, 41, b, ro⟩ n33_20 st = plainS (runOps Try.prog E b q33_20 (ops [true, true, true, false, true, false, false, true, true, false, false, false] Try.f33) st) := GE.region_step (id := 5) (GE.reg_of (by kernel_rfl)) (by kernel_rfl)
theorem n33_21s : codeB Try.prog E ⟨f, 41, b, ro⟩ n33_21 st = plainS (runOps Try.prog E b q33_21 (ops [true, true, true, false, true, false, false, true, true, false, false, true] Try.f33) st) := GE.region_step (id := 6) (GE.reg_of (by kernel_rfl)) (by kernel_rfl)
theorem n33_19s : codeB Try.prog E cx n33_19 st = thenS (codeB Try.prog E cx n33_20 st) (codeB Try.prog E cx n33_21) := GE.seq_step (by kernel_rfl)
theorem n33_18s : codeB Try.prog E cx n33_18 st = blockS 1 (codeB Try.prog E cx n33_19 st) st := GE.block_step (by kernel_rfl)
theorem n33_22s : codeB Try.prog E ⟨f, 41, b, ro⟩ n33_22 st = plainS (runOps Try.prog E b q33_22 (ops [true, true, true, false, true, false, false, true, true, true] Try.f33) st) := GE.region_step (id := 7) (GE.reg_of (by kernel_rfl)) (by kernel_rfl)
theorem n33_17s : codeB Try.prog E cx n33_17 st = thenS (codeB Try.prog E cx n33_18 st) (codeB Try.prog E cx n33_22) := GE.seq_step (by kernel_rfl)
theorem n33_13s : codeB Try.prog E cx n33_13 st = thenS (codeB Try.prog E cx n33_14 st) (codeB Try.prog E cx n33_17) := GE.seq_step (by kernel_rfl)
theorem n33_11s : codeB Try.prog E cx n33_11 st = thenS (codeB Try.prog E cx n33_12 st) (codeB Try.prog E cx n33_13) := GE.seq_step (by kernel_rfl)
theorem n33_10k : LL.kp (⟨33, 41, b, ro⟩ : Cx).fn (4 * rid n33_11 + 3) = some ⟨[3, 8, 23, 24], [⟨8, 0, 1, true⟩]⟩ := by kernel_rfl
theorem n33_10s : codeB Try.prog LL ⟨33, 41, b, ro⟩ n33_10 st = headS b ⟨[3, 8, 23, 24], [⟨8, 0, 1, true⟩]⟩ st (lpB Try.prog LL ⟨33, 41, b, ro⟩ n33_10 n33_11) := GE.lpB_step (by kernel_rfl) (n33_10k b ro)
theorem n33_10g : LL.code ⟨33, 41, b, ro⟩ n33_10 st = headS b ⟨[3, 8, 23, 24], [⟨8, 0, 1, true⟩]⟩ st (lpB Try.prog LL ⟨33, 41, b, ro⟩ n33_10 n33_11) := GE.lpB_again (by kernel_rfl) (n33_10k b ro)
theorem n33_9s : codeB Try.prog E cx n33_9 st = blockS 0 (codeB Try.prog E cx n33_10 st) st := GE.block_step (by kernel_rfl)
theorem n33_7s : codeB Try.prog E cx n33_7 st = thenS (codeB Try.prog E cx n33_8 st) (codeB Try.prog E cx n33_9) := GE.seq_step (by kernel_rfl)
theorem n33_24s : codeB Try.prog E ⟨f, 41, b, ro⟩ n33_24 st = plainS (runOps Try.prog E b q33_24 (ops [true, true, true, true, false] Try.f33) st) := GE.region_step (id := 8) (GE.reg_of (by kernel_rfl)) (by kernel_rfl)
theorem n33_25s : codeB Try.prog LL ⟨33, 41, b, ro⟩ n33_25 st = normS b ⟨[6], []⟩ .ret st := GE.ret_step (by kernel_rfl) (by kernel_rfl)
theorem n33_23s : codeB Try.prog E cx n33_23 st = thenS (codeB Try.prog E cx n33_24 st) (codeB Try.prog E cx n33_25) := GE.seq_step (by kernel_rfl)
theorem n33_6s : codeB Try.prog E cx n33_6 st = thenS (codeB Try.prog E cx n33_7 st) (codeB Try.prog E cx n33_23) := GE.seq_step (by kernel_rfl)
theorem n33_4s : codeB Try.prog E cx n33_4 st = thenS (codeB Try.prog E cx n33_5 st) (codeB Try.prog E cx n33_6) := GE.seq_step (by kernel_rfl)
theorem n33_2s : codeB Try.prog E cx n33_2 st = thenS (codeB Try.prog E cx n33_3 st) (codeB Try.prog E cx n33_4) := GE.seq_step (by kernel_rfl)
theorem n33_0s : codeB Try.prog E cx n33_0 st = thenS (codeB Try.prog E cx n33_1 st) (codeB Try.prog E cx n33_2) := GE.seq_step (by kernel_rfl)
noncomputable def n35_0 : Code := bodyOf Try.f35
noncomputable def n35_1 : Code := cl n35_0
noncomputable def q35_1 : List Oper := opsOf n35_1
noncomputable def n35_2 : Code := cr n35_0
noncomputable def n35_3 : Code := cl n35_2
noncomputable def q35_3 : List Oper := opsOf n35_3
noncomputable def n35_4 : Code := cr n35_2
theorem body35 : Try.f35.body = some n35_0 := by kernel_rfl
theorem run35 (E : Ev) (args : List Value) (h : List Blk) (hl : args.length ≤ 12) : runB Try.prog E 35 args h = endS Try.prog [.tmp 4] h.length (codeB Try.prog E ⟨35, 12, h.length, none⟩ n35_0 ⟨enumT 0 args, h, []⟩) := GE.run_step Try.func35 body35 (by kernel_rfl) (by decide) (by kernel_rfl) hl
theorem n35_1s : codeB Try.prog E ⟨f, 12, b, ro⟩ n35_1 st = plainS (runOps Try.prog E b q35_1 (ops [false] Try.f35) st) := GE.region_step (id := 0) (GE.reg_of (by kernel_rfl)) (by kernel_rfl)
theorem n35_3s : codeB Try.prog E ⟨f, 12, b, ro⟩ n35_3 st = drawS [0, 0, 3, 0, 0, 24, 63, 127] (runOpsF Try.prog E b q35_3 (ops [true, false] Try.f35) st) := GE.draw_step (id := 1) (GE.reg_of (by kernel_rfl)) (by kernel_rfl) (by kernel_rfl) (by kernel_rfl)
theorem n35_4s : codeB Try.prog LL ⟨35, 12, b, ro⟩ n35_4 st = normS b ⟨[4], []⟩ .ret st := GE.ret_step (by kernel_rfl) (by kernel_rfl)
theorem n35_2s : codeB Try.prog E cx n35_2 st = thenS (codeB Try.prog E cx n35_3 st) (codeB Try.prog E cx n35_4) := GE.seq_step (by kernel_rfl)
theorem n35_0s : codeB Try.prog E cx n35_0 st = thenS (codeB Try.prog E cx n35_1 st) (codeB Try.prog E cx n35_2) := GE.seq_step (by kernel_rfl)
noncomputable def n36_0 : Code := bodyOf Try.f36
noncomputable def n36_1 : Code := cl n36_0
noncomputable def q36_1 : List Oper := opsOf n36_1
noncomputable def n36_2 : Code := cr n36_0
noncomputable def n36_3 : Code := cl n36_2
noncomputable def q36_3 : List Oper := opsOf n36_3
noncomputable def n36_4 : Code := cr n36_2
noncomputable def n36_5 : Code := cl n36_4
noncomputable def n36_6 : Code := cl n36_5
noncomputable def q36_6 : List Oper := opsOf n36_6
noncomputable def n36_7 : Code := cr n36_5
noncomputable def n36_8 : Code := cl n36_7
noncomputable def n36_9 : Code := cl n36_8
noncomputable def n36_10 : Code := cl n36_9
noncomputable def q36_10 : List Oper := opsOf n36_10
noncomputable def n36_11 : Code := cr n36_9
noncomputable def n36_12 : Code := cl n36_11
noncomputable def n36_13 : Code := cl n36_12
noncomputable def n36_14 : Code := cr n36_12
noncomputable def n36_15 : Code := cr n36_11
noncomputable def n36_16 : Code := cl n36_15
noncomputable def n36_17 : Code := cl n36_16
noncomputable def n36_18 : Code := cl n36_17
noncomputable def q36_18 : List Oper := opsOf n36_18
noncomputable def n36_19 : Code := cr n36_17
noncomputable def q36_19 : List Oper := opsOf n36_19
noncomputable def n36_20 : Code := cr n36_15
noncomputable def q36_20 : List Oper := opsOf n36_20
noncomputable def n36_21 : Code := cr n36_4
noncomputable def n36_22 : Code := cl n36_21
noncomputable def q36_22 : List Oper := opsOf n36_22
noncomputable def n36_23 : Code := cr n36_21
theorem body36 : Try.f36.body = some n36_0 := by kernel_rfl
theorem run36 (E : Ev) (args : List Value) (h : List Blk) (hl : args.length ≤ 21) : runB Try.prog E 36 args h = endS Try.prog [.tmp 2] h.length (codeB Try.prog E ⟨36, 21, h.length, none⟩ n36_0 ⟨enumT 0 args, h, []⟩) := GE.run_step Try.func36 body36 (by kernel_rfl) (by decide) (by kernel_rfl) hl
theorem n36_1s : codeB Try.prog E ⟨f, 21, b, ro⟩ n36_1 st = plainS (runOps Try.prog E b q36_1 (ops [false] Try.f36) st) := GE.region_step (id := 0) (GE.reg_of (by kernel_rfl)) (by kernel_rfl)
theorem n36_3s : codeB Try.prog E ⟨f, 21, b, ro⟩ n36_3 st = plainS (runOps Try.prog E b q36_3 (ops [true, false] Try.f36) st) := GE.region_step (id := 1) (GE.reg_of (by kernel_rfl)) (by kernel_rfl)
theorem n36_6s : codeB Try.prog E ⟨f, 21, b, ro⟩ n36_6 st = plainS (runOps Try.prog E b q36_6 (ops [true, true, false, false] Try.f36) st) := GE.region_step (id := 2) (GE.reg_of (by kernel_rfl)) (by kernel_rfl)
theorem n36_10s : codeB Try.prog E ⟨f, 21, b, ro⟩ n36_10 st = plainS (runOps Try.prog E b q36_10 (ops [true, true, false, true, false, false, false] Try.f36) st) := GE.region_step (id := 3) (GE.reg_of (by kernel_rfl)) (by kernel_rfl)
theorem n36_13s : codeB Try.prog E cx n36_13 st = some (.normal, st) := GE.skip_step (by kernel_rfl)
theorem n36_14s : codeB Try.prog LL ⟨36, 21, b, ro⟩ n36_14 st = normS b ⟨[0, 3], [⟨0, 0, 1, true⟩]⟩ (.exit 0) st := GE.exit_step (by kernel_rfl) (by kernel_rfl)
theorem n36_12s : codeB Try.prog E cx n36_12 st = condS (codeB Try.prog E cx n36_13) (codeB Try.prog E cx n36_14) (lk st.σ 10) st := GE.cond_step (c := .tmp 10) (by kernel_rfl)
theorem n36_18s : codeB Try.prog E ⟨f, 21, b, ro⟩ n36_18 st = plainS (runOps Try.prog E b q36_18 (ops [true, true, false, true, false, false, true, true, false, false, false] Try.f36) st) := GE.region_step (id := 4) (GE.reg_of (by kernel_rfl)) (by kernel_rfl)
theorem n36_19s : codeB Try.prog E ⟨f, 21, b, ro⟩ n36_19 st = plainS (runOps Try.prog E b q36_19 (ops [true, true, false, true, false, false, true, true, false, false, true] Try.f36) st) := GE.region_step (id := 5) (GE.reg_of (by kernel_rfl)) (by kernel_rfl)
theorem n36_17s : codeB Try.prog E cx n36_17 st = thenS (codeB Try.prog E cx n36_18 st) (codeB Try.prog E cx n36_19) := GE.seq_step (by kernel_rfl)
theorem n36_16s : codeB Try.prog E cx n36_16 st = blockS 1 (codeB Try.prog E cx n36_17 st) st := GE.block_step (by kernel_rfl)
theorem n36_20s : codeB Try.prog E ⟨f, 21, b, ro⟩ n36_20 st = plainS (runOps Try.prog E b q36_20 (ops [true, true, false, true, false, false, true, true, true] Try.f36) st) := GE.region_step (id := 6) (GE.reg_of (by kernel_rfl)) (by kernel_rfl)
theorem n36_15s : codeB Try.prog E cx n36_15 st = thenS (codeB Try.prog E cx n36_16 st) (codeB Try.prog E cx n36_20) := GE.seq_step (by kernel_rfl)
theorem n36_11s : codeB Try.prog E cx n36_11 st = thenS (codeB Try.prog E cx n36_12 st) (codeB Try.prog E cx n36_15) := GE.seq_step (by kernel_rfl)
theorem n36_9s : codeB Try.prog E cx n36_9 st = thenS (codeB Try.prog E cx n36_10 st) (codeB Try.prog E cx n36_11) := GE.seq_step (by kernel_rfl)
theorem n36_8k : LL.kp (⟨36, 21, b, ro⟩ : Cx).fn (4 * rid n36_9 + 3) = some ⟨[0, 3, 7, 8, 9], [⟨0, 0, 1, true⟩, ⟨7, 0, 1, true⟩]⟩ := by kernel_rfl
theorem n36_8s : codeB Try.prog LL ⟨36, 21, b, ro⟩ n36_8 st = headS b ⟨[0, 3, 7, 8, 9], [⟨0, 0, 1, true⟩, ⟨7, 0, 1, true⟩]⟩ st (lpB Try.prog LL ⟨36, 21, b, ro⟩ n36_8 n36_9) := GE.lpB_step (by kernel_rfl) (n36_8k b ro)
theorem n36_8g : LL.code ⟨36, 21, b, ro⟩ n36_8 st = headS b ⟨[0, 3, 7, 8, 9], [⟨0, 0, 1, true⟩, ⟨7, 0, 1, true⟩]⟩ st (lpB Try.prog LL ⟨36, 21, b, ro⟩ n36_8 n36_9) := GE.lpB_again (by kernel_rfl) (n36_8k b ro)
theorem n36_7s : codeB Try.prog E cx n36_7 st = blockS 0 (codeB Try.prog E cx n36_8 st) st := GE.block_step (by kernel_rfl)
theorem n36_5s : codeB Try.prog E cx n36_5 st = thenS (codeB Try.prog E cx n36_6 st) (codeB Try.prog E cx n36_7) := GE.seq_step (by kernel_rfl)
theorem n36_22s : codeB Try.prog E ⟨f, 21, b, ro⟩ n36_22 st = plainS (runOps Try.prog E b q36_22 (ops [true, true, true, false] Try.f36) st) := GE.region_step (id := 7) (GE.reg_of (by kernel_rfl)) (by kernel_rfl)
theorem n36_23s : codeB Try.prog LL ⟨36, 21, b, ro⟩ n36_23 st = normS b ⟨[2], []⟩ .ret st := GE.ret_step (by kernel_rfl) (by kernel_rfl)
theorem n36_21s : codeB Try.prog E cx n36_21 st = thenS (codeB Try.prog E cx n36_22 st) (codeB Try.prog E cx n36_23) := GE.seq_step (by kernel_rfl)
theorem n36_4s : codeB Try.prog E cx n36_4 st = thenS (codeB Try.prog E cx n36_5 st) (codeB Try.prog E cx n36_21) := GE.seq_step (by kernel_rfl)
theorem n36_2s : codeB Try.prog E cx n36_2 st = thenS (codeB Try.prog E cx n36_3 st) (codeB Try.prog E cx n36_4) := GE.seq_step (by kernel_rfl)
theorem n36_0s : codeB Try.prog E cx n36_0 st = thenS (codeB Try.prog E cx n36_1 st) (codeB Try.prog E cx n36_2) := GE.seq_step (by kernel_rfl)
noncomputable def n37_0 : Code := bodyOf Try.f37
noncomputable def n37_1 : Code := cl n37_0
noncomputable def q37_1 : List Oper := opsOf n37_1
noncomputable def n37_2 : Code := cr n37_0
noncomputable def n37_3 : Code := cl n37_2
noncomputable def q37_3 : List Oper := opsOf n37_3
noncomputable def n37_4 : Code := cr n37_2
noncomputable def n37_5 : Code := cl n37_4
noncomputable def n37_6 : Code := cl n37_5
noncomputable def n37_7 : Code := cl n37_6
noncomputable def n37_8 : Code := cl n37_7
noncomputable def n37_9 : Code := cl n37_8
noncomputable def q37_9 : List Oper := opsOf n37_9
noncomputable def n37_10 : Code := cr n37_8
noncomputable def n37_11 : Code := cl n37_10
noncomputable def n37_12 : Code := cr n37_10
noncomputable def n37_13 : Code := cr n37_7
noncomputable def n37_14 : Code := cl n37_13
noncomputable def q37_14 : List Oper := opsOf n37_14
noncomputable def n37_15 : Code := cr n37_4
noncomputable def n37_16 : Code := cl n37_15
noncomputable def q37_16 : List Oper := opsOf n37_16
noncomputable def n37_17 : Code := cr n37_15
noncomputable def n37_18 : Code := cl n37_17
noncomputable def n37_19 : Code := cl n37_18
noncomputable def q37_19 : List Oper := opsOf n37_19
noncomputable def n37_20 : Code := cr n37_18
noncomputable def n37_21 : Code := cl n37_20
noncomputable def n37_22 : Code := cl n37_21
noncomputable def n37_23 : Code := cl n37_22
noncomputable def q37_23 : List Oper := opsOf n37_23
noncomputable def n37_24 : Code := cr n37_22
noncomputable def n37_25 : Code := cl n37_24
noncomputable def n37_26 : Code := cl n37_25
noncomputable def n37_27 : Code := cr n37_25
noncomputable def n37_28 : Code := cr n37_24
noncomputable def n37_29 : Code := cl n37_28
noncomputable def n37_30 : Code := cl n37_29
noncomputable def q37_30 : List Oper := opsOf n37_30
noncomputable def n37_31 : Code := cr n37_29
noncomputable def q37_31 : List Oper := opsOf n37_31
noncomputable def n37_32 : Code := cr n37_17
noncomputable def n37_33 : Code := cl n37_32
noncomputable def q37_33 : List Oper := opsOf n37_33
noncomputable def n37_34 : Code := cr n37_32
theorem body37 : Try.f37.body = some n37_0 := by kernel_rfl
theorem run37 (E : Ev) (args : List Value) (h : List Blk) (hl : args.length ≤ 34) : runB Try.prog E 37 args h = endS Try.prog [.tmp 4] h.length (codeB Try.prog E ⟨37, 34, h.length, none⟩ n37_0 ⟨enumT 0 args, h, []⟩) := GE.run_step Try.func37 body37 (by kernel_rfl) (by decide) (by kernel_rfl) hl
theorem n37_1s : codeB Try.prog E ⟨f, 34, b, ro⟩ n37_1 st = plainS (runOps Try.prog E b q37_1 (ops [false] Try.f37) st) := GE.region_step (id := 0) (GE.reg_of (by kernel_rfl)) (by kernel_rfl)
theorem n37_3s : codeB Try.prog E ⟨f, 34, b, ro⟩ n37_3 st = plainS (runOps Try.prog E b q37_3 (ops [true, false] Try.f37) st) := GE.region_step (id := 1) (GE.reg_of (by kernel_rfl)) (by kernel_rfl)
theorem n37_9s : codeB Try.prog E ⟨f, 34, b, ro⟩ n37_9 st = plainS (runOps Try.prog E b q37_9 (ops [true, true, false, false, false, false, false] Try.f37) st) := GE.region_step (id := 2) (GE.reg_of (by kernel_rfl)) (by kernel_rfl)
theorem n37_11s : codeB Try.prog E cx n37_11 st = some (.normal, st) := GE.skip_step (by kernel_rfl)
theorem n37_12s : codeB Try.prog LL ⟨37, 34, b, ro⟩ n37_12 st = normS b ⟨[0, 1, 5], []⟩ (.exit 0) st := GE.exit_step (by kernel_rfl) (by kernel_rfl)
theorem n37_10s : codeB Try.prog E cx n37_10 st = condS (codeB Try.prog E cx n37_11) (codeB Try.prog E cx n37_12) (lk st.σ 15) st := GE.cond_step (c := .tmp 15) (by kernel_rfl)
theorem n37_8s : codeB Try.prog E cx n37_8 st = thenS (codeB Try.prog E cx n37_9 st) (codeB Try.prog E cx n37_10) := GE.seq_step (by kernel_rfl)
theorem n37_14s : codeB Try.prog E ⟨f, 34, b, ro⟩ n37_14 st = plainS (runOps Try.prog E b q37_14 (ops [true, true, false, false, false, true, false] Try.f37) st) := GE.region_step (id := 3) (GE.reg_of (by kernel_rfl)) (by kernel_rfl)
theorem n37_13s : codeB Try.prog E cx n37_13 st = blockS 1 (codeB Try.prog E cx n37_14 st) st := GE.block_step (by kernel_rfl)
theorem n37_7s : codeB Try.prog E cx n37_7 st = thenS (codeB Try.prog E cx n37_8 st) (codeB Try.prog E cx n37_13) := GE.seq_step (by kernel_rfl)
theorem n37_6k : LL.kp (⟨37, 34, b, ro⟩ : Cx).fn (4 * rid n37_7 + 3) = some ⟨[0, 1, 5], []⟩ := by kernel_rfl
theorem n37_6s : codeB Try.prog LL ⟨37, 34, b, ro⟩ n37_6 st = headS b ⟨[0, 1, 5], []⟩ st (lpB Try.prog LL ⟨37, 34, b, ro⟩ n37_6 n37_7) := GE.lpB_step (by kernel_rfl) (n37_6k b ro)
theorem n37_6g : LL.code ⟨37, 34, b, ro⟩ n37_6 st = headS b ⟨[0, 1, 5], []⟩ st (lpB Try.prog LL ⟨37, 34, b, ro⟩ n37_6 n37_7) := GE.lpB_again (by kernel_rfl) (n37_6k b ro)
theorem n37_5s : codeB Try.prog E cx n37_5 st = blockS 0 (codeB Try.prog E cx n37_6 st) st := GE.block_step (by kernel_rfl)
theorem n37_16s : codeB Try.prog E ⟨f, 34, b, ro⟩ n37_16 st = plainS (runOps Try.prog E b q37_16 (ops [true, true, true, false] Try.f37) st) := GE.region_step (id := 4) (GE.reg_of (by kernel_rfl)) (by kernel_rfl)
theorem n37_19s : codeB Try.prog E ⟨f, 34, b, ro⟩ n37_19 st = plainS (runOps Try.prog E b q37_19 (ops [true, true, true, true, false, false] Try.f37) st) := GE.region_step (id := 5) (GE.reg_of (by kernel_rfl)) (by kernel_rfl)
theorem n37_23s : codeB Try.prog E ⟨f, 34, b, ro⟩ n37_23 st = plainS (runOps Try.prog E b q37_23 (ops [true, true, true, true, false, true, false, false, false] Try.f37) st) := GE.region_step (id := 6) (GE.reg_of (by kernel_rfl)) (by kernel_rfl)
theorem n37_26s : codeB Try.prog E cx n37_26 st = some (.normal, st) := GE.skip_step (by kernel_rfl)
theorem n37_27s : codeB Try.prog LL ⟨37, 34, b, ro⟩ n37_27 st = normS b ⟨[6], [⟨6, 0, 1, true⟩]⟩ (.exit 2) st := GE.exit_step (by kernel_rfl) (by kernel_rfl)
theorem n37_25s : codeB Try.prog E cx n37_25 st = condS (codeB Try.prog E cx n37_26) (codeB Try.prog E cx n37_27) (lk st.σ 22) st := GE.cond_step (c := .tmp 22) (by kernel_rfl)
theorem n37_30s : codeB Try.prog E ⟨f, 34, b, ro⟩ n37_30 st = plainS (runOps Try.prog E b q37_30 (ops [true, true, true, true, false, true, false, false, true, true, false, false] Try.f37) st) := GE.region_step (id := 7) (GE.reg_of (by kernel_rfl)) (by kernel_rfl)
theorem n37_31s : codeB Try.prog E ⟨f, 34, b, ro⟩ n37_31 st = plainS (runOps Try.prog E b q37_31 (ops [true, true, true, true, false, true, false, false, true, true, false, true] Try.f37) st) := GE.region_step (id := 8) (GE.reg_of (by kernel_rfl)) (by kernel_rfl)
theorem n37_29s : codeB Try.prog E cx n37_29 st = thenS (codeB Try.prog E cx n37_30 st) (codeB Try.prog E cx n37_31) := GE.seq_step (by kernel_rfl)
theorem n37_28s : codeB Try.prog E cx n37_28 st = blockS 3 (codeB Try.prog E cx n37_29 st) st := GE.block_step (by kernel_rfl)
theorem n37_24s : codeB Try.prog E cx n37_24 st = thenS (codeB Try.prog E cx n37_25 st) (codeB Try.prog E cx n37_28) := GE.seq_step (by kernel_rfl)
theorem n37_22s : codeB Try.prog E cx n37_22 st = thenS (codeB Try.prog E cx n37_23 st) (codeB Try.prog E cx n37_24) := GE.seq_step (by kernel_rfl)
theorem n37_21k : LL.kp (⟨37, 34, b, ro⟩ : Cx).fn (4 * rid n37_22 + 3) = some ⟨[1, 5, 6, 20], [⟨6, 0, 1, true⟩]⟩ := by kernel_rfl
theorem n37_21s : codeB Try.prog LL ⟨37, 34, b, ro⟩ n37_21 st = headS b ⟨[1, 5, 6, 20], [⟨6, 0, 1, true⟩]⟩ st (lpB Try.prog LL ⟨37, 34, b, ro⟩ n37_21 n37_22) := GE.lpB_step (by kernel_rfl) (n37_21k b ro)
theorem n37_21g : LL.code ⟨37, 34, b, ro⟩ n37_21 st = headS b ⟨[1, 5, 6, 20], [⟨6, 0, 1, true⟩]⟩ st (lpB Try.prog LL ⟨37, 34, b, ro⟩ n37_21 n37_22) := GE.lpB_again (by kernel_rfl) (n37_21k b ro)
theorem n37_20s : codeB Try.prog E cx n37_20 st = blockS 2 (codeB Try.prog E cx n37_21 st) st := GE.block_step (by kernel_rfl)
theorem n37_18s : codeB Try.prog E cx n37_18 st = thenS (codeB Try.prog E cx n37_19 st) (codeB Try.prog E cx n37_20) := GE.seq_step (by kernel_rfl)
theorem n37_33s : codeB Try.prog E ⟨f, 34, b, ro⟩ n37_33 st = plainS (runOps Try.prog E b q37_33 (ops [true, true, true, true, true, false] Try.f37) st) := GE.region_step (id := 9) (GE.reg_of (by kernel_rfl)) (by kernel_rfl)
theorem n37_34s : codeB Try.prog LL ⟨37, 34, b, ro⟩ n37_34 st = normS b ⟨[4], [⟨4, 0, 1, true⟩]⟩ .ret st := GE.ret_step (by kernel_rfl) (by kernel_rfl)
theorem n37_32s : codeB Try.prog E cx n37_32 st = thenS (codeB Try.prog E cx n37_33 st) (codeB Try.prog E cx n37_34) := GE.seq_step (by kernel_rfl)
theorem n37_17s : codeB Try.prog E cx n37_17 st = thenS (codeB Try.prog E cx n37_18 st) (codeB Try.prog E cx n37_32) := GE.seq_step (by kernel_rfl)
theorem n37_15s : codeB Try.prog E cx n37_15 st = thenS (codeB Try.prog E cx n37_16 st) (codeB Try.prog E cx n37_17) := GE.seq_step (by kernel_rfl)
theorem n37_4s : codeB Try.prog E cx n37_4 st = thenS (codeB Try.prog E cx n37_5 st) (codeB Try.prog E cx n37_15) := GE.seq_step (by kernel_rfl)
theorem n37_2s : codeB Try.prog E cx n37_2 st = thenS (codeB Try.prog E cx n37_3 st) (codeB Try.prog E cx n37_4) := GE.seq_step (by kernel_rfl)
theorem n37_0s : codeB Try.prog E cx n37_0 st = thenS (codeB Try.prog E cx n37_1 st) (codeB Try.prog E cx n37_2) := GE.seq_step (by kernel_rfl)
noncomputable def n40_0 : Code := bodyOf Try.f40
noncomputable def n40_1 : Code := cl n40_0
noncomputable def q40_1 : List Oper := opsOf n40_1
noncomputable def n40_2 : Code := cr n40_0
noncomputable def n40_3 : Code := cl n40_2
noncomputable def q40_3 : List Oper := opsOf n40_3
noncomputable def n40_4 : Code := cr n40_2
theorem body40 : Try.f40.body = some n40_0 := by kernel_rfl
theorem run40 (E : Ev) (args : List Value) (h : List Blk) (hl : args.length ≤ 6) : runB Try.prog E 40 args h = endS Try.prog [.tmp 4] h.length (codeB Try.prog E ⟨40, 6, h.length, none⟩ n40_0 ⟨enumT 0 args, h, []⟩) := GE.run_step Try.func40 body40 (by kernel_rfl) (by decide) (by kernel_rfl) hl
theorem n40_1s : codeB Try.prog E ⟨f, 6, b, ro⟩ n40_1 st = plainS (runOps Try.prog E b q40_1 (ops [false] Try.f40) st) := GE.region_step (id := 0) (GE.reg_of (by kernel_rfl)) (by kernel_rfl)
theorem n40_3s : codeB Try.prog E ⟨f, 6, b, ro⟩ n40_3 st = plainS (runOps Try.prog E b q40_3 (ops [true, false] Try.f40) st) := GE.region_step (id := 1) (GE.reg_of (by kernel_rfl)) (by kernel_rfl)
theorem n40_4s : codeB Try.prog LL ⟨40, 6, b, ro⟩ n40_4 st = normS b ⟨[4], []⟩ .ret st := GE.ret_step (by kernel_rfl) (by kernel_rfl)
theorem n40_2s : codeB Try.prog E cx n40_2 st = thenS (codeB Try.prog E cx n40_3 st) (codeB Try.prog E cx n40_4) := GE.seq_step (by kernel_rfl)
theorem n40_0s : codeB Try.prog E cx n40_0 st = thenS (codeB Try.prog E cx n40_1 st) (codeB Try.prog E cx n40_2) := GE.seq_step (by kernel_rfl)
noncomputable def n42_0 : Code := bodyOf Try.f42
noncomputable def n42_1 : Code := cl n42_0
noncomputable def q42_1 : List Oper := opsOf n42_1
noncomputable def n42_2 : Code := cr n42_0
noncomputable def n42_3 : Code := cl n42_2
noncomputable def n42_4 : Code := cl n42_3
noncomputable def q42_4 : List Oper := opsOf n42_4
noncomputable def n42_5 : Code := cr n42_3
noncomputable def n42_6 : Code := cl n42_5
noncomputable def n42_7 : Code := cl n42_6
noncomputable def n42_8 : Code := cl n42_7
noncomputable def q42_8 : List Oper := opsOf n42_8
noncomputable def n42_9 : Code := cr n42_7
noncomputable def n42_10 : Code := cl n42_9
noncomputable def n42_11 : Code := cl n42_10
noncomputable def n42_12 : Code := cr n42_10
noncomputable def n42_13 : Code := cr n42_9
noncomputable def n42_14 : Code := cl n42_13
noncomputable def n42_15 : Code := cl n42_14
noncomputable def q42_15 : List Oper := opsOf n42_15
noncomputable def n42_16 : Code := cr n42_14
noncomputable def n42_17 : Code := cl n42_16
noncomputable def q42_17 : List Oper := opsOf n42_17
noncomputable def n42_18 : Code := cr n42_16
noncomputable def n42_19 : Code := cl n42_18
noncomputable def n42_20 : Code := cl n42_19
noncomputable def q42_20 : List Oper := opsOf n42_20
noncomputable def n42_21 : Code := cr n42_19
noncomputable def n42_22 : Code := cr n42_18
noncomputable def n42_23 : Code := cr n42_2
noncomputable def n42_24 : Code := cl n42_23
noncomputable def q42_24 : List Oper := opsOf n42_24
noncomputable def n42_25 : Code := cr n42_23
theorem body42 : Try.f42.body = some n42_0 := by kernel_rfl
theorem run42 (E : Ev) (args : List Value) (h : List Blk) (hl : args.length ≤ 16) : runB Try.prog E 42 args h = endS Try.prog [.tmp 4] h.length (codeB Try.prog E ⟨42, 16, h.length, none⟩ n42_0 ⟨enumT 0 args, h, []⟩) := GE.run_step Try.func42 body42 (by kernel_rfl) (by decide) (by kernel_rfl) hl
theorem n42_1s : codeB Try.prog E ⟨f, 16, b, ro⟩ n42_1 st = plainS (runOps Try.prog E b q42_1 (ops [false] Try.f42) st) := GE.region_step (id := 0) (GE.reg_of (by kernel_rfl)) (by kernel_rfl)
theorem n42_4s : codeB Try.prog E ⟨f, 16, b, ro⟩ n42_4 st = plainS (runOps Try.prog E b q42_4 (ops [true, false, false] Try.f42) st) := GE.region_step (id := 1) (GE.reg_of (by kernel_rfl)) (by kernel_rfl)
theorem n42_8s : codeB Try.prog E ⟨f, 16, b, ro⟩ n42_8 st = plainS (runOps Try.prog E b q42_8 (ops [true, false, true, false, false, false] Try.f42) st) := GE.region_step (id := 2) (GE.reg_of (by kernel_rfl)) (by kernel_rfl)
theorem n42_11s : codeB Try.prog E cx n42_11 st = some (.normal, st) := GE.skip_step (by kernel_rfl)
theorem n42_12s : codeB Try.prog LL ⟨42, 16, b, ro⟩ n42_12 st = normS b ⟨[], []⟩ (.exit 0) st := GE.exit_step (by kernel_rfl) (by kernel_rfl)
theorem n42_10s : codeB Try.prog E cx n42_10 st = condS (codeB Try.prog E cx n42_11) (codeB Try.prog E cx n42_12) (lk st.σ 10) st := GE.cond_step (c := .tmp 10) (by kernel_rfl)
theorem n42_15s : codeB Try.prog E ⟨f, 16, b, ro⟩ n42_15 st = plainS (runOps Try.prog E b q42_15 (ops [true, false, true, false, false, true, true, false, false] Try.f42) st) := GE.region_step (id := 3) (GE.reg_of (by kernel_rfl)) (by kernel_rfl)
theorem n42_17s : codeB Try.prog E ⟨f, 16, b, ro⟩ n42_17 st = plainS (runOps Try.prog E b q42_17 (ops [true, false, true, false, false, true, true, false, true, false] Try.f42) st) := GE.region_step (id := 4) (GE.reg_of (by kernel_rfl)) (by kernel_rfl)
theorem n42_20s : codeB Try.prog E ⟨f, 16, b, ro⟩ n42_20 st = plainS (runOps Try.prog E b q42_20 (ops [true, false, true, false, false, true, true, false, true, true, false, false] Try.f42) st) := GE.region_step (id := 5) (GE.reg_of (by kernel_rfl)) (by kernel_rfl)
theorem n42_21s : codeB Try.prog LL ⟨42, 16, b, ro⟩ n42_21 st = normS b ⟨[4], []⟩ .ret st := GE.ret_step (by kernel_rfl) (by kernel_rfl)
theorem n42_19s : codeB Try.prog E cx n42_19 st = thenS (codeB Try.prog E cx n42_20 st) (codeB Try.prog E cx n42_21) := GE.seq_step (by kernel_rfl)
theorem n42_22s : codeB Try.prog E cx n42_22 st = some (.normal, st) := GE.skip_step (by kernel_rfl)
theorem n42_18s : codeB Try.prog E cx n42_18 st = condS (codeB Try.prog E cx n42_19) (codeB Try.prog E cx n42_22) (lk st.σ 15) st := GE.cond_step (c := .tmp 15) (by kernel_rfl)
theorem n42_16s : codeB Try.prog E cx n42_16 st = thenS (codeB Try.prog E cx n42_17 st) (codeB Try.prog E cx n42_18) := GE.seq_step (by kernel_rfl)
theorem n42_14s : codeB Try.prog E cx n42_14 st = thenS (codeB Try.prog E cx n42_15 st) (codeB Try.prog E cx n42_16) := GE.seq_step (by kernel_rfl)
theorem n42_13s : codeB Try.prog E cx n42_13 st = blockS 1 (codeB Try.prog E cx n42_14 st) st := GE.block_step (by kernel_rfl)
theorem n42_9s : codeB Try.prog E cx n42_9 st = thenS (codeB Try.prog E cx n42_10 st) (codeB Try.prog E cx n42_13) := GE.seq_step (by kernel_rfl)
theorem n42_7s : codeB Try.prog E cx n42_7 st = thenS (codeB Try.prog E cx n42_8 st) (codeB Try.prog E cx n42_9) := GE.seq_step (by kernel_rfl)
theorem n42_6k : LL.kp (⟨42, 16, b, ro⟩ : Cx).fn (4 * rid n42_7 + 3) = some ⟨[1, 8], []⟩ := by kernel_rfl
theorem n42_6s : codeB Try.prog LL ⟨42, 16, b, ro⟩ n42_6 st = headS b ⟨[1, 8], []⟩ st (lpB Try.prog LL ⟨42, 16, b, ro⟩ n42_6 n42_7) := GE.lpB_step (by kernel_rfl) (n42_6k b ro)
theorem n42_6g : LL.code ⟨42, 16, b, ro⟩ n42_6 st = headS b ⟨[1, 8], []⟩ st (lpB Try.prog LL ⟨42, 16, b, ro⟩ n42_6 n42_7) := GE.lpB_again (by kernel_rfl) (n42_6k b ro)
theorem n42_5s : codeB Try.prog E cx n42_5 st = blockS 0 (codeB Try.prog E cx n42_6 st) st := GE.block_step (by kernel_rfl)
theorem n42_3s : codeB Try.prog E cx n42_3 st = thenS (codeB Try.prog E cx n42_4 st) (codeB Try.prog E cx n42_5) := GE.seq_step (by kernel_rfl)
theorem n42_24s : codeB Try.prog E ⟨f, 16, b, ro⟩ n42_24 st = plainS (runOps Try.prog E b q42_24 (ops [true, true, false] Try.f42) st) := GE.region_step (id := 6) (GE.reg_of (by kernel_rfl)) (by kernel_rfl)
theorem n42_25s : codeB Try.prog LL ⟨42, 16, b, ro⟩ n42_25 st = normS b ⟨[4], []⟩ .ret st := GE.ret_step (by kernel_rfl) (by kernel_rfl)
theorem n42_23s : codeB Try.prog E cx n42_23 st = thenS (codeB Try.prog E cx n42_24 st) (codeB Try.prog E cx n42_25) := GE.seq_step (by kernel_rfl)
theorem n42_2s : codeB Try.prog E cx n42_2 st = thenS (codeB Try.prog E cx n42_3 st) (codeB Try.prog E cx n42_23) := GE.seq_step (by kernel_rfl)
theorem n42_0s : codeB Try.prog E cx n42_0 st = thenS (codeB Try.prog E cx n42_1 st) (codeB Try.prog E cx n42_2) := GE.seq_step (by kernel_rfl)
noncomputable def n45_0 : Code := bodyOf Try.f45
noncomputable def n45_1 : Code := cl n45_0
noncomputable def q45_1 : List Oper := opsOf n45_1
noncomputable def n45_2 : Code := cr n45_0
noncomputable def n45_3 : Code := cl n45_2
noncomputable def q45_3 : List Oper := opsOf n45_3
noncomputable def n45_4 : Code := cr n45_2
noncomputable def n45_5 : Code := cl n45_4
noncomputable def n45_6 : Code := cl n45_5
noncomputable def q45_6 : List Oper := opsOf n45_6
noncomputable def n45_7 : Code := cr n45_5
noncomputable def n45_8 : Code := cl n45_7
noncomputable def n45_9 : Code := cl n45_8
noncomputable def q45_9 : List Oper := opsOf n45_9
noncomputable def n45_10 : Code := cr n45_8
noncomputable def n45_11 : Code := cl n45_10
noncomputable def n45_12 : Code := cl n45_11
noncomputable def n45_13 : Code := cl n45_12
noncomputable def q45_13 : List Oper := opsOf n45_13
noncomputable def n45_14 : Code := cr n45_12
noncomputable def n45_15 : Code := cl n45_14
noncomputable def n45_16 : Code := cl n45_15
noncomputable def q45_16 : List Oper := opsOf n45_16
noncomputable def n45_17 : Code := cr n45_15
noncomputable def n45_18 : Code := cr n45_14
noncomputable def n45_19 : Code := cr n45_11
noncomputable def q45_19 : List Oper := opsOf n45_19
noncomputable def n45_20 : Code := cr n45_4
noncomputable def n45_21 : Code := cl n45_20
noncomputable def q45_21 : List Oper := opsOf n45_21
noncomputable def n45_22 : Code := cr n45_20
theorem body45 : Try.f45.body = some n45_0 := by kernel_rfl
theorem run45 (E : Ev) (args : List Value) (h : List Blk) (hl : args.length ≤ 19) : runB Try.prog E 45 args h = endS Try.prog [.cell 4 4] h.length (codeB Try.prog E ⟨45, 19, h.length, none⟩ n45_0 ⟨enumT 0 args, h, []⟩) := GE.run_step Try.func45 body45 (by kernel_rfl) (by decide) (by kernel_rfl) hl
theorem n45_1s : codeB Try.prog E ⟨f, 19, b, ro⟩ n45_1 st = plainS (runOps Try.prog E b q45_1 (ops [false] Try.f45) st) := GE.region_step (id := 0) (GE.reg_of (by kernel_rfl)) (by kernel_rfl)
theorem n45_3s : codeB Try.prog E ⟨f, 19, b, ro⟩ n45_3 st = plainS (runOps Try.prog E b q45_3 (ops [true, false] Try.f45) st) := GE.region_step (id := 1) (GE.reg_of (by kernel_rfl)) (by kernel_rfl)
theorem n45_6s : codeB Try.prog E ⟨f, 19, b, ro⟩ n45_6 st = plainS (runOps Try.prog E b q45_6 (ops [true, true, false, false] Try.f45) st) := GE.region_step (id := 2) (GE.reg_of (by kernel_rfl)) (by kernel_rfl)
theorem n45_9s : codeB Try.prog E ⟨f, 19, b, ro⟩ n45_9 st = plainS (runOps Try.prog E b q45_9 (ops [true, true, false, true, false, false] Try.f45) st) := GE.region_step (id := 3) (GE.reg_of (by kernel_rfl)) (by kernel_rfl)
theorem n45_13s : codeB Try.prog E ⟨f, 19, b, ro⟩ n45_13 st = plainS (runOps Try.prog E b q45_13 (ops [true, true, false, true, false, true, false, false, false] Try.f45) st) := GE.region_step (id := 4) (GE.reg_of (by kernel_rfl)) (by kernel_rfl)
theorem n45_16s : codeB Try.prog E ⟨f, 19, b, ro⟩ n45_16 st = plainS (runOps Try.prog E b q45_16 (ops [true, true, false, true, false, true, false, false, true, false, false] Try.f45) st) := GE.region_step (id := 5) (GE.reg_of (by kernel_rfl)) (by kernel_rfl)
theorem n45_17s : codeB Try.prog LL ⟨45, 19, b, ro⟩ n45_17 st = normS b ⟨[4], []⟩ .ret st := GE.ret_step (by kernel_rfl) (by kernel_rfl)
theorem n45_15s : codeB Try.prog E cx n45_15 st = thenS (codeB Try.prog E cx n45_16 st) (codeB Try.prog E cx n45_17) := GE.seq_step (by kernel_rfl)
theorem n45_18s : codeB Try.prog E cx n45_18 st = some (.normal, st) := GE.skip_step (by kernel_rfl)
theorem n45_14s : codeB Try.prog E cx n45_14 st = condS (codeB Try.prog E cx n45_15) (codeB Try.prog E cx n45_18) (lk st.σ 16) st := GE.cond_step (c := .tmp 16) (by kernel_rfl)
theorem n45_12s : codeB Try.prog E cx n45_12 st = thenS (codeB Try.prog E cx n45_13 st) (codeB Try.prog E cx n45_14) := GE.seq_step (by kernel_rfl)
theorem n45_19s : codeB Try.prog E ⟨f, 19, b, ro⟩ n45_19 st = plainS (runOps Try.prog E b q45_19 (ops [true, true, false, true, false, true, false, true] Try.f45) st) := GE.region_step (id := 6) (GE.reg_of (by kernel_rfl)) (by kernel_rfl)
theorem n45_11s : codeB Try.prog E cx n45_11 st = thenS (codeB Try.prog E cx n45_12 st) (codeB Try.prog E cx n45_19) := GE.seq_step (by kernel_rfl)
theorem n45_10s : codeB Try.prog E cx n45_10 st = blockS 1 (codeB Try.prog E cx n45_11 st) st := GE.block_step (by kernel_rfl)
theorem n45_8e : n45_8 = .rangeFunc (.tmp 11) #[12, 13] n45_9 n45_10 := by kernel_rfl
theorem n45_8k : (ue n45_9).1 ++ (ue n45_10).1 = [13, 5, 7, 4] := by kernel_rfl
theorem n45_7s : codeB Try.prog E cx n45_7 st = blockS 0 (codeB Try.prog E cx n45_8 st) st := GE.block_step (by kernel_rfl)
theorem n45_5s : codeB Try.prog E cx n45_5 st = thenS (codeB Try.prog E cx n45_6 st) (codeB Try.prog E cx n45_7) := GE.seq_step (by kernel_rfl)
theorem n45_21s : codeB Try.prog E ⟨f, 19, b, ro⟩ n45_21 st = plainS (runOps Try.prog E b q45_21 (ops [true, true, true, false] Try.f45) st) := GE.region_step (id := 7) (GE.reg_of (by kernel_rfl)) (by kernel_rfl)
theorem n45_22s : codeB Try.prog LL ⟨45, 19, b, ro⟩ n45_22 st = normS b ⟨[4], []⟩ .ret st := GE.ret_step (by kernel_rfl) (by kernel_rfl)
theorem n45_20s : codeB Try.prog E cx n45_20 st = thenS (codeB Try.prog E cx n45_21 st) (codeB Try.prog E cx n45_22) := GE.seq_step (by kernel_rfl)
theorem n45_4s : codeB Try.prog E cx n45_4 st = thenS (codeB Try.prog E cx n45_5 st) (codeB Try.prog E cx n45_20) := GE.seq_step (by kernel_rfl)
theorem n45_2s : codeB Try.prog E cx n45_2 st = thenS (codeB Try.prog E cx n45_3 st) (codeB Try.prog E cx n45_4) := GE.seq_step (by kernel_rfl)
theorem n45_0s : codeB Try.prog E cx n45_0 st = thenS (codeB Try.prog E cx n45_1 st) (codeB Try.prog E cx n45_2) := GE.seq_step (by kernel_rfl)
noncomputable def n55_0 : Code := bodyOf Try.f55
noncomputable def n55_1 : Code := cl n55_0
noncomputable def q55_1 : List Oper := opsOf n55_1
noncomputable def n55_2 : Code := cr n55_0
noncomputable def n55_3 : Code := cl n55_2
noncomputable def q55_3 : List Oper := opsOf n55_3
noncomputable def n55_4 : Code := cr n55_2
noncomputable def n55_5 : Code := cl n55_4
noncomputable def n55_6 : Code := cl n55_5
noncomputable def n55_7 : Code := cl n55_6
noncomputable def q55_7 : List Oper := opsOf n55_7
noncomputable def n55_8 : Code := cr n55_6
noncomputable def n55_9 : Code := cl n55_8
noncomputable def n55_10 : Code := cl n55_9
noncomputable def n55_11 : Code := cr n55_9
noncomputable def n55_12 : Code := cr n55_8
noncomputable def n55_13 : Code := cl n55_12
noncomputable def n55_14 : Code := cl n55_13
noncomputable def q55_14 : List Oper := opsOf n55_14
noncomputable def n55_15 : Code := cr n55_13
noncomputable def n55_16 : Code := cl n55_15
noncomputable def q55_16 : List Oper := opsOf n55_16
noncomputable def n55_17 : Code := cr n55_15
noncomputable def n55_18 : Code := cl n55_17
noncomputable def n55_19 : Code := cr n55_17
theorem body55 : Try.f55.body = some n55_0 := by kernel_rfl
theorem run55 (E : Ev) (args : List Value) (h : List Blk) (hl : args.length ≤ 28) : runB Try.prog E 55 args h = endS Try.prog [] h.length (codeB Try.prog E ⟨55, 28, h.length, none⟩ n55_0 ⟨enumT 0 args, h, []⟩) := GE.run_step Try.func55 body55 (by kernel_rfl) (by decide) (by kernel_rfl) hl
theorem n55_1s : codeB Try.prog E ⟨f, 28, b, ro⟩ n55_1 st = drawS [0, 0, 0, 4, 14, 30, 63, 127] (runOpsF Try.prog E b q55_1 (ops [false] Try.f55) st) := GE.draw_step (id := 0) (GE.reg_of (by kernel_rfl)) (by kernel_rfl) (by kernel_rfl) (by kernel_rfl)
theorem n55_3s : codeB Try.prog E ⟨f, 28, b, ro⟩ n55_3 st = plainS (runOps Try.prog E b q55_3 (ops [true, false] Try.f55) st) := GE.region_step (id := 1) (GE.reg_of (by kernel_rfl)) (by kernel_rfl)
theorem n55_7s : codeB Try.prog E ⟨f, 28, b, ro⟩ n55_7 st = plainS (runOps Try.prog E b q55_7 (ops [true, true, false, false, false] Try.f55) st) := GE.region_step (id := 2) (GE.reg_of (by kernel_rfl)) (by kernel_rfl)
theorem n55_10s : codeB Try.prog E cx n55_10 st = some (.normal, st) := GE.skip_step (by kernel_rfl)
theorem n55_11s : codeB Try.prog LL ⟨55, 28, b, ro⟩ n55_11 st = normS b ⟨[], []⟩ (.exit 0) st := GE.exit_step (by kernel_rfl) (by kernel_rfl)
theorem n55_9s : codeB Try.prog E cx n55_9 st = condS (codeB Try.prog E cx n55_10) (codeB Try.prog E cx n55_11) (lk st.σ 16) st := GE.cond_step (c := .tmp 16) (by kernel_rfl)
theorem n55_14s : codeB Try.prog E ⟨f, 28, b, ro⟩ n55_14 st = plainS (runOps Try.prog E b q55_14 (ops [true, true, false, false, true, true, false, false] Try.f55) st) := GE.region_step (id := 3) (GE.reg_of (by kernel_rfl)) (by kernel_rfl)
theorem n55_16s : codeB Try.prog E ⟨f, 28, b, ro⟩ n55_16 st = plainS (runOps Try.prog E b q55_16 (ops [true, true, false, false, true, true, false, true, false] Try.f55) st) := GE.region_step (id := 4) (GE.reg_of (by kernel_rfl)) (by kernel_rfl)
theorem n55_18s : codeB Try.prog LL ⟨55, 28, b, ro⟩ n55_18 st = normS b ⟨[], []⟩ .ret st := GE.ret_step (by kernel_rfl) (by kernel_rfl)
theorem n55_19s : codeB Try.prog E cx n55_19 st = some (.normal, st) := GE.skip_step (by kernel_rfl)
theorem n55_17s : codeB Try.prog E cx n55_17 st = condS (codeB Try.prog E cx n55_18) (codeB Try.prog E cx n55_19) (lk st.σ 27) st := GE.cond_step (c := .tmp 27) (by kernel_rfl)
theorem n55_15s : codeB Try.prog E cx n55_15 st = thenS (codeB Try.prog E cx n55_16 st) (codeB Try.prog E cx n55_17) := GE.seq_step (by kernel_rfl)
theorem n55_13s : codeB Try.prog E cx n55_13 st = thenS (codeB Try.prog E cx n55_14 st) (codeB Try.prog E cx n55_15) := GE.seq_step (by kernel_rfl)
theorem n55_12s : codeB Try.prog E cx n55_12 st = blockS 1 (codeB Try.prog E cx n55_13 st) st := GE.block_step (by kernel_rfl)
theorem n55_8s : codeB Try.prog E cx n55_8 st = thenS (codeB Try.prog E cx n55_9 st) (codeB Try.prog E cx n55_12) := GE.seq_step (by kernel_rfl)
theorem n55_6s : codeB Try.prog E cx n55_6 st = thenS (codeB Try.prog E cx n55_7 st) (codeB Try.prog E cx n55_8) := GE.seq_step (by kernel_rfl)
theorem n55_5k : LL.kp (⟨55, 28, b, ro⟩ : Cx).fn (4 * rid n55_6 + 3) = some ⟨[0, 2, 4, 14], []⟩ := by kernel_rfl
theorem n55_5s : codeB Try.prog LL ⟨55, 28, b, ro⟩ n55_5 st = headS b ⟨[0, 2, 4, 14], []⟩ st (lpB Try.prog LL ⟨55, 28, b, ro⟩ n55_5 n55_6) := GE.lpB_step (by kernel_rfl) (n55_5k b ro)
theorem n55_5g : LL.code ⟨55, 28, b, ro⟩ n55_5 st = headS b ⟨[0, 2, 4, 14], []⟩ st (lpB Try.prog LL ⟨55, 28, b, ro⟩ n55_5 n55_6) := GE.lpB_again (by kernel_rfl) (n55_5k b ro)
theorem n55_4s : codeB Try.prog E cx n55_4 st = blockS 0 (codeB Try.prog E cx n55_5 st) st := GE.block_step (by kernel_rfl)
theorem n55_2s : codeB Try.prog E cx n55_2 st = thenS (codeB Try.prog E cx n55_3 st) (codeB Try.prog E cx n55_4) := GE.seq_step (by kernel_rfl)
theorem n55_0s : codeB Try.prog E cx n55_0 st = thenS (codeB Try.prog E cx n55_1 st) (codeB Try.prog E cx n55_2) := GE.seq_step (by kernel_rfl)
theorem ia_46 : aggK Try.prog 46 = some (true, 2) := by kernel_rfl
theorem es_51 : elemK Try.prog 51 = some (none, 1) := by kernel_rfl
theorem ze_51 : zeroE Try.prog 51 = some (.int .u8 (0)) := by kernel_rfl
theorem ba_51_1 : baseArr (Value.cells (.int .u8 (0))) (1 * 1) = #[(.int .u8 (0))] := by kernel_rfl
theorem cv_5_3 : convK Try.prog 5 3 = some .i64 := by kernel_rfl
theorem es_26 : elemK Try.prog 26 = some (none, 1) := by kernel_rfl
theorem ze_26 : zeroE Try.prog 26 = some (.string .empty) := by kernel_rfl
theorem ba_26_3 : baseArr (Value.cells (.string .empty)) (3 * 1) = #[(.string .empty), (.string .empty), (.string .empty)] := by kernel_rfl
theorem lk_26 : lenK Try.prog 26 = some .sl := by kernel_rfl
theorem ia_9 : aggK Try.prog 9 = some (false, 1) := by kernel_rfl
theorem fa_46_1 : fieldAt Try.prog 46 1 = some (1, 1) := by kernel_rfl
theorem ia_5 : aggK Try.prog 5 = some (false, 1) := by kernel_rfl
theorem lk_51 : lenK Try.prog 51 = some .sl := by kernel_rfl
theorem fa_46_0 : fieldAt Try.prog 46 0 = some (0, 1) := by kernel_rfl
theorem ia_44 : aggK Try.prog 44 = some (false, 1) := by kernel_rfl
theorem cv_44_5 : convK Try.prog 44 5 = some .u8 := by kernel_rfl
theorem sz_5 : aggSize Try.prog 5 = some 1 := by kernel_rfl
theorem ba_26_1 : baseArr (Value.cells (.string .empty)) (1 * 1) = #[(.string .empty)] := by kernel_rfl
theorem ap_26 : apK Try.prog 26 = some (1, 16) := by kernel_rfl
theorem ni_26 : notInt Try.prog 26 = true := by kernel_rfl
theorem za_4 : zeroA Try.prog 4 = some (.bool false) := by kernel_rfl
theorem za_80 : zeroA Try.prog 80 = some (.map none) := by kernel_rfl
theorem sz_80 : aggSize Try.prog 80 = some 1 := by kernel_rfl
theorem ia_80 : aggK Try.prog 80 = some (false, 1) := by kernel_rfl
theorem sz_4 : aggSize Try.prog 4 = some 1 := by kernel_rfl
theorem ia_4 : aggK Try.prog 4 = some (false, 1) := by kernel_rfl
theorem ia_3 : aggK Try.prog 3 = some (false, 1) := by kernel_rfl

end Go.Proofs.Ytjimphlkhjmaiaa.sw
