/-
  Names for the nodes of the code of some functions (projections of their bodies), the step of each node, and the facts of types that they use.
-/
import Derived.Test.YtjimphlkhjmaiaaKp
namespace Go.Proofs.Ytjimphlkhjmaiaa.sw
open Go.GE
set_option maxRecDepth 100000
variable (E : Ev) (cx : Cx) (st : St) (f nt b : Nat) (ro : Option Nat)
noncomputable def n11_0 : Code := bodyOf Try.f11
noncomputable def n11_1 : Code := cl n11_0
noncomputable def q11_1 : List Oper := opsOf n11_1
noncomputable def n11_2 : Code := cr n11_0
noncomputable def n11_3 : Code := cl n11_2
noncomputable def q11_3 : List Oper := opsOf n11_3
noncomputable def n11_4 : Code := cr n11_2
noncomputable def n11_5 : Code := cl n11_4
noncomputable def q11_5 : List Oper := opsOf n11_5
noncomputable def n11_6 : Code := cr n11_4
noncomputable def n11_7 : Code := cl n11_6
noncomputable def q11_7 : List Oper := opsOf n11_7
noncomputable def n11_8 : Code := cr n11_6
theorem body11 : Try.f11.body = some n11_0 := by kernel_rfl
theorem run11 (E : Ev) (args : List Value) (h : List Blk) (hl : args.length ≤ 26) : runB Try.prog E 11 args h = endS Try.prog [.tmp 2] h.length (codeB Try.prog E ⟨11, 26, h.length, none⟩ n11_0 ⟨enumT 0 args, h, []⟩) := GE.run_step Try.func11 body11 (by kernel_rfl) (by decide) (by kernel_rfl) hl
theorem n11_1s : codeB Try.prog E ⟨f, 26, b, ro⟩ n11_1 st = plainS (runOps Try.prog E b q11_1 (ops [false] Try.f11) st) := GE.region_step (id := 0) (GE.reg_of (by kernel_rfl)) (by kernel_rfl)
theorem n11_3s : codeB Try.prog E ⟨f, 26, b, ro⟩ n11_3 st = plainS (runOps Try.prog E b q11_3 (ops [true, false] Try.f11) st) := GE.region_step (id := 1) (GE.reg_of (by kernel_rfl)) (by kernel_rfl)
theorem n11_5s : codeB Try.prog E ⟨f, 26, b, ro⟩ n11_5 st = plainS (runOps Try.prog E b q11_5 (ops [true, true, false] Try.f11) st) := GE.region_step (id := 2) (GE.reg_of (by kernel_rfl)) (by kernel_rfl)
theorem q11_7g2 : gd q11_7 2 = some 17 := by kernel_rfl
theorem q11_7g8 : gd q11_7 8 = some 23 := by kernel_rfl
theorem n11_7s : codeB Try.prog E ⟨f, 26, b, ro⟩ n11_7 st = plainS (runOps Try.prog E b q11_7 (ops [true, true, true, false] Try.f11) st) := GE.region_step (id := 3) (GE.reg_of (by kernel_rfl)) (by kernel_rfl)
theorem n11_8s : codeB Try.prog LL ⟨11, 26, b, ro⟩ n11_8 st = normS b ⟨[2], []⟩ .ret st := GE.ret_step (by kernel_rfl) (by kernel_rfl)
theorem n11_6s : codeB Try.prog E cx n11_6 st = thenS (codeB Try.prog E cx n11_7 st) (codeB Try.prog E cx n11_8) := GE.seq_step (by kernel_rfl)
theorem n11_4s : codeB Try.prog E cx n11_4 st = thenS (codeB Try.prog E cx n11_5 st) (codeB Try.prog E cx n11_6) := GE.seq_step (by kernel_rfl)
theorem n11_2s : codeB Try.prog E cx n11_2 st = thenS (codeB Try.prog E cx n11_3 st) (codeB Try.prog E cx n11_4) := GE.seq_step (by kernel_rfl)
theorem n11_0s : codeB Try.prog E cx n11_0 st = thenS (codeB Try.prog E cx n11_1 st) (codeB Try.prog E cx n11_2) := GE.seq_step (by kernel_rfl)
noncomputable def n35_0 : Code := bodyOf Try.f35
noncomputable def n35_1 : Code := cl n35_0
noncomputable def q35_1 : List Oper := opsOf n35_1
noncomputable def n35_2 : Code := cr n35_0
noncomputable def n35_3 : Code := cl n35_2
noncomputable def q35_3 : List Oper := opsOf n35_3
noncomputable def n35_4 : Code := cr n35_2
theorem body35 : Try.f35.body = some n35_0 := by kernel_rfl
theorem run35 (E : Ev) (args : List Value) (h : List Blk) (hl : args.length ≤ 12) : runB Try.prog E 35 args h = endS Try.prog [.tmp 4] h.length (codeB Try.prog E ⟨35, 12, h.length, none⟩ n35_0 ⟨enumT 0 args, h, []⟩) := GE.run_step Try.func35 body35 (by kernel_rfl) (by decide) (by kernel_rfl) hl
theorem n35_1s : codeB Try.prog E ⟨f, 12, b, ro⟩ n35_1 st = plainS (runOps Try.prog E b q35_1 (ops [false] Try.f35) st) := GE.region_step (id := 0) (GE.reg_of (by kernel_rfl)) (by kernel_rfl)
theorem n35_3s : codeB Try.prog E ⟨f, 12, b, ro⟩ n35_3 st = drawS [0, 0, 3, 0, 0, 24, 63, 127] (runOpsF Try.prog E b q35_3 (ops [true, false] Try.f35) st) := GE.draw_step (id := 1) (GE.reg_of (by kernel_rfl)) (by kernel_rfl) (by kernel_rfl) (by kernel_rfl)
theorem n35_4s : codeB Try.prog LL ⟨35, 12, b, ro⟩ n35_4 st = normS b ⟨[4], []⟩ .ret st := GE.ret_step (by kernel_rfl) (by kernel_rfl)
theorem n35_2s : codeB Try.prog E cx n35_2 st = thenS (codeB Try.prog E cx n35_3 st) (codeB Try.prog E cx n35_4) := GE.seq_step (by kernel_rfl)
theorem n35_0s : codeB Try.prog E cx n35_0 st = thenS (codeB Try.prog E cx n35_1 st) (codeB Try.prog E cx n35_2) := GE.seq_step (by kernel_rfl)
noncomputable def n38_0 : Code := bodyOf Try.f38
noncomputable def n38_1 : Code := cl n38_0
noncomputable def q38_1 : List Oper := opsOf n38_1
noncomputable def n38_2 : Code := cr n38_0
noncomputable def n38_3 : Code := cl n38_2
noncomputable def q38_3 : List Oper := opsOf n38_3
noncomputable def n38_4 : Code := cr n38_2
noncomputable def n38_5 : Code := cl n38_4
noncomputable def n38_6 : Code := cl n38_5
noncomputable def q38_6 : List Oper := opsOf n38_6
noncomputable def n38_7 : Code := cr n38_5
noncomputable def n38_8 : Code := cl n38_7
noncomputable def n38_9 : Code := cl n38_8
noncomputable def n38_10 : Code := cl n38_9
noncomputable def n38_11 : Code := cl n38_10
noncomputable def q38_11 : List Oper := opsOf n38_11
noncomputable def n38_12 : Code := cr n38_10
noncomputable def n38_13 : Code := cl n38_12
noncomputable def n38_14 : Code := cr n38_12
noncomputable def n38_15 : Code := cr n38_9
noncomputable def n38_16 : Code := cl n38_15
noncomputable def n38_17 : Code := cl n38_16
noncomputable def n38_18 : Code := cl n38_17
noncomputable def q38_18 : List Oper := opsOf n38_18
noncomputable def n38_19 : Code := cr n38_17
noncomputable def n38_20 : Code := cl n38_19
noncomputable def n38_21 : Code := cl n38_20
noncomputable def q38_21 : List Oper := opsOf n38_21
noncomputable def n38_22 : Code := cr n38_20
noncomputable def n38_23 : Code := cl n38_22
noncomputable def n38_24 : Code := cl n38_23
noncomputable def n38_25 : Code := cl n38_24
noncomputable def q38_25 : List Oper := opsOf n38_25
noncomputable def n38_26 : Code := cr n38_24
noncomputable def n38_27 : Code := cl n38_26
noncomputable def n38_28 : Code := cl n38_27
noncomputable def n38_29 : Code := cr n38_27
noncomputable def n38_30 : Code := cr n38_26
noncomputable def n38_31 : Code := cl n38_30
noncomputable def n38_32 : Code := cl n38_31
noncomputable def n38_33 : Code := cl n38_32
noncomputable def q38_33 : List Oper := opsOf n38_33
noncomputable def n38_34 : Code := cr n38_32
noncomputable def q38_34 : List Oper := opsOf n38_34
noncomputable def n38_35 : Code := cr n38_30
noncomputable def q38_35 : List Oper := opsOf n38_35
noncomputable def n38_36 : Code := cr n38_19
noncomputable def n38_37 : Code := cl n38_36
noncomputable def q38_37 : List Oper := opsOf n38_37
noncomputable def n38_38 : Code := cr n38_36
noncomputable def n38_39 : Code := cl n38_38
noncomputable def n38_40 : Code := cl n38_39
noncomputable def q38_40 : List Oper := opsOf n38_40
noncomputable def n38_41 : Code := cr n38_39
noncomputable def n38_42 : Code := cl n38_41
noncomputable def n38_43 : Code := cl n38_42
noncomputable def n38_44 : Code := cl n38_43
noncomputable def n38_45 : Code := cl n38_44
noncomputable def q38_45 : List Oper := opsOf n38_45
noncomputable def n38_46 : Code := cr n38_44
noncomputable def n38_47 : Code := cl n38_46
noncomputable def n38_48 : Code := cr n38_46
noncomputable def n38_49 : Code := cr n38_43
noncomputable def n38_50 : Code := cl n38_49
noncomputable def n38_51 : Code := cl n38_50
noncomputable def q38_51 : List Oper := opsOf n38_51
noncomputable def n38_52 : Code := cr n38_49
noncomputable def q38_52 : List Oper := opsOf n38_52
noncomputable def n38_53 : Code := cr n38_38
noncomputable def q38_53 : List Oper := opsOf n38_53
noncomputable def n38_54 : Code := cr n38_15
noncomputable def q38_54 : List Oper := opsOf n38_54
noncomputable def n38_55 : Code := cr n38_4
noncomputable def n38_56 : Code := cl n38_55
noncomputable def q38_56 : List Oper := opsOf n38_56
noncomputable def n38_57 : Code := cr n38_55
theorem body38 : Try.f38.body = some n38_0 := by kernel_rfl
theorem run38 (E : Ev) (args : List Value) (h : List Blk) (hl : args.length ≤ 50) : runB Try.prog E 38 args h = endS Try.prog [.tmp 2] h.length (codeB Try.prog E ⟨38, 50, h.length, none⟩ n38_0 ⟨enumT 0 args, h, []⟩) := GE.run_step Try.func38 body38 (by kernel_rfl) (by decide) (by kernel_rfl) hl
theorem n38_1s : codeB Try.prog E ⟨f, 50, b, ro⟩ n38_1 st = plainS (runOps Try.prog E b q38_1 (ops [false] Try.f38) st) := GE.region_step (id := 0) (GE.reg_of (by kernel_rfl)) (by kernel_rfl)
theorem n38_3s : codeB Try.prog E ⟨f, 50, b, ro⟩ n38_3 st = plainS (runOps Try.prog E b q38_3 (ops [true, false] Try.f38) st) := GE.region_step (id := 1) (GE.reg_of (by kernel_rfl)) (by kernel_rfl)
theorem n38_6s : codeB Try.prog E ⟨f, 50, b, ro⟩ n38_6 st = plainS (runOps Try.prog E b q38_6 (ops [true, true, false, false] Try.f38) st) := GE.region_step (id := 2) (GE.reg_of (by kernel_rfl)) (by kernel_rfl)
theorem n38_11s : codeB Try.prog E ⟨f, 50, b, ro⟩ n38_11 st = plainS (runOps Try.prog E b q38_11 (ops [true, true, false, true, false, false, false, false] Try.f38) st) := GE.region_step (id := 3) (GE.reg_of (by kernel_rfl)) (by kernel_rfl)
theorem n38_13s : codeB Try.prog E cx n38_13 st = some (.normal, st) := GE.skip_step (by kernel_rfl)
theorem n38_14s : codeB Try.prog LL ⟨38, 50, b, ro⟩ n38_14 st = normS b ⟨[3], []⟩ (.exit 0) st := GE.exit_step (by kernel_rfl) (by kernel_rfl)
theorem n38_12s : codeB Try.prog E cx n38_12 st = condS (codeB Try.prog E cx n38_13) (codeB Try.prog E cx n38_14) (lk st.σ 13) st := GE.cond_step (c := .tmp 13) (by kernel_rfl)
theorem n38_10s : codeB Try.prog E cx n38_10 st = thenS (codeB Try.prog E cx n38_11 st) (codeB Try.prog E cx n38_12) := GE.seq_step (by kernel_rfl)
theorem n38_18s : codeB Try.prog E ⟨f, 50, b, ro⟩ n38_18 st = plainS (runOps Try.prog E b q38_18 (ops [true, true, false, true, false, false, true, false, false, false] Try.f38) st) := GE.region_step (id := 5) (GE.reg_of (by kernel_rfl)) (by kernel_rfl)
theorem n38_21s : codeB Try.prog E ⟨f, 50, b, ro⟩ n38_21 st = plainS (runOps Try.prog E b q38_21 (ops [true, true, false, true, false, false, true, false, false, true, false, false] Try.f38) st) := GE.region_step (id := 6) (GE.reg_of (by kernel_rfl)) (by kernel_rfl)
theorem n38_25s : codeB Try.prog E ⟨f, 50, b, ro⟩ n38_25 st = plainS (runOps Try.prog E b q38_25 (ops [true, true, false, true, false, false, true, false, false, true, false, true, false, false, false] Try.f38) st) := GE.region_step (id := 7) (GE.reg_of (by kernel_rfl)) (by kernel_rfl)
theorem n38_28s : codeB Try.prog E cx n38_28 st = some (.normal, st) := GE.skip_step (by kernel_rfl)
theorem n38_29s : codeB Try.prog LL ⟨38, 50, b, ro⟩ n38_29 st = normS b ⟨[5, 0, 3, 4], [⟨5, 0, 1, true⟩]⟩ (.exit 2) st := GE.exit_step (by kernel_rfl) (by kernel_rfl)
theorem n38_27s : codeB Try.prog E cx n38_27 st = condS (codeB Try.prog E cx n38_28) (codeB Try.prog E cx n38_29) (lk st.σ 21) st := GE.cond_step (c := .tmp 21) (by kernel_rfl)
theorem n38_33s : codeB Try.prog E ⟨f, 50, b, ro⟩ n38_33 st = plainS (runOps Try.prog E b q38_33 (ops [true, true, false, true, false, false, true, false, false, true, false, true, false, false, true, true, false, false, false] Try.f38) st) := GE.region_step (id := 8) (GE.reg_of (by kernel_rfl)) (by kernel_rfl)
theorem n38_34s : codeB Try.prog E ⟨f, 50, b, ro⟩ n38_34 st = plainS (runOps Try.prog E b q38_34 (ops [true, true, false, true, false, false, true, false, false, true, false, true, false, false, true, true, false, false, true] Try.f38) st) := GE.region_step (id := 9) (GE.reg_of (by kernel_rfl)) (by kernel_rfl)
theorem n38_32s : codeB Try.prog E cx n38_32 st = thenS (codeB Try.prog E cx n38_33 st) (codeB Try.prog E cx n38_34) := GE.seq_step (by kernel_rfl)
theorem n38_31s : codeB Try.prog E cx n38_31 st = blockS 3 (codeB Try.prog E cx n38_32 st) st := GE.block_step (by kernel_rfl)
theorem n38_35s : codeB Try.prog E ⟨f, 50, b, ro⟩ n38_35 st = plainS (runOps Try.prog E b q38_35 (ops [true, true, false, true, false, false, true, false, false, true, false, true, false, false, true, true, true] Try.f38) st) := GE.region_step (id := 10) (GE.reg_of (by kernel_rfl)) (by kernel_rfl)
theorem n38_30s : codeB Try.prog E cx n38_30 st = thenS (codeB Try.prog E cx n38_31 st) (codeB Try.prog E cx n38_35) := GE.seq_step (by kernel_rfl)
theorem n38_26s : codeB Try.prog E cx n38_26 st = thenS (codeB Try.prog E cx n38_27 st) (codeB Try.prog E cx n38_30) := GE.seq_step (by kernel_rfl)
theorem n38_24s : codeB Try.prog E cx n38_24 st = thenS (codeB Try.prog E cx n38_25 st) (codeB Try.prog E cx n38_26) := GE.seq_step (by kernel_rfl)
theorem n38_23k : LL.kp (⟨38, 50, b, ro⟩ : Cx).fn (4 * rid n38_24 + 3) = some ⟨[5, 19, 20, 0, 3, 4], [⟨5, 0, 1, true⟩]⟩ := by kernel_rfl
theorem n38_23s : codeB Try.prog LL ⟨38, 50, b, ro⟩ n38_23 st = headS b ⟨[5, 19, 20, 0, 3, 4], [⟨5, 0, 1, true⟩]⟩ st (lpB Try.prog LL ⟨38, 50, b, ro⟩ n38_23 n38_24) := GE.lpB_step (by kernel_rfl) (n38_23k b ro)
theorem n38_23g : LL.code ⟨38, 50, b, ro⟩ n38_23 st = headS b ⟨[5, 19, 20, 0, 3, 4], [⟨5, 0, 1, true⟩]⟩ st (lpB Try.prog LL ⟨38, 50, b, ro⟩ n38_23 n38_24) := GE.lpB_again (by kernel_rfl) (n38_23k b ro)
theorem n38_22s : codeB Try.prog E cx n38_22 st = blockS 2 (codeB Try.prog E cx n38_23 st) st := GE.block_step (by kernel_rfl)
theorem n38_20s : codeB Try.prog E cx n38_20 st = thenS (codeB Try.prog E cx n38_21 st) (codeB Try.prog E cx n38_22) := GE.seq_step (by kernel_rfl)
theorem n38_37s : codeB Try.prog E ⟨f, 50, b, ro⟩ n38_37 st = plainS (runOps Try.prog E b q38_37 (ops [true, true, false, true, false, false, true, false, false, true, true, false] Try.f38) st) := GE.region_step (id := 11) (GE.reg_of (by kernel_rfl)) (by kernel_rfl)
theorem n38_40s : codeB Try.prog E ⟨f, 50, b, ro⟩ n38_40 st = plainS (runOps Try.prog E b q38_40 (ops [true, true, false, true, false, false, true, false, false, true, true, true, false, false] Try.f38) st) := GE.region_step (id := 12) (GE.reg_of (by kernel_rfl)) (by kernel_rfl)
theorem n38_45s : codeB Try.prog E ⟨f, 50, b, ro⟩ n38_45 st = plainS (runOps Try.prog E b q38_45 (ops [true, true, false, true, false, false, true, false, false, true, true, true, false, true, false, false, false, false] Try.f38) st) := GE.region_step (id := 13) (GE.reg_of (by kernel_rfl)) (by kernel_rfl)
theorem n38_47s : codeB Try.prog E cx n38_47 st = some (.normal, st) := GE.skip_step (by kernel_rfl)
theorem n38_48s : codeB Try.prog LL ⟨38, 50, b, ro⟩ n38_48 st = normS b ⟨[7, 0, 3, 4], []⟩ (.exit 4) st := GE.exit_step (by kernel_rfl) (by kernel_rfl)
theorem n38_46s : codeB Try.prog E cx n38_46 st = condS (codeB Try.prog E cx n38_47) (codeB Try.prog E cx n38_48) (lk st.σ 37) st := GE.cond_step (c := .tmp 37) (by kernel_rfl)
theorem n38_44s : codeB Try.prog E cx n38_44 st = thenS (codeB Try.prog E cx n38_45 st) (codeB Try.prog E cx n38_46) := GE.seq_step (by kernel_rfl)
theorem n38_51s : codeB Try.prog E ⟨f, 50, b, ro⟩ n38_51 st = plainS (runOps Try.prog E b q38_51 (ops [true, true, false, true, false, false, true, false, false, true, true, true, false, true, false, false, true, false, false] Try.f38) st) := GE.region_step (id := 15) (GE.reg_of (by kernel_rfl)) (by kernel_rfl)
theorem n38_50s : codeB Try.prog E cx n38_50 st = blockS 5 (codeB Try.prog E cx n38_51 st) st := GE.block_step (by kernel_rfl)
theorem n38_52s : codeB Try.prog E ⟨f, 50, b, ro⟩ n38_52 st = plainS (runOps Try.prog E b q38_52 (ops [true, true, false, true, false, false, true, false, false, true, true, true, false, true, false, false, true, true] Try.f38) st) := GE.region_step (id := 14) (GE.reg_of (by kernel_rfl)) (by kernel_rfl)
theorem n38_49s : codeB Try.prog E cx n38_49 st = thenS (codeB Try.prog E cx n38_50 st) (codeB Try.prog E cx n38_52) := GE.seq_step (by kernel_rfl)
theorem n38_43s : codeB Try.prog E cx n38_43 st = thenS (codeB Try.prog E cx n38_44 st) (codeB Try.prog E cx n38_49) := GE.seq_step (by kernel_rfl)
theorem n38_42k : LL.kp (⟨38, 50, b, ro⟩ : Cx).fn (4 * rid n38_43 + 3) = some ⟨[5, 7, 8, 0, 3, 4], [⟨5, 0, 1, true⟩]⟩ := by kernel_rfl
theorem n38_42s : codeB Try.prog LL ⟨38, 50, b, ro⟩ n38_42 st = headS b ⟨[5, 7, 8, 0, 3, 4], [⟨5, 0, 1, true⟩]⟩ st (lpB Try.prog LL ⟨38, 50, b, ro⟩ n38_42 n38_43) := GE.lpB_step (by kernel_rfl) (n38_42k b ro)
theorem n38_42g : LL.code ⟨38, 50, b, ro⟩ n38_42 st = headS b ⟨[5, 7, 8, 0, 3, 4], [⟨5, 0, 1, true⟩]⟩ st (lpB Try.prog LL ⟨38, 50, b, ro⟩ n38_42 n38_43) := GE.lpB_again (by kernel_rfl) (n38_42k b ro)
theorem n38_41s : codeB Try.prog E cx n38_41 st = blockS 4 (codeB Try.prog E cx n38_42 st) st := GE.block_step (by kernel_rfl)
theorem n38_39s : codeB Try.prog E cx n38_39 st = thenS (codeB Try.prog E cx n38_40 st) (codeB Try.prog E cx n38_41) := GE.seq_step (by kernel_rfl)
theorem n38_53s : codeB Try.prog E ⟨f, 50, b, ro⟩ n38_53 st = plainS (runOps Try.prog E b q38_53 (ops [true, true, false, true, false, false, true, false, false, true, true, true, true] Try.f38) st) := GE.region_step (id := 16) (GE.reg_of (by kernel_rfl)) (by kernel_rfl)
theorem n38_38s : codeB Try.prog E cx n38_38 st = thenS (codeB Try.prog E cx n38_39 st) (codeB Try.prog E cx n38_53) := GE.seq_step (by kernel_rfl)
theorem n38_36s : codeB Try.prog E cx n38_36 st = thenS (codeB Try.prog E cx n38_37 st) (codeB Try.prog E cx n38_38) := GE.seq_step (by kernel_rfl)
theorem n38_19s : codeB Try.prog E cx n38_19 st = thenS (codeB Try.prog E cx n38_20 st) (codeB Try.prog E cx n38_36) := GE.seq_step (by kernel_rfl)
theorem n38_17s : codeB Try.prog E cx n38_17 st = thenS (codeB Try.prog E cx n38_18 st) (codeB Try.prog E cx n38_19) := GE.seq_step (by kernel_rfl)
theorem n38_16s : codeB Try.prog E cx n38_16 st = blockS 1 (codeB Try.prog E cx n38_17 st) st := GE.block_step (by kernel_rfl)
theorem n38_54s : codeB Try.prog E ⟨f, 50, b, ro⟩ n38_54 st = plainS (runOps Try.prog E b q38_54 (ops [true, true, false, true, false, false, true, true] Try.f38) st) := GE.region_step (id := 4) (GE.reg_of (by kernel_rfl)) (by kernel_rfl)
theorem n38_15s : codeB Try.prog E cx n38_15 st = thenS (codeB Try.prog E cx n38_16 st) (codeB Try.prog E cx n38_54) := GE.seq_step (by kernel_rfl)
theorem n38_9s : codeB Try.prog E cx n38_9 st = thenS (codeB Try.prog E cx n38_10 st) (codeB Try.prog E cx n38_15) := GE.seq_step (by kernel_rfl)
theorem n38_8k : LL.kp (⟨38, 50, b, ro⟩ : Cx).fn (4 * rid n38_9 + 3) = some ⟨[0, 3, 4], []⟩ := by kernel_rfl
theorem n38_8s : codeB Try.prog LL ⟨38, 50, b, ro⟩ n38_8 st = headS b ⟨[0, 3, 4], []⟩ st (lpB Try.prog LL ⟨38, 50, b, ro⟩ n38_8 n38_9) := GE.lpB_step (by kernel_rfl) (n38_8k b ro)
theorem n38_8g : LL.code ⟨38, 50, b, ro⟩ n38_8 st = headS b ⟨[0, 3, 4], []⟩ st (lpB Try.prog LL ⟨38, 50, b, ro⟩ n38_8 n38_9) := GE.lpB_again (by kernel_rfl) (n38_8k b ro)
theorem n38_7s : codeB Try.prog E cx n38_7 st = blockS 0 (codeB Try.prog E cx n38_8 st) st := GE.block_step (by kernel_rfl)
theorem n38_5s : codeB Try.prog E cx n38_5 st = thenS (codeB Try.prog E cx n38_6 st) (codeB Try.prog E cx n38_7) := GE.seq_step (by kernel_rfl)
theorem n38_56s : codeB Try.prog E ⟨f, 50, b, ro⟩ n38_56 st = plainS (runOps Try.prog E b q38_56 (ops [true, true, true, false] Try.f38) st) := GE.region_step (id := 17) (GE.reg_of (by kernel_rfl)) (by kernel_rfl)
theorem n38_57s : codeB Try.prog LL ⟨38, 50, b, ro⟩ n38_57 st = normS b ⟨[2], []⟩ .ret st := GE.ret_step (by kernel_rfl) (by kernel_rfl)
theorem n38_55s : codeB Try.prog E cx n38_55 st = thenS (codeB Try.prog E cx n38_56 st) (codeB Try.prog E cx n38_57) := GE.seq_step (by kernel_rfl)
theorem n38_4s : codeB Try.prog E cx n38_4 st = thenS (codeB Try.prog E cx n38_5 st) (codeB Try.prog E cx n38_55) := GE.seq_step (by kernel_rfl)
theorem n38_2s : codeB Try.prog E cx n38_2 st = thenS (codeB Try.prog E cx n38_3 st) (codeB Try.prog E cx n38_4) := GE.seq_step (by kernel_rfl)
theorem n38_0s : codeB Try.prog E cx n38_0 st = thenS (codeB Try.prog E cx n38_1 st) (codeB Try.prog E cx n38_2) := GE.seq_step (by kernel_rfl)
theorem cv_5_3 : convK Try.prog 5 3 = some .i64 := by kernel_rfl
theorem lk_51 : lenK Try.prog 51 = some .sl := by kernel_rfl
theorem cv_3_5 : convK Try.prog 3 5 = some .u8 := by kernel_rfl
theorem es_51 : elemK Try.prog 51 = some (none, 1) := by kernel_rfl
theorem sz_5 : aggSize Try.prog 5 = some 1 := by kernel_rfl

end Go.Proofs.Ytjimphlkhjmaiaa.sw
