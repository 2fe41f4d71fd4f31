/-
  Names for the nodes of the code of some functions (projections of their bodies), the step of each node, and the facts of types that they use.
-/
import Derived.Test.YtiafgimgcbmgaaaKp
namespace Go.Proofs.Ytiafgimgcbmgaaa.bl
open Go.GE
set_option maxRecDepth 100000
variable (E : Ev) (cx : Cx) (st : St) (f nt b : Nat) (ro : Option Nat)
noncomputable def n22_0 : Code := bodyOf Try.f22
noncomputable def n22_1 : Code := cl n22_0
noncomputable def q22_1 : List Oper := opsOf n22_1
noncomputable def n22_2 : Code := cr n22_0
noncomputable def n22_3 : Code := cl n22_2
noncomputable def n22_4 : Code := cl n22_3
noncomputable def n22_5 : Code := cl n22_4
noncomputable def q22_5 : List Oper := opsOf n22_5
noncomputable def n22_6 : Code := cr n22_4
noncomputable def n22_7 : Code := cl n22_6
noncomputable def n22_8 : Code := cl n22_7
noncomputable def q22_8 : List Oper := opsOf n22_8
noncomputable def n22_9 : Code := cr n22_7
noncomputable def n22_10 : Code := cr n22_6
noncomputable def n22_11 : Code := cl n22_10
noncomputable def q22_11 : List Oper := opsOf n22_11
noncomputable def n22_12 : Code := cr n22_10
noncomputable def n22_13 : Code := cl n22_12
noncomputable def n22_14 : Code := cl n22_13
noncomputable def q22_14 : List Oper := opsOf n22_14
noncomputable def n22_15 : Code := cr n22_13
noncomputable def n22_16 : Code := cr n22_12
noncomputable def n22_17 : Code := cl n22_16
noncomputable def q22_17 : List Oper := opsOf n22_17
noncomputable def n22_18 : Code := cr n22_16
noncomputable def n22_19 : Code := cl n22_18
noncomputable def n22_20 : Code := cl n22_19
noncomputable def q22_20 : List Oper := opsOf n22_20
noncomputable def n22_21 : Code := cr n22_19
noncomputable def n22_22 : Code := cr n22_18
noncomputable def n22_23 : Code := cr n22_2
noncomputable def n22_24 : Code := cl n22_23
noncomputable def q22_24 : List Oper := opsOf n22_24
noncomputable def n22_25 : Code := cr n22_23
noncomputable def n22_26 : Code := cl n22_25
noncomputable def n22_27 : Code := cl n22_26
noncomputable def q22_27 : List Oper := opsOf n22_27
noncomputable def n22_28 : Code := cr n22_26
noncomputable def n22_29 : Code := cl n22_28
noncomputable def n22_30 : Code := cl n22_29
noncomputable def n22_31 : Code := cl n22_30
noncomputable def q22_31 : List Oper := opsOf n22_31
noncomputable def n22_32 : Code := cr n22_30
noncomputable def n22_33 : Code := cl n22_32
noncomputable def n22_34 : Code := cl n22_33
noncomputable def n22_35 : Code := cr n22_33
noncomputable def n22_36 : Code := cr n22_32
noncomputable def n22_37 : Code := cl n22_36
noncomputable def n22_38 : Code := cl n22_37
noncomputable def n22_39 : Code := cl n22_38
noncomputable def q22_39 : List Oper := opsOf n22_39
noncomputable def n22_40 : Code := cr n22_38
noncomputable def n22_41 : Code := cl n22_40
noncomputable def n22_42 : Code := cl n22_41
noncomputable def n22_43 : Code := cl n22_42
noncomputable def q22_43 : List Oper := opsOf n22_43
noncomputable def n22_44 : Code := cr n22_42
noncomputable def n22_45 : Code := cl n22_44
noncomputable def n22_46 : Code := cl n22_45
noncomputable def q22_46 : List Oper := opsOf n22_46
noncomputable def n22_47 : Code := cr n22_45
noncomputable def n22_48 : Code := cr n22_44
noncomputable def n22_49 : Code := cl n22_48
noncomputable def q22_49 : List Oper := opsOf n22_49
noncomputable def n22_50 : Code := cr n22_48
noncomputable def n22_51 : Code := cl n22_50
noncomputable def n22_52 : Code := cl n22_51
noncomputable def q22_52 : List Oper := opsOf n22_52
noncomputable def n22_53 : Code := cr n22_51
noncomputable def n22_54 : Code := cr n22_50
noncomputable def n22_55 : Code := cr n22_40
noncomputable def q22_55 : List Oper := opsOf n22_55
noncomputable def n22_56 : Code := cr n22_36
noncomputable def q22_56 : List Oper := opsOf n22_56
noncomputable def n22_57 : Code := cr n22_25
noncomputable def n22_58 : Code := cl n22_57
noncomputable def q22_58 : List Oper := opsOf n22_58
noncomputable def n22_59 : Code := cr n22_57
theorem body22 : Try.f22.body = some n22_0 := by kernel_rfl
theorem run22 (E : Ev) (args : List Value) (h : List Blk) (hl : args.length ≤ 46) : runB Try.prog E 22 args h = endS Try.prog [.tmp 2] h.length (codeB Try.prog E ⟨22, 46, h.length, none⟩ n22_0 ⟨enumT 0 args, h, []⟩) := GE.run_step Try.func22 body22 (by kernel_rfl) (by decide) (by kernel_rfl) hl
theorem n22_1s : codeB Try.prog E ⟨f, 46, b, ro⟩ n22_1 st = plainS (runOps Try.prog E b q22_1 (ops [false] Try.f22) st) := GE.region_step (id := 0) (GE.reg_of (by kernel_rfl)) (by kernel_rfl)
theorem q22_5g4 : gd q22_5 4 = some 11 := by kernel_rfl
theorem n22_5s : codeB Try.prog E ⟨f, 46, b, ro⟩ n22_5 st = plainS (runOps Try.prog E b q22_5 (ops [true, false, false, false] Try.f22) st) := GE.region_step (id := 1) (GE.reg_of (by kernel_rfl)) (by kernel_rfl)
theorem n22_8s : codeB Try.prog E ⟨f, 46, b, ro⟩ n22_8 st = plainS (runOps Try.prog E b q22_8 (ops [true, false, false, true, false, false] Try.f22) st) := GE.region_step (id := 2) (GE.reg_of (by kernel_rfl)) (by kernel_rfl)
theorem n22_9s : codeB Try.prog LL ⟨22, 46, b, ro⟩ n22_9 st = normS b ⟨[2], []⟩ .ret st := GE.ret_step (by kernel_rfl) (by kernel_rfl)
theorem n22_7s : codeB Try.prog E cx n22_7 st = thenS (codeB Try.prog E cx n22_8 st) (codeB Try.prog E cx n22_9) := GE.seq_step (by kernel_rfl)
theorem n22_11s : codeB Try.prog E ⟨f, 46, b, ro⟩ n22_11 st = plainS (runOps Try.prog E b q22_11 (ops [true, false, false, true, true, false] Try.f22) st) := GE.region_step (id := 3) (GE.reg_of (by kernel_rfl)) (by kernel_rfl)
theorem n22_14s : codeB Try.prog E ⟨f, 46, b, ro⟩ n22_14 st = plainS (runOps Try.prog E b q22_14 (ops [true, false, false, true, true, true, false, false] Try.f22) st) := GE.region_step (id := 4) (GE.reg_of (by kernel_rfl)) (by kernel_rfl)
theorem n22_15s : codeB Try.prog LL ⟨22, 46, b, ro⟩ n22_15 st = normS b ⟨[2], []⟩ .ret st := GE.ret_step (by kernel_rfl) (by kernel_rfl)
theorem n22_13s : codeB Try.prog E cx n22_13 st = thenS (codeB Try.prog E cx n22_14 st) (codeB Try.prog E cx n22_15) := GE.seq_step (by kernel_rfl)
theorem n22_17s : codeB Try.prog E ⟨f, 46, b, ro⟩ n22_17 st = plainS (runOps Try.prog E b q22_17 (ops [true, false, false, true, true, true, true, false] Try.f22) st) := GE.region_step (id := 5) (GE.reg_of (by kernel_rfl)) (by kernel_rfl)
theorem n22_20s : codeB Try.prog E ⟨f, 46, b, ro⟩ n22_20 st = plainS (runOps Try.prog E b q22_20 (ops [true, false, false, true, true, true, true, true, false, false] Try.f22) st) := GE.region_step (id := 6) (GE.reg_of (by kernel_rfl)) (by kernel_rfl)
theorem n22_21s : codeB Try.prog LL ⟨22, 46, b, ro⟩ n22_21 st = normS b ⟨[2], []⟩ .ret st := GE.ret_step (by kernel_rfl) (by kernel_rfl)
theorem n22_19s : codeB Try.prog E cx n22_19 st = thenS (codeB Try.prog E cx n22_20 st) (codeB Try.prog E cx n22_21) := GE.seq_step (by kernel_rfl)
theorem n22_22s : codeB Try.prog E cx n22_22 st = some (.normal, st) := GE.skip_step (by kernel_rfl)
theorem n22_18s : codeB Try.prog E cx n22_18 st = condS (codeB Try.prog E cx n22_19) (codeB Try.prog E cx n22_22) (lk st.σ 22) st := GE.cond_step (c := .tmp 22) (by kernel_rfl)
theorem n22_16s : codeB Try.prog E cx n22_16 st = thenS (codeB Try.prog E cx n22_17 st) (codeB Try.prog E cx n22_18) := GE.seq_step (by kernel_rfl)
theorem n22_12s : codeB Try.prog E cx n22_12 st = condS (codeB Try.prog E cx n22_13) (codeB Try.prog E cx n22_16) (lk st.σ 17) st := GE.cond_step (c := .tmp 17) (by kernel_rfl)
theorem n22_10s : codeB Try.prog E cx n22_10 st = thenS (codeB Try.prog E cx n22_11 st) (codeB Try.prog E cx n22_12) := GE.seq_step (by kernel_rfl)
theorem n22_6s : codeB Try.prog E cx n22_6 st = condS (codeB Try.prog E cx n22_7) (codeB Try.prog E cx n22_10) (lk st.σ 6) st := GE.cond_step (c := .tmp 6) (by kernel_rfl)
theorem n22_4s : codeB Try.prog E cx n22_4 st = thenS (codeB Try.prog E cx n22_5 st) (codeB Try.prog E cx n22_6) := GE.seq_step (by kernel_rfl)
theorem n22_3s : codeB Try.prog E cx n22_3 st = blockS 0 (codeB Try.prog E cx n22_4 st) st := GE.block_step (by kernel_rfl)
theorem n22_24s : codeB Try.prog E ⟨f, 46, b, ro⟩ n22_24 st = plainS (runOps Try.prog E b q22_24 (ops [true, true, false] Try.f22) st) := GE.region_step (id := 7) (GE.reg_of (by kernel_rfl)) (by kernel_rfl)
theorem n22_27s : codeB Try.prog E ⟨f, 46, b, ro⟩ n22_27 st = plainS (runOps Try.prog E b q22_27 (ops [true, true, true, false, false] Try.f22) st) := GE.region_step (id := 8) (GE.reg_of (by kernel_rfl)) (by kernel_rfl)
theorem n22_31s : codeB Try.prog E ⟨f, 46, b, ro⟩ n22_31 st = plainS (runOps Try.prog E b q22_31 (ops [true, true, true, false, true, false, false, false] Try.f22) st) := GE.region_step (id := 9) (GE.reg_of (by kernel_rfl)) (by kernel_rfl)
theorem n22_34s : codeB Try.prog E cx n22_34 st = some (.normal, st) := GE.skip_step (by kernel_rfl)
theorem n22_35s : codeB Try.prog LL ⟨22, 46, b, ro⟩ n22_35 st = normS b ⟨[], []⟩ (.exit 1) st := GE.exit_step (by kernel_rfl) (by kernel_rfl)
theorem n22_33s : codeB Try.prog E cx n22_33 st = condS (codeB Try.prog E cx n22_34) (codeB Try.prog E cx n22_35) (lk st.σ 31) st := GE.cond_step (c := .tmp 31) (by kernel_rfl)
theorem n22_39s : codeB Try.prog E ⟨f, 46, b, ro⟩ n22_39 st = plainS (runOps Try.prog E b q22_39 (ops [true, true, true, false, true, false, false, true, true, false, false, false] Try.f22) st) := GE.region_step (id := 10) (GE.reg_of (by kernel_rfl)) (by kernel_rfl)
theorem n22_43s : codeB Try.prog E ⟨f, 46, b, ro⟩ n22_43 st = plainS (runOps Try.prog E b q22_43 (ops [true, true, true, false, true, false, false, true, true, false, false, true, false, false, false] Try.f22) st) := GE.region_step (id := 11) (GE.reg_of (by kernel_rfl)) (by kernel_rfl)
theorem n22_46s : codeB Try.prog E ⟨f, 46, b, ro⟩ n22_46 st = plainS (runOps Try.prog E b q22_46 (ops [true, true, true, false, true, false, false, true, true, false, false, true, false, false, true, false, false] Try.f22) st) := GE.region_step (id := 12) (GE.reg_of (by kernel_rfl)) (by kernel_rfl)
theorem n22_47s : codeB Try.prog LL ⟨22, 46, b, ro⟩ n22_47 st = normS b ⟨[2], []⟩ .ret st := GE.ret_step (by kernel_rfl) (by kernel_rfl)
theorem n22_45s : codeB Try.prog E cx n22_45 st = thenS (codeB Try.prog E cx n22_46 st) (codeB Try.prog E cx n22_47) := GE.seq_step (by kernel_rfl)
theorem n22_49s : codeB Try.prog E ⟨f, 46, b, ro⟩ n22_49 st = plainS (runOps Try.prog E b q22_49 (ops [true, true, true, false, true, false, false, true, true, false, false, true, false, false, true, true, false] Try.f22) st) := GE.region_step (id := 13) (GE.reg_of (by kernel_rfl)) (by kernel_rfl)
theorem n22_52s : codeB Try.prog E ⟨f, 46, b, ro⟩ n22_52 st = plainS (runOps Try.prog E b q22_52 (ops [true, true, true, false, true, false, false, true, true, false, false, true, false, false, true, true, true, false, false] Try.f22) st) := GE.region_step (id := 14) (GE.reg_of (by kernel_rfl)) (by kernel_rfl)
theorem n22_53s : codeB Try.prog LL ⟨22, 46, b, ro⟩ n22_53 st = normS b ⟨[2], []⟩ .ret st := GE.ret_step (by kernel_rfl) (by kernel_rfl)
theorem n22_51s : codeB Try.prog E cx n22_51 st = thenS (codeB Try.prog E cx n22_52 st) (codeB Try.prog E cx n22_53) := GE.seq_step (by kernel_rfl)
theorem n22_54s : codeB Try.prog E cx n22_54 st = some (.normal, st) := GE.skip_step (by kernel_rfl)
theorem n22_50s : codeB Try.prog E cx n22_50 st = condS (codeB Try.prog E cx n22_51) (codeB Try.prog E cx n22_54) (lk st.σ 38) st := GE.cond_step (c := .tmp 38) (by kernel_rfl)
theorem n22_48s : codeB Try.prog E cx n22_48 st = thenS (codeB Try.prog E cx n22_49 st) (codeB Try.prog E cx n22_50) := GE.seq_step (by kernel_rfl)
theorem n22_44s : codeB Try.prog E cx n22_44 st = condS (codeB Try.prog E cx n22_45) (codeB Try.prog E cx n22_48) (lk st.σ 34) st := GE.cond_step (c := .tmp 34) (by kernel_rfl)
theorem n22_42s : codeB Try.prog E cx n22_42 st = thenS (codeB Try.prog E cx n22_43 st) (codeB Try.prog E cx n22_44) := GE.seq_step (by kernel_rfl)
theorem n22_41s : codeB Try.prog E cx n22_41 st = blockS 3 (codeB Try.prog E cx n22_42 st) st := GE.block_step (by kernel_rfl)
theorem n22_55s : codeB Try.prog E ⟨f, 46, b, ro⟩ n22_55 st = plainS (runOps Try.prog E b q22_55 (ops [true, true, true, false, true, false, false, true, true, false, false, true, true] Try.f22) st) := GE.region_step (id := 15) (GE.reg_of (by kernel_rfl)) (by kernel_rfl)
theorem n22_40s : codeB Try.prog E cx n22_40 st = thenS (codeB Try.prog E cx n22_41 st) (codeB Try.prog E cx n22_55) := GE.seq_step (by kernel_rfl)
theorem n22_38s : codeB Try.prog E cx n22_38 st = thenS (codeB Try.prog E cx n22_39 st) (codeB Try.prog E cx n22_40) := GE.seq_step (by kernel_rfl)
theorem n22_37s : codeB Try.prog E cx n22_37 st = blockS 2 (codeB Try.prog E cx n22_38 st) st := GE.block_step (by kernel_rfl)
theorem n22_56s : codeB Try.prog E ⟨f, 46, b, ro⟩ n22_56 st = plainS (runOps Try.prog E b q22_56 (ops [true, true, true, false, true, false, false, true, true, true] Try.f22) st) := GE.region_step (id := 16) (GE.reg_of (by kernel_rfl)) (by kernel_rfl)
theorem n22_36s : codeB Try.prog E cx n22_36 st = thenS (codeB Try.prog E cx n22_37 st) (codeB Try.prog E cx n22_56) := GE.seq_step (by kernel_rfl)
theorem n22_32s : codeB Try.prog E cx n22_32 st = thenS (codeB Try.prog E cx n22_33 st) (codeB Try.prog E cx n22_36) := GE.seq_step (by kernel_rfl)
theorem n22_30s : codeB Try.prog E cx n22_30 st = thenS (codeB Try.prog E cx n22_31 st) (codeB Try.prog E cx n22_32) := GE.seq_step (by kernel_rfl)
theorem n22_29k : LL.kp (⟨22, 46, b, ro⟩ : Cx).fn (4 * rid n22_30 + 3) = some ⟨[3, 28, 29, 30], [⟨28, 0, 3, true⟩]⟩ := by kernel_rfl
theorem n22_29s : codeB Try.prog LL ⟨22, 46, b, ro⟩ n22_29 st = headS b ⟨[3, 28, 29, 30], [⟨28, 0, 3, true⟩]⟩ st (lpB Try.prog LL ⟨22, 46, b, ro⟩ n22_29 n22_30) := GE.lpB_step (by kernel_rfl) (n22_29k b ro)
theorem n22_29g : LL.code ⟨22, 46, b, ro⟩ n22_29 st = headS b ⟨[3, 28, 29, 30], [⟨28, 0, 3, true⟩]⟩ st (lpB Try.prog LL ⟨22, 46, b, ro⟩ n22_29 n22_30) := GE.lpB_again (by kernel_rfl) (n22_29k b ro)
theorem n22_28s : codeB Try.prog E cx n22_28 st = blockS 1 (codeB Try.prog E cx n22_29 st) st := GE.block_step (by kernel_rfl)
theorem n22_26s : codeB Try.prog E cx n22_26 st = thenS (codeB Try.prog E cx n22_27 st) (codeB Try.prog E cx n22_28) := GE.seq_step (by kernel_rfl)
theorem n22_58s : codeB Try.prog E ⟨f, 46, b, ro⟩ n22_58 st = plainS (runOps Try.prog E b q22_58 (ops [true, true, true, true, false] Try.f22) st) := GE.region_step (id := 17) (GE.reg_of (by kernel_rfl)) (by kernel_rfl)
theorem n22_59s : codeB Try.prog LL ⟨22, 46, b, ro⟩ n22_59 st = normS b ⟨[2], []⟩ .ret st := GE.ret_step (by kernel_rfl) (by kernel_rfl)
theorem n22_57s : codeB Try.prog E cx n22_57 st = thenS (codeB Try.prog E cx n22_58 st) (codeB Try.prog E cx n22_59) := GE.seq_step (by kernel_rfl)
theorem n22_25s : codeB Try.prog E cx n22_25 st = thenS (codeB Try.prog E cx n22_26 st) (codeB Try.prog E cx n22_57) := GE.seq_step (by kernel_rfl)
theorem n22_23s : codeB Try.prog E cx n22_23 st = thenS (codeB Try.prog E cx n22_24 st) (codeB Try.prog E cx n22_25) := GE.seq_step (by kernel_rfl)
theorem n22_2s : codeB Try.prog E cx n22_2 st = thenS (codeB Try.prog E cx n22_3 st) (codeB Try.prog E cx n22_23) := GE.seq_step (by kernel_rfl)
theorem n22_0s : codeB Try.prog E cx n22_0 st = thenS (codeB Try.prog E cx n22_1 st) (codeB Try.prog E cx n22_2) := GE.seq_step (by kernel_rfl)
noncomputable def n23_0 : Code := bodyOf Try.f23
noncomputable def n23_1 : Code := cl n23_0
noncomputable def q23_1 : List Oper := opsOf n23_1
noncomputable def n23_2 : Code := cr n23_0
noncomputable def n23_3 : Code := cl n23_2
noncomputable def n23_4 : Code := cl n23_3
noncomputable def q23_4 : List Oper := opsOf n23_4
noncomputable def n23_5 : Code := cr n23_3
noncomputable def n23_6 : Code := cl n23_5
noncomputable def n23_7 : Code := cl n23_6
noncomputable def q23_7 : List Oper := opsOf n23_7
noncomputable def n23_8 : Code := cr n23_6
noncomputable def n23_9 : Code := cr n23_5
noncomputable def n23_10 : Code := cr n23_2
noncomputable def n23_11 : Code := cl n23_10
noncomputable def n23_12 : Code := cl n23_11
noncomputable def q23_12 : List Oper := opsOf n23_12
noncomputable def n23_13 : Code := cr n23_11
noncomputable def n23_14 : Code := cl n23_13
noncomputable def n23_15 : Code := cl n23_14
noncomputable def q23_15 : List Oper := opsOf n23_15
noncomputable def n23_16 : Code := cr n23_14
noncomputable def n23_17 : Code := cr n23_13
noncomputable def n23_18 : Code := cr n23_10
noncomputable def n23_19 : Code := cl n23_18
noncomputable def n23_20 : Code := cl n23_19
noncomputable def q23_20 : List Oper := opsOf n23_20
noncomputable def n23_21 : Code := cr n23_19
noncomputable def n23_22 : Code := cl n23_21
noncomputable def n23_23 : Code := cl n23_22
noncomputable def q23_23 : List Oper := opsOf n23_23
noncomputable def n23_24 : Code := cr n23_22
noncomputable def n23_25 : Code := cr n23_21
noncomputable def n23_26 : Code := cr n23_18
noncomputable def n23_27 : Code := cl n23_26
noncomputable def n23_28 : Code := cl n23_27
noncomputable def q23_28 : List Oper := opsOf n23_28
noncomputable def n23_29 : Code := cr n23_27
noncomputable def n23_30 : Code := cl n23_29
noncomputable def n23_31 : Code := cl n23_30
noncomputable def n23_32 : Code := cl n23_31
noncomputable def n23_33 : Code := cl n23_32
noncomputable def q23_33 : List Oper := opsOf n23_33
noncomputable def n23_34 : Code := cr n23_32
noncomputable def n23_35 : Code := cl n23_34
noncomputable def n23_36 : Code := cr n23_34
noncomputable def n23_37 : Code := cr n23_31
noncomputable def n23_38 : Code := cl n23_37
noncomputable def n23_39 : Code := cl n23_38
noncomputable def n23_40 : Code := cl n23_39
noncomputable def q23_40 : List Oper := opsOf n23_40
noncomputable def n23_41 : Code := cr n23_39
noncomputable def n23_42 : Code := cl n23_41
noncomputable def n23_43 : Code := cl n23_42
noncomputable def q23_43 : List Oper := opsOf n23_43
noncomputable def n23_44 : Code := cr n23_42
noncomputable def n23_45 : Code := cl n23_44
noncomputable def n23_46 : Code := cl n23_45
noncomputable def q23_46 : List Oper := opsOf n23_46
noncomputable def n23_47 : Code := cr n23_45
noncomputable def n23_48 : Code := cr n23_44
noncomputable def n23_49 : Code := cr n23_41
noncomputable def n23_50 : Code := cl n23_49
noncomputable def q23_50 : List Oper := opsOf n23_50
noncomputable def n23_51 : Code := cr n23_49
noncomputable def n23_52 : Code := cl n23_51
noncomputable def n23_53 : Code := cl n23_52
noncomputable def q23_53 : List Oper := opsOf n23_53
noncomputable def n23_54 : Code := cr n23_52
noncomputable def n23_55 : Code := cr n23_51
noncomputable def n23_56 : Code := cr n23_37
noncomputable def q23_56 : List Oper := opsOf n23_56
noncomputable def n23_57 : Code := cr n23_26
noncomputable def n23_58 : Code := cl n23_57
noncomputable def q23_58 : List Oper := opsOf n23_58
noncomputable def n23_59 : Code := cr n23_57
theorem body23 : Try.f23.body = some n23_0 := by kernel_rfl
theorem run23 (E : Ev) (args : List Value) (h : List Blk) (hl : args.length ≤ 69) : runB Try.prog E 23 args h = endS Try.prog [.tmp 2] h.length (codeB Try.prog E ⟨23, 69, h.length, none⟩ n23_0 ⟨enumT 0 args, h, []⟩) := GE.run_step Try.func23 body23 (by kernel_rfl) (by decide) (by kernel_rfl) hl
theorem n23_1s : codeB Try.prog E ⟨f, 69, b, ro⟩ n23_1 st = plainS (runOps Try.prog E b q23_1 (ops [false] Try.f23) st) := GE.region_step (id := 0) (GE.reg_of (by kernel_rfl)) (by kernel_rfl)
theorem q23_4g4 : gd q23_4 4 = some 9 := by kernel_rfl
theorem n23_4s : codeB Try.prog E ⟨f, 69, b, ro⟩ n23_4 st = plainS (runOps Try.prog E b q23_4 (ops [true, false, false] Try.f23) st) := GE.region_step (id := 1) (GE.reg_of (by kernel_rfl)) (by kernel_rfl)
theorem n23_7s : codeB Try.prog E ⟨f, 69, b, ro⟩ n23_7 st = plainS (runOps Try.prog E b q23_7 (ops [true, false, true, false, false] Try.f23) st) := GE.region_step (id := 2) (GE.reg_of (by kernel_rfl)) (by kernel_rfl)
theorem n23_8s : codeB Try.prog LL ⟨23, 69, b, ro⟩ n23_8 st = normS b ⟨[2], []⟩ .ret st := GE.ret_step (by kernel_rfl) (by kernel_rfl)
theorem n23_6s : codeB Try.prog E cx n23_6 st = thenS (codeB Try.prog E cx n23_7 st) (codeB Try.prog E cx n23_8) := GE.seq_step (by kernel_rfl)
theorem n23_9s : codeB Try.prog E cx n23_9 st = some (.normal, st) := GE.skip_step (by kernel_rfl)
theorem n23_5s : codeB Try.prog E cx n23_5 st = condS (codeB Try.prog E cx n23_6) (codeB Try.prog E cx n23_9) (lk st.σ 14) st := GE.cond_step (c := .tmp 14) (by kernel_rfl)
theorem n23_3s : codeB Try.prog E cx n23_3 st = thenS (codeB Try.prog E cx n23_4 st) (codeB Try.prog E cx n23_5) := GE.seq_step (by kernel_rfl)
theorem n23_12s : codeB Try.prog E ⟨f, 69, b, ro⟩ n23_12 st = plainS (runOps Try.prog E b q23_12 (ops [true, true, false, false] Try.f23) st) := GE.region_step (id := 3) (GE.reg_of (by kernel_rfl)) (by kernel_rfl)
theorem n23_15s : codeB Try.prog E ⟨f, 69, b, ro⟩ n23_15 st = plainS (runOps Try.prog E b q23_15 (ops [true, true, false, true, false, false] Try.f23) st) := GE.region_step (id := 4) (GE.reg_of (by kernel_rfl)) (by kernel_rfl)
theorem n23_16s : codeB Try.prog LL ⟨23, 69, b, ro⟩ n23_16 st = normS b ⟨[2], []⟩ .ret st := GE.ret_step (by kernel_rfl) (by kernel_rfl)
theorem n23_14s : codeB Try.prog E cx n23_14 st = thenS (codeB Try.prog E cx n23_15 st) (codeB Try.prog E cx n23_16) := GE.seq_step (by kernel_rfl)
theorem n23_17s : codeB Try.prog E cx n23_17 st = some (.normal, st) := GE.skip_step (by kernel_rfl)
theorem n23_13s : codeB Try.prog E cx n23_13 st = condS (codeB Try.prog E cx n23_14) (codeB Try.prog E cx n23_17) (lk st.σ 18) st := GE.cond_step (c := .tmp 18) (by kernel_rfl)
theorem n23_11s : codeB Try.prog E cx n23_11 st = thenS (codeB Try.prog E cx n23_12 st) (codeB Try.prog E cx n23_13) := GE.seq_step (by kernel_rfl)
theorem n23_20s : codeB Try.prog E ⟨f, 69, b, ro⟩ n23_20 st = plainS (runOps Try.prog E b q23_20 (ops [true, true, true, false, false] Try.f23) st) := GE.region_step (id := 5) (GE.reg_of (by kernel_rfl)) (by kernel_rfl)
theorem n23_23s : codeB Try.prog E ⟨f, 69, b, ro⟩ n23_23 st = plainS (runOps Try.prog E b q23_23 (ops [true, true, true, false, true, false, false] Try.f23) st) := GE.region_step (id := 6) (GE.reg_of (by kernel_rfl)) (by kernel_rfl)
theorem n23_24s : codeB Try.prog LL ⟨23, 69, b, ro⟩ n23_24 st = normS b ⟨[2], []⟩ .ret st := GE.ret_step (by kernel_rfl) (by kernel_rfl)
theorem n23_22s : codeB Try.prog E cx n23_22 st = thenS (codeB Try.prog E cx n23_23 st) (codeB Try.prog E cx n23_24) := GE.seq_step (by kernel_rfl)
theorem n23_25s : codeB Try.prog E cx n23_25 st = some (.normal, st) := GE.skip_step (by kernel_rfl)
theorem n23_21s : codeB Try.prog E cx n23_21 st = condS (codeB Try.prog E cx n23_22) (codeB Try.prog E cx n23_25) (lk st.σ 22) st := GE.cond_step (c := .tmp 22) (by kernel_rfl)
theorem n23_19s : codeB Try.prog E cx n23_19 st = thenS (codeB Try.prog E cx n23_20 st) (codeB Try.prog E cx n23_21) := GE.seq_step (by kernel_rfl)
theorem n23_28s : codeB Try.prog E ⟨f, 69, b, ro⟩ n23_28 st = plainS (runOps Try.prog E b q23_28 (ops [true, true, true, true, false, false] Try.f23) st) := GE.region_step (id := 7) (GE.reg_of (by kernel_rfl)) (by kernel_rfl)
theorem n23_33s : codeB Try.prog E ⟨f, 69, b, ro⟩ n23_33 st = plainS (runOps Try.prog E b q23_33 (ops [true, true, true, true, false, true, false, false, false, false] Try.f23) st) := GE.region_step (id := 8) (GE.reg_of (by kernel_rfl)) (by kernel_rfl)
theorem n23_35s : codeB Try.prog E cx n23_35 st = some (.normal, st) := GE.skip_step (by kernel_rfl)
theorem n23_36s : codeB Try.prog LL ⟨23, 69, b, ro⟩ n23_36 st = normS b ⟨[], []⟩ (.exit 0) st := GE.exit_step (by kernel_rfl) (by kernel_rfl)
theorem n23_34s : codeB Try.prog E cx n23_34 st = condS (codeB Try.prog E cx n23_35) (codeB Try.prog E cx n23_36) (lk st.σ 27) st := GE.cond_step (c := .tmp 27) (by kernel_rfl)
theorem n23_32s : codeB Try.prog E cx n23_32 st = thenS (codeB Try.prog E cx n23_33 st) (codeB Try.prog E cx n23_34) := GE.seq_step (by kernel_rfl)
theorem n23_40s : codeB Try.prog E ⟨f, 69, b, ro⟩ n23_40 st = plainS (runOps Try.prog E b q23_40 (ops [true, true, true, true, false, true, false, false, true, false, false, false] Try.f23) st) := GE.region_step (id := 10) (GE.reg_of (by kernel_rfl)) (by kernel_rfl)
theorem q23_43g4 : gd q23_43 4 = some 39 := by kernel_rfl
theorem q23_43g14 : gd q23_43 14 = some 49 := by kernel_rfl
theorem n23_43s : codeB Try.prog E ⟨f, 69, b, ro⟩ n23_43 st = plainS (runOps Try.prog E b q23_43 (ops [true, true, true, true, false, true, false, false, true, false, false, true, false, false] Try.f23) st) := GE.region_step (id := 11) (GE.reg_of (by kernel_rfl)) (by kernel_rfl)
theorem n23_46s : codeB Try.prog E ⟨f, 69, b, ro⟩ n23_46 st = plainS (runOps Try.prog E b q23_46 (ops [true, true, true, true, false, true, false, false, true, false, false, true, false, true, false, false] Try.f23) st) := GE.region_step (id := 12) (GE.reg_of (by kernel_rfl)) (by kernel_rfl)
theorem n23_47s : codeB Try.prog LL ⟨23, 69, b, ro⟩ n23_47 st = normS b ⟨[2], []⟩ .ret st := GE.ret_step (by kernel_rfl) (by kernel_rfl)
theorem n23_45s : codeB Try.prog E cx n23_45 st = thenS (codeB Try.prog E cx n23_46 st) (codeB Try.prog E cx n23_47) := GE.seq_step (by kernel_rfl)
theorem n23_48s : codeB Try.prog E cx n23_48 st = some (.normal, st) := GE.skip_step (by kernel_rfl)
theorem n23_44s : codeB Try.prog E cx n23_44 st = condS (codeB Try.prog E cx n23_45) (codeB Try.prog E cx n23_48) (lk st.σ 54) st := GE.cond_step (c := .tmp 54) (by kernel_rfl)
theorem n23_42s : codeB Try.prog E cx n23_42 st = thenS (codeB Try.prog E cx n23_43 st) (codeB Try.prog E cx n23_44) := GE.seq_step (by kernel_rfl)
theorem q23_50g2 : gd q23_50 2 = some 57 := by kernel_rfl
theorem n23_50s : codeB Try.prog E ⟨f, 69, b, ro⟩ n23_50 st = drawS [0, 1, 3, 7, 15, 7, 39, 7, 135, 487, 999, 2023, 4095, 8191] (runOpsF Try.prog E b q23_50 (ops [true, true, true, true, false, true, false, false, true, false, false, true, true, false] Try.f23) st) := GE.draw_step (id := 13) (GE.reg_of (by kernel_rfl)) (by kernel_rfl) (by kernel_rfl) (by kernel_rfl)
theorem n23_53s : codeB Try.prog E ⟨f, 69, b, ro⟩ n23_53 st = plainS (runOps Try.prog E b q23_53 (ops [true, true, true, true, false, true, false, false, true, false, false, true, true, true, false, false] Try.f23) st) := GE.region_step (id := 14) (GE.reg_of (by kernel_rfl)) (by kernel_rfl)
theorem n23_54s : codeB Try.prog LL ⟨23, 69, b, ro⟩ n23_54 st = normS b ⟨[2], []⟩ .ret st := GE.ret_step (by kernel_rfl) (by kernel_rfl)
theorem n23_52s : codeB Try.prog E cx n23_52 st = thenS (codeB Try.prog E cx n23_53 st) (codeB Try.prog E cx n23_54) := GE.seq_step (by kernel_rfl)
theorem n23_55s : codeB Try.prog E cx n23_55 st = some (.normal, st) := GE.skip_step (by kernel_rfl)
theorem n23_51s : codeB Try.prog E cx n23_51 st = condS (codeB Try.prog E cx n23_52) (codeB Try.prog E cx n23_55) (lk st.σ 68) st := GE.cond_step (c := .tmp 68) (by kernel_rfl)
theorem n23_49s : codeB Try.prog E cx n23_49 st = thenS (codeB Try.prog E cx n23_50 st) (codeB Try.prog E cx n23_51) := GE.seq_step (by kernel_rfl)
theorem n23_41s : codeB Try.prog E cx n23_41 st = thenS (codeB Try.prog E cx n23_42 st) (codeB Try.prog E cx n23_49) := GE.seq_step (by kernel_rfl)
theorem n23_39s : codeB Try.prog E cx n23_39 st = thenS (codeB Try.prog E cx n23_40 st) (codeB Try.prog E cx n23_41) := GE.seq_step (by kernel_rfl)
theorem n23_38s : codeB Try.prog E cx n23_38 st = blockS 1 (codeB Try.prog E cx n23_39 st) st := GE.block_step (by kernel_rfl)
theorem n23_56s : codeB Try.prog E ⟨f, 69, b, ro⟩ n23_56 st = plainS (runOps Try.prog E b q23_56 (ops [true, true, true, true, false, true, false, false, true, true] Try.f23) st) := GE.region_step (id := 9) (GE.reg_of (by kernel_rfl)) (by kernel_rfl)
theorem n23_37s : codeB Try.prog E cx n23_37 st = thenS (codeB Try.prog E cx n23_38 st) (codeB Try.prog E cx n23_56) := GE.seq_step (by kernel_rfl)
theorem n23_31s : codeB Try.prog E cx n23_31 st = thenS (codeB Try.prog E cx n23_32 st) (codeB Try.prog E cx n23_37) := GE.seq_step (by kernel_rfl)
theorem n23_30k : LL.kp (⟨23, 69, b, ro⟩ : Cx).fn (4 * rid n23_31 + 3) = some ⟨[1, 3], [⟨1, 2, 3, true⟩]⟩ := by kernel_rfl
theorem n23_30s : codeB Try.prog LL ⟨23, 69, b, ro⟩ n23_30 st = headS b ⟨[1, 3], [⟨1, 2, 3, true⟩]⟩ st (lpB Try.prog LL ⟨23, 69, b, ro⟩ n23_30 n23_31) := GE.lpB_step (by kernel_rfl) (n23_30k b ro)
theorem n23_30g : LL.code ⟨23, 69, b, ro⟩ n23_30 st = headS b ⟨[1, 3], [⟨1, 2, 3, true⟩]⟩ st (lpB Try.prog LL ⟨23, 69, b, ro⟩ n23_30 n23_31) := GE.lpB_again (by kernel_rfl) (n23_30k b ro)
theorem n23_29s : codeB Try.prog E cx n23_29 st = blockS 0 (codeB Try.prog E cx n23_30 st) st := GE.block_step (by kernel_rfl)
theorem n23_27s : codeB Try.prog E cx n23_27 st = thenS (codeB Try.prog E cx n23_28 st) (codeB Try.prog E cx n23_29) := GE.seq_step (by kernel_rfl)
theorem n23_58s : codeB Try.prog E ⟨f, 69, b, ro⟩ n23_58 st = plainS (runOps Try.prog E b q23_58 (ops [true, true, true, true, true, false] Try.f23) st) := GE.region_step (id := 15) (GE.reg_of (by kernel_rfl)) (by kernel_rfl)
theorem n23_59s : codeB Try.prog LL ⟨23, 69, b, ro⟩ n23_59 st = normS b ⟨[2], []⟩ .ret st := GE.ret_step (by kernel_rfl) (by kernel_rfl)
theorem n23_57s : codeB Try.prog E cx n23_57 st = thenS (codeB Try.prog E cx n23_58 st) (codeB Try.prog E cx n23_59) := GE.seq_step (by kernel_rfl)
theorem n23_26s : codeB Try.prog E cx n23_26 st = thenS (codeB Try.prog E cx n23_27 st) (codeB Try.prog E cx n23_57) := GE.seq_step (by kernel_rfl)
theorem n23_18s : codeB Try.prog E cx n23_18 st = thenS (codeB Try.prog E cx n23_19 st) (codeB Try.prog E cx n23_26) := GE.seq_step (by kernel_rfl)
theorem n23_10s : codeB Try.prog E cx n23_10 st = thenS (codeB Try.prog E cx n23_11 st) (codeB Try.prog E cx n23_18) := GE.seq_step (by kernel_rfl)
theorem n23_2s : codeB Try.prog E cx n23_2 st = thenS (codeB Try.prog E cx n23_3 st) (codeB Try.prog E cx n23_10) := GE.seq_step (by kernel_rfl)
theorem n23_0s : codeB Try.prog E cx n23_0 st = thenS (codeB Try.prog E cx n23_1 st) (codeB Try.prog E cx n23_2) := GE.seq_step (by kernel_rfl)
noncomputable def n54_0 : Code := bodyOf Try.f54
noncomputable def n54_1 : Code := cl n54_0
noncomputable def q54_1 : List Oper := opsOf n54_1
noncomputable def n54_2 : Code := cr n54_0
noncomputable def n54_3 : Code := cl n54_2
noncomputable def q54_3 : List Oper := opsOf n54_3
noncomputable def n54_4 : Code := cr n54_2
theorem body54 : Try.f54.body = some n54_0 := by kernel_rfl
theorem run54 (E : Ev) (args : List Value) (h : List Blk) (hl : args.length ≤ 15) : runB Try.prog E 54 args h = endS Try.prog [.tmp 6] h.length (codeB Try.prog E ⟨54, 15, h.length, none⟩ n54_0 ⟨enumT 0 args, h, []⟩) := GE.run_step Try.func54 body54 (by kernel_rfl) (by decide) (by kernel_rfl) hl
theorem n54_1s : codeB Try.prog E ⟨f, 15, b, ro⟩ n54_1 st = plainS (runOps Try.prog E b q54_1 (ops [false] Try.f54) st) := GE.region_step (id := 0) (GE.reg_of (by kernel_rfl)) (by kernel_rfl)
theorem q54_3g3 : gd q54_3 3 = some 10 := by kernel_rfl
theorem n54_3s : codeB Try.prog E ⟨f, 15, b, ro⟩ n54_3 st = plainS (runOps Try.prog E b q54_3 (ops [true, false] Try.f54) st) := GE.region_step (id := 1) (GE.reg_of (by kernel_rfl)) (by kernel_rfl)
theorem n54_4s : codeB Try.prog LL ⟨54, 15, b, ro⟩ n54_4 st = normS b ⟨[6], []⟩ .ret st := GE.ret_step (by kernel_rfl) (by kernel_rfl)
theorem n54_2s : codeB Try.prog E cx n54_2 st = thenS (codeB Try.prog E cx n54_3 st) (codeB Try.prog E cx n54_4) := GE.seq_step (by kernel_rfl)
theorem n54_0s : codeB Try.prog E cx n54_0 st = thenS (codeB Try.prog E cx n54_1 st) (codeB Try.prog E cx n54_2) := GE.seq_step (by kernel_rfl)
noncomputable def n56_0 : Code := bodyOf Try.f56
noncomputable def n56_1 : Code := cl n56_0
noncomputable def q56_1 : List Oper := opsOf n56_1
noncomputable def n56_2 : Code := cr n56_0
noncomputable def n56_3 : Code := cl n56_2
noncomputable def q56_3 : List Oper := opsOf n56_3
noncomputable def n56_4 : Code := cr n56_2
theorem body56 : Try.f56.body = some n56_0 := by kernel_rfl
theorem run56 (E : Ev) (args : List Value) (h : List Blk) (hl : args.length ≤ 15) : runB Try.prog E 56 args h = endS Try.prog [.tmp 6] h.length (codeB Try.prog E ⟨56, 15, h.length, none⟩ n56_0 ⟨enumT 0 args, h, []⟩) := GE.run_step Try.func56 body56 (by kernel_rfl) (by decide) (by kernel_rfl) hl
theorem n56_1s : codeB Try.prog E ⟨f, 15, b, ro⟩ n56_1 st = plainS (runOps Try.prog E b q56_1 (ops [false] Try.f56) st) := GE.region_step (id := 0) (GE.reg_of (by kernel_rfl)) (by kernel_rfl)
theorem q56_3g3 : gd q56_3 3 = some 10 := by kernel_rfl
theorem n56_3s : codeB Try.prog E ⟨f, 15, b, ro⟩ n56_3 st = plainS (runOps Try.prog E b q56_3 (ops [true, false] Try.f56) st) := GE.region_step (id := 1) (GE.reg_of (by kernel_rfl)) (by kernel_rfl)
theorem n56_4s : codeB Try.prog LL ⟨56, 15, b, ro⟩ n56_4 st = normS b ⟨[6], []⟩ .ret st := GE.ret_step (by kernel_rfl) (by kernel_rfl)
theorem n56_2s : codeB Try.prog E cx n56_2 st = thenS (codeB Try.prog E cx n56_3 st) (codeB Try.prog E cx n56_4) := GE.seq_step (by kernel_rfl)
theorem n56_0s : codeB Try.prog E cx n56_0 st = thenS (codeB Try.prog E cx n56_1 st) (codeB Try.prog E cx n56_2) := GE.seq_step (by kernel_rfl)
noncomputable def n57_0 : Code := bodyOf Try.f57
noncomputable def n57_1 : Code := cl n57_0
noncomputable def q57_1 : List Oper := opsOf n57_1
noncomputable def n57_2 : Code := cr n57_0
noncomputable def n57_3 : Code := cl n57_2
noncomputable def q57_3 : List Oper := opsOf n57_3
noncomputable def n57_4 : Code := cr n57_2
theorem body57 : Try.f57.body = some n57_0 := by kernel_rfl
theorem run57 (E : Ev) (args : List Value) (h : List Blk) (hl : args.length ≤ 21) : runB Try.prog E 57 args h = endS Try.prog [.tmp 2] h.length (codeB Try.prog E ⟨57, 21, h.length, none⟩ n57_0 ⟨enumT 0 args, h, []⟩) := GE.run_step Try.func57 body57 (by kernel_rfl) (by decide) (by kernel_rfl) hl
theorem n57_1s : codeB Try.prog E ⟨f, 21, b, ro⟩ n57_1 st = plainS (runOps Try.prog E b q57_1 (ops [false] Try.f57) st) := GE.region_step (id := 0) (GE.reg_of (by kernel_rfl)) (by kernel_rfl)
theorem q57_3g3 : gd q57_3 3 = some 6 := by kernel_rfl
theorem q57_3g12 : gd q57_3 12 = some 15 := by kernel_rfl
theorem n57_3s : codeB Try.prog E ⟨f, 21, b, ro⟩ n57_3 st = plainS (runOps Try.prog E b q57_3 (ops [true, false] Try.f57) st) := GE.region_step (id := 1) (GE.reg_of (by kernel_rfl)) (by kernel_rfl)
theorem n57_4s : codeB Try.prog LL ⟨57, 21, b, ro⟩ n57_4 st = normS b ⟨[2], []⟩ .ret st := GE.ret_step (by kernel_rfl) (by kernel_rfl)
theorem n57_2s : codeB Try.prog E cx n57_2 st = thenS (codeB Try.prog E cx n57_3 st) (codeB Try.prog E cx n57_4) := GE.seq_step (by kernel_rfl)
theorem n57_0s : codeB Try.prog E cx n57_0 st = thenS (codeB Try.prog E cx n57_1 st) (codeB Try.prog E cx n57_2) := GE.seq_step (by kernel_rfl)
noncomputable def n58_0 : Code := bodyOf Try.f58
noncomputable def n58_1 : Code := cl n58_0
noncomputable def q58_1 : List Oper := opsOf n58_1
noncomputable def n58_2 : Code := cr n58_0
noncomputable def n58_3 : Code := cl n58_2
noncomputable def q58_3 : List Oper := opsOf n58_3
noncomputable def n58_4 : Code := cr n58_2
noncomputable def n58_5 : Code := cl n58_4
noncomputable def q58_5 : List Oper := opsOf n58_5
noncomputable def n58_6 : Code := cr n58_4
theorem body58 : Try.f58.body = some n58_0 := by kernel_rfl
theorem run58 (E : Ev) (args : List Value) (h : List Blk) (hl : args.length ≤ 27) : runB Try.prog E 58 args h = endS Try.prog [.tmp 6] h.length (codeB Try.prog E ⟨58, 27, h.length, none⟩ n58_0 ⟨enumT 0 args, h, []⟩) := GE.run_step Try.func58 body58 (by kernel_rfl) (by decide) (by kernel_rfl) hl
theorem n58_1s : codeB Try.prog E ⟨f, 27, b, ro⟩ n58_1 st = plainS (runOps Try.prog E b q58_1 (ops [false] Try.f58) st) := GE.region_step (id := 0) (GE.reg_of (by kernel_rfl)) (by kernel_rfl)
theorem n58_3s : codeB Try.prog E ⟨f, 27, b, ro⟩ n58_3 st = plainS (runOps Try.prog E b q58_3 (ops [true, false] Try.f58) st) := GE.region_step (id := 1) (GE.reg_of (by kernel_rfl)) (by kernel_rfl)
theorem q58_5g6 : gd q58_5 6 = some 19 := by kernel_rfl
theorem n58_5s : codeB Try.prog E ⟨f, 27, b, ro⟩ n58_5 st = plainS (runOps Try.prog E b q58_5 (ops [true, true, false] Try.f58) st) := GE.region_step (id := 2) (GE.reg_of (by kernel_rfl)) (by kernel_rfl)
theorem n58_6s : codeB Try.prog LL ⟨58, 27, b, ro⟩ n58_6 st = normS b ⟨[6], []⟩ .ret st := GE.ret_step (by kernel_rfl) (by kernel_rfl)
theorem n58_4s : codeB Try.prog E cx n58_4 st = thenS (codeB Try.prog E cx n58_5 st) (codeB Try.prog E cx n58_6) := GE.seq_step (by kernel_rfl)
theorem n58_2s : codeB Try.prog E cx n58_2 st = thenS (codeB Try.prog E cx n58_3 st) (codeB Try.prog E cx n58_4) := GE.seq_step (by kernel_rfl)
theorem n58_0s : codeB Try.prog E cx n58_0 st = thenS (codeB Try.prog E cx n58_1 st) (codeB Try.prog E cx n58_2) := GE.seq_step (by kernel_rfl)
noncomputable def n59_0 : Code := bodyOf Try.f59
noncomputable def n59_1 : Code := cl n59_0
noncomputable def q59_1 : List Oper := opsOf n59_1
noncomputable def n59_2 : Code := cr n59_0
noncomputable def n59_3 : Code := cl n59_2
noncomputable def q59_3 : List Oper := opsOf n59_3
noncomputable def n59_4 : Code := cr n59_2
noncomputable def n59_5 : Code := cl n59_4
noncomputable def q59_5 : List Oper := opsOf n59_5
noncomputable def n59_6 : Code := cr n59_4
theorem body59 : Try.f59.body = some n59_0 := by kernel_rfl
theorem run59 (E : Ev) (args : List Value) (h : List Blk) (hl : args.length ≤ 39) : runB Try.prog E 59 args h = endS Try.prog [.tmp 6] h.length (codeB Try.prog E ⟨59, 39, h.length, none⟩ n59_0 ⟨enumT 0 args, h, []⟩) := GE.run_step Try.func59 body59 (by kernel_rfl) (by decide) (by kernel_rfl) hl
theorem n59_1s : codeB Try.prog E ⟨f, 39, b, ro⟩ n59_1 st = plainS (runOps Try.prog E b q59_1 (ops [false] Try.f59) st) := GE.region_step (id := 0) (GE.reg_of (by kernel_rfl)) (by kernel_rfl)
theorem n59_3s : codeB Try.prog E ⟨f, 39, b, ro⟩ n59_3 st = plainS (runOps Try.prog E b q59_3 (ops [true, false] Try.f59) st) := GE.region_step (id := 1) (GE.reg_of (by kernel_rfl)) (by kernel_rfl)
theorem q59_5g12 : gd q59_5 12 = some 25 := by kernel_rfl
theorem n59_5s : codeB Try.prog E ⟨f, 39, b, ro⟩ n59_5 st = plainS (runOps Try.prog E b q59_5 (ops [true, true, false] Try.f59) st) := GE.region_step (id := 2) (GE.reg_of (by kernel_rfl)) (by kernel_rfl)
theorem n59_6s : codeB Try.prog LL ⟨59, 39, b, ro⟩ n59_6 st = normS b ⟨[6], []⟩ .ret st := GE.ret_step (by kernel_rfl) (by kernel_rfl)
theorem n59_4s : codeB Try.prog E cx n59_4 st = thenS (codeB Try.prog E cx n59_5 st) (codeB Try.prog E cx n59_6) := GE.seq_step (by kernel_rfl)
theorem n59_2s : codeB Try.prog E cx n59_2 st = thenS (codeB Try.prog E cx n59_3 st) (codeB Try.prog E cx n59_4) := GE.seq_step (by kernel_rfl)
theorem n59_0s : codeB Try.prog E cx n59_0 st = thenS (codeB Try.prog E cx n59_1 st) (codeB Try.prog E cx n59_2) := GE.seq_step (by kernel_rfl)
noncomputable def n85_0 : Code := bodyOf Try.f85
noncomputable def n85_1 : Code := cl n85_0
noncomputable def q85_1 : List Oper := opsOf n85_1
noncomputable def n85_2 : Code := cr n85_0
noncomputable def n85_3 : Code := cl n85_2
noncomputable def n85_4 : Code := cl n85_3
noncomputable def q85_4 : List Oper := opsOf n85_4
noncomputable def n85_5 : Code := cr n85_3
noncomputable def n85_6 : Code := cl n85_5
noncomputable def q85_6 : List Oper := opsOf n85_6
noncomputable def n85_7 : Code := cr n85_5
noncomputable def n85_8 : Code := cl n85_7
noncomputable def n85_9 : Code := cl n85_8
noncomputable def q85_9 : List Oper := opsOf n85_9
noncomputable def n85_10 : Code := cr n85_8
noncomputable def n85_11 : Code := cr n85_7
noncomputable def n85_12 : Code := cr n85_2
noncomputable def n85_13 : Code := cl n85_12
noncomputable def q85_13 : List Oper := opsOf n85_13
noncomputable def n85_14 : Code := cr n85_12
noncomputable def n85_15 : Code := cl n85_14
noncomputable def q85_15 : List Oper := opsOf n85_15
noncomputable def n85_16 : Code := cr n85_14
theorem body85 : Try.f85.body = some n85_0 := by kernel_rfl
theorem run85 (E : Ev) (args : List Value) (h : List Blk) (hl : args.length ≤ 53) : runB Try.prog E 85 args h = endS Try.prog [.cell 6 57] h.length (codeB Try.prog E ⟨85, 53, h.length, none⟩ n85_0 ⟨enumT 0 args, h, []⟩) := GE.run_step Try.func85 body85 (by kernel_rfl) (by decide) (by kernel_rfl) hl
theorem n85_1s : codeB Try.prog E ⟨f, 53, b, ro⟩ n85_1 st = plainS (runOps Try.prog E b q85_1 (ops [false] Try.f85) st) := GE.region_step (id := 0) (GE.reg_of (by kernel_rfl)) (by kernel_rfl)
theorem n85_4s : codeB Try.prog E ⟨f, 53, b, ro⟩ n85_4 st = plainS (runOps Try.prog E b q85_4 (ops [true, false, false] Try.f85) st) := GE.region_step (id := 1) (GE.reg_of (by kernel_rfl)) (by kernel_rfl)
theorem n85_6s : codeB Try.prog E ⟨f, 53, b, ro⟩ n85_6 st = plainS (runOps Try.prog E b q85_6 (ops [true, false, true, false] Try.f85) st) := GE.region_step (id := 2) (GE.reg_of (by kernel_rfl)) (by kernel_rfl)
theorem n85_9s : codeB Try.prog E ⟨f, 53, b, ro⟩ n85_9 st = plainS (runOps Try.prog E b q85_9 (ops [true, false, true, true, false, false] Try.f85) st) := GE.region_step (id := 3) (GE.reg_of (by kernel_rfl)) (by kernel_rfl)
theorem n85_10s : codeB Try.prog LL ⟨85, 53, b, ro⟩ n85_10 st = normS b ⟨[6], []⟩ .ret st := GE.ret_step (by kernel_rfl) (by kernel_rfl)
theorem n85_8s : codeB Try.prog E cx n85_8 st = thenS (codeB Try.prog E cx n85_9 st) (codeB Try.prog E cx n85_10) := GE.seq_step (by kernel_rfl)
theorem n85_11s : codeB Try.prog E cx n85_11 st = some (.normal, st) := GE.skip_step (by kernel_rfl)
theorem n85_7s : codeB Try.prog E cx n85_7 st = condS (codeB Try.prog E cx n85_8) (codeB Try.prog E cx n85_11) (lk st.σ 14) st := GE.cond_step (c := .tmp 14) (by kernel_rfl)
theorem n85_5s : codeB Try.prog E cx n85_5 st = thenS (codeB Try.prog E cx n85_6 st) (codeB Try.prog E cx n85_7) := GE.seq_step (by kernel_rfl)
theorem n85_3s : codeB Try.prog E cx n85_3 st = thenS (codeB Try.prog E cx n85_4 st) (codeB Try.prog E cx n85_5) := GE.seq_step (by kernel_rfl)
theorem n85_13s : codeB Try.prog E ⟨f, 53, b, ro⟩ n85_13 st = plainS (runOps Try.prog E b q85_13 (ops [true, true, false] Try.f85) st) := GE.region_step (id := 4) (GE.reg_of (by kernel_rfl)) (by kernel_rfl)
theorem n85_15s : codeB Try.prog E ⟨f, 53, b, ro⟩ n85_15 st = plainS (runOps Try.prog E b q85_15 (ops [true, true, true, false] Try.f85) st) := GE.region_step (id := 5) (GE.reg_of (by kernel_rfl)) (by kernel_rfl)
theorem n85_16s : codeB Try.prog LL ⟨85, 53, b, ro⟩ n85_16 st = normS b ⟨[6], []⟩ .ret st := GE.ret_step (by kernel_rfl) (by kernel_rfl)
theorem n85_14s : codeB Try.prog E cx n85_14 st = thenS (codeB Try.prog E cx n85_15 st) (codeB Try.prog E cx n85_16) := GE.seq_step (by kernel_rfl)
theorem n85_12s : codeB Try.prog E cx n85_12 st = thenS (codeB Try.prog E cx n85_13 st) (codeB Try.prog E cx n85_14) := GE.seq_step (by kernel_rfl)
theorem n85_2s : codeB Try.prog E cx n85_2 st = thenS (codeB Try.prog E cx n85_3 st) (codeB Try.prog E cx n85_12) := GE.seq_step (by kernel_rfl)
theorem n85_0s : codeB Try.prog E cx n85_0 st = thenS (codeB Try.prog E cx n85_1 st) (codeB Try.prog E cx n85_2) := GE.seq_step (by kernel_rfl)
noncomputable def n88_0 : Code := bodyOf Try.f88
noncomputable def n88_1 : Code := cl n88_0
noncomputable def q88_1 : List Oper := opsOf n88_1
noncomputable def n88_2 : Code := cr n88_0
noncomputable def n88_3 : Code := cl n88_2
noncomputable def q88_3 : List Oper := opsOf n88_3
noncomputable def n88_4 : Code := cr n88_2
noncomputable def n88_5 : Code := cl n88_4
noncomputable def q88_5 : List Oper := opsOf n88_5
noncomputable def n88_6 : Code := cr n88_4
theorem body88 : Try.f88.body = some n88_0 := by kernel_rfl
theorem run88 (E : Ev) (args : List Value) (h : List Blk) (hl : args.length ≤ 15) : runB Try.prog E 88 args h = endS Try.prog [.tmp 4] h.length (codeB Try.prog E ⟨88, 15, h.length, none⟩ n88_0 ⟨enumT 0 args, h, []⟩) := GE.run_step Try.func88 body88 (by kernel_rfl) (by decide) (by kernel_rfl) hl
theorem n88_1s : codeB Try.prog E ⟨f, 15, b, ro⟩ n88_1 st = plainS (runOps Try.prog E b q88_1 (ops [false] Try.f88) st) := GE.region_step (id := 0) (GE.reg_of (by kernel_rfl)) (by kernel_rfl)
theorem n88_3s : codeB Try.prog E ⟨f, 15, b, ro⟩ n88_3 st = plainS (runOps Try.prog E b q88_3 (ops [true, false] Try.f88) st) := GE.region_step (id := 1) (GE.reg_of (by kernel_rfl)) (by kernel_rfl)
theorem n88_5s : codeB Try.prog E ⟨f, 15, b, ro⟩ n88_5 st = plainS (runOps Try.prog E b q88_5 (ops [true, true, false] Try.f88) st) := GE.region_step (id := 2) (GE.reg_of (by kernel_rfl)) (by kernel_rfl)
theorem n88_6s : codeB Try.prog LL ⟨88, 15, b, ro⟩ n88_6 st = normS b ⟨[4], []⟩ .ret st := GE.ret_step (by kernel_rfl) (by kernel_rfl)
theorem n88_4s : codeB Try.prog E cx n88_4 st = thenS (codeB Try.prog E cx n88_5 st) (codeB Try.prog E cx n88_6) := GE.seq_step (by kernel_rfl)
theorem n88_2s : codeB Try.prog E cx n88_2 st = thenS (codeB Try.prog E cx n88_3 st) (codeB Try.prog E cx n88_4) := GE.seq_step (by kernel_rfl)
theorem n88_0s : codeB Try.prog E cx n88_0 st = thenS (codeB Try.prog E cx n88_1 st) (codeB Try.prog E cx n88_2) := GE.seq_step (by kernel_rfl)
noncomputable def n104_0 : Code := bodyOf Try.f104
noncomputable def n104_1 : Code := cl n104_0
noncomputable def q104_1 : List Oper := opsOf n104_1
noncomputable def n104_2 : Code := cr n104_0
noncomputable def n104_3 : Code := cl n104_2
noncomputable def q104_3 : List Oper := opsOf n104_3
noncomputable def n104_4 : Code := cr n104_2
noncomputable def n104_5 : Code := cl n104_4
noncomputable def q104_5 : List Oper := opsOf n104_5
noncomputable def n104_6 : Code := cr n104_4
noncomputable def n104_7 : Code := cl n104_6
noncomputable def n104_8 : Code := cl n104_7
noncomputable def n104_9 : Code := cl n104_8
noncomputable def n104_10 : Code := cl n104_9
noncomputable def n104_11 : Code := cl n104_10
noncomputable def q104_11 : List Oper := opsOf n104_11
noncomputable def n104_12 : Code := cr n104_10
noncomputable def n104_13 : Code := cl n104_12
noncomputable def n104_14 : Code := cr n104_12
noncomputable def n104_15 : Code := cr n104_9
noncomputable def n104_16 : Code := cl n104_15
noncomputable def n104_17 : Code := cl n104_16
noncomputable def q104_17 : List Oper := opsOf n104_17
noncomputable def n104_18 : Code := cr n104_16
noncomputable def n104_19 : Code := cl n104_18
noncomputable def q104_19 : List Oper := opsOf n104_19
noncomputable def n104_20 : Code := cr n104_18
noncomputable def n104_21 : Code := cl n104_20
noncomputable def q104_21 : List Oper := opsOf n104_21
noncomputable def n104_22 : Code := cr n104_20
noncomputable def q104_22 : List Oper := opsOf n104_22
noncomputable def n104_23 : Code := cr n104_6
noncomputable def n104_24 : Code := cl n104_23
noncomputable def q104_24 : List Oper := opsOf n104_24
noncomputable def n104_25 : Code := cr n104_23
theorem body104 : Try.f104.body = some n104_0 := by kernel_rfl
theorem run104 (E : Ev) (args : List Value) (h : List Blk) (hl : args.length ≤ 54) : runB Try.prog E 104 args h = endS Try.prog [.tmp 4, .tmp 5] h.length (codeB Try.prog E ⟨104, 54, h.length, none⟩ n104_0 ⟨enumT 0 args, h, []⟩) := GE.run_step Try.func104 body104 (by kernel_rfl) (by decide) (by kernel_rfl) hl
theorem n104_1s : codeB Try.prog E ⟨f, 54, b, ro⟩ n104_1 st = plainS (runOps Try.prog E b q104_1 (ops [false] Try.f104) st) := GE.region_step (id := 0) (GE.reg_of (by kernel_rfl)) (by kernel_rfl)
theorem n104_3s : codeB Try.prog E ⟨f, 54, b, ro⟩ n104_3 st = plainS (runOps Try.prog E b q104_3 (ops [true, false] Try.f104) st) := GE.region_step (id := 1) (GE.reg_of (by kernel_rfl)) (by kernel_rfl)
theorem n104_5s : codeB Try.prog E ⟨f, 54, b, ro⟩ n104_5 st = plainS (runOps Try.prog E b q104_5 (ops [true, true, false] Try.f104) st) := GE.region_step (id := 2) (GE.reg_of (by kernel_rfl)) (by kernel_rfl)
theorem n104_11s : codeB Try.prog E ⟨f, 54, b, ro⟩ n104_11 st = plainS (runOps Try.prog E b q104_11 (ops [true, true, true, false, false, false, false, false] Try.f104) st) := GE.region_step (id := 3) (GE.reg_of (by kernel_rfl)) (by kernel_rfl)
theorem n104_13s : codeB Try.prog E cx n104_13 st = some (.normal, st) := GE.skip_step (by kernel_rfl)
theorem n104_14s : codeB Try.prog LL ⟨104, 54, b, ro⟩ n104_14 st = normS b ⟨[0, 1, 6, 7], [⟨0, 0, 1, true⟩]⟩ (.exit 0) st := GE.exit_step (by kernel_rfl) (by kernel_rfl)
theorem n104_12s : codeB Try.prog E cx n104_12 st = condS (codeB Try.prog E cx n104_13) (codeB Try.prog E cx n104_14) (lk st.σ 15) st := GE.cond_step (c := .tmp 15) (by kernel_rfl)
theorem n104_10s : codeB Try.prog E cx n104_10 st = thenS (codeB Try.prog E cx n104_11 st) (codeB Try.prog E cx n104_12) := GE.seq_step (by kernel_rfl)
theorem n104_17s : codeB Try.prog E ⟨f, 54, b, ro⟩ n104_17 st = plainS (runOps Try.prog E b q104_17 (ops [true, true, true, false, false, false, true, false, false] Try.f104) st) := GE.region_step (id := 4) (GE.reg_of (by kernel_rfl)) (by kernel_rfl)
theorem n104_19s : codeB Try.prog E ⟨f, 54, b, ro⟩ n104_19 st = plainS (runOps Try.prog E b q104_19 (ops [true, true, true, false, false, false, true, false, true, false] Try.f104) st) := GE.region_step (id := 5) (GE.reg_of (by kernel_rfl)) (by kernel_rfl)
theorem n104_21s : codeB Try.prog E ⟨f, 54, b, ro⟩ n104_21 st = plainS (runOps Try.prog E b q104_21 (ops [true, true, true, false, false, false, true, false, true, true, false] Try.f104) st) := GE.region_step (id := 6) (GE.reg_of (by kernel_rfl)) (by kernel_rfl)
theorem n104_22s : codeB Try.prog E ⟨f, 54, b, ro⟩ n104_22 st = plainS (runOps Try.prog E b q104_22 (ops [true, true, true, false, false, false, true, false, true, true, true] Try.f104) st) := GE.region_step (id := 7) (GE.reg_of (by kernel_rfl)) (by kernel_rfl)
theorem n104_20s : codeB Try.prog E cx n104_20 st = condS (codeB Try.prog E cx n104_21) (codeB Try.prog E cx n104_22) (lk st.σ 27) st := GE.cond_step (c := .tmp 27) (by kernel_rfl)
theorem n104_18s : codeB Try.prog E cx n104_18 st = thenS (codeB Try.prog E cx n104_19 st) (codeB Try.prog E cx n104_20) := GE.seq_step (by kernel_rfl)
theorem n104_16s : codeB Try.prog E cx n104_16 st = thenS (codeB Try.prog E cx n104_17 st) (codeB Try.prog E cx n104_18) := GE.seq_step (by kernel_rfl)
theorem n104_15s : codeB Try.prog E cx n104_15 st = blockS 1 (codeB Try.prog E cx n104_16 st) st := GE.block_step (by kernel_rfl)
theorem n104_9s : codeB Try.prog E cx n104_9 st = thenS (codeB Try.prog E cx n104_10 st) (codeB Try.prog E cx n104_15) := GE.seq_step (by kernel_rfl)
theorem n104_8k : LL.kp (⟨104, 54, b, ro⟩ : Cx).fn (4 * rid n104_9 + 3) = some ⟨[0, 1, 6, 7, 8], [⟨0, 0, 1, true⟩]⟩ := by kernel_rfl
theorem n104_8s : codeB Try.prog LL ⟨104, 54, b, ro⟩ n104_8 st = headS b ⟨[0, 1, 6, 7, 8], [⟨0, 0, 1, true⟩]⟩ st (lpB Try.prog LL ⟨104, 54, b, ro⟩ n104_8 n104_9) := GE.lpB_step (by kernel_rfl) (n104_8k b ro)
theorem n104_8g : LL.code ⟨104, 54, b, ro⟩ n104_8 st = headS b ⟨[0, 1, 6, 7, 8], [⟨0, 0, 1, true⟩]⟩ st (lpB Try.prog LL ⟨104, 54, b, ro⟩ n104_8 n104_9) := GE.lpB_again (by kernel_rfl) (n104_8k b ro)
theorem n104_7s : codeB Try.prog E cx n104_7 st = blockS 0 (codeB Try.prog E cx n104_8 st) st := GE.block_step (by kernel_rfl)
theorem q104_24g4 : gd q104_24 4 = some 35 := by kernel_rfl
theorem q104_24g11 : gd q104_24 11 = some 42 := by kernel_rfl
theorem q104_24g17 : gd q104_24 17 = some 48 := by kernel_rfl
theorem n104_24s : codeB Try.prog E ⟨f, 54, b, ro⟩ n104_24 st = plainS (runOps Try.prog E b q104_24 (ops [true, true, true, true, false] Try.f104) st) := GE.region_step (id := 8) (GE.reg_of (by kernel_rfl)) (by kernel_rfl)
theorem n104_25s : codeB Try.prog LL ⟨104, 54, b, ro⟩ n104_25 st = normS b ⟨[4, 5], []⟩ .ret st := GE.ret_step (by kernel_rfl) (by kernel_rfl)
theorem n104_23s : codeB Try.prog E cx n104_23 st = thenS (codeB Try.prog E cx n104_24 st) (codeB Try.prog E cx n104_25) := GE.seq_step (by kernel_rfl)
theorem n104_6s : codeB Try.prog E cx n104_6 st = thenS (codeB Try.prog E cx n104_7 st) (codeB Try.prog E cx n104_23) := GE.seq_step (by kernel_rfl)
theorem n104_4s : codeB Try.prog E cx n104_4 st = thenS (codeB Try.prog E cx n104_5 st) (codeB Try.prog E cx n104_6) := GE.seq_step (by kernel_rfl)
theorem n104_2s : codeB Try.prog E cx n104_2 st = thenS (codeB Try.prog E cx n104_3 st) (codeB Try.prog E cx n104_4) := GE.seq_step (by kernel_rfl)
theorem n104_0s : codeB Try.prog E cx n104_0 st = thenS (codeB Try.prog E cx n104_1 st) (codeB Try.prog E cx n104_2) := GE.seq_step (by kernel_rfl)
noncomputable def n108_0 : Code := bodyOf Try.f108
noncomputable def n108_1 : Code := cl n108_0
noncomputable def q108_1 : List Oper := opsOf n108_1
noncomputable def n108_2 : Code := cr n108_0
noncomputable def n108_3 : Code := cl n108_2
noncomputable def q108_3 : List Oper := opsOf n108_3
noncomputable def n108_4 : Code := cr n108_2
theorem body108 : Try.f108.body = some n108_0 := by kernel_rfl
theorem run108 (E : Ev) (args : List Value) (h : List Blk) (hl : args.length ≤ 17) : runB Try.prog E 108 args h = endS Try.prog [.tmp 4] h.length (codeB Try.prog E ⟨108, 17, h.length, none⟩ n108_0 ⟨enumT 0 args, h, []⟩) := GE.run_step Try.func108 body108 (by kernel_rfl) (by decide) (by kernel_rfl) hl
theorem n108_1s : codeB Try.prog E ⟨f, 17, b, ro⟩ n108_1 st = plainS (runOps Try.prog E b q108_1 (ops [false] Try.f108) st) := GE.region_step (id := 0) (GE.reg_of (by kernel_rfl)) (by kernel_rfl)
theorem q108_3g2 : gd q108_3 2 = some 7 := by kernel_rfl
theorem q108_3g7 : gd q108_3 7 = some 12 := by kernel_rfl
theorem n108_3s : codeB Try.prog E ⟨f, 17, b, ro⟩ n108_3 st = plainS (runOps Try.prog E b q108_3 (ops [true, false] Try.f108) st) := GE.region_step (id := 1) (GE.reg_of (by kernel_rfl)) (by kernel_rfl)
theorem n108_4s : codeB Try.prog LL ⟨108, 17, b, ro⟩ n108_4 st = normS b ⟨[4], []⟩ .ret st := GE.ret_step (by kernel_rfl) (by kernel_rfl)
theorem n108_2s : codeB Try.prog E cx n108_2 st = thenS (codeB Try.prog E cx n108_3 st) (codeB Try.prog E cx n108_4) := GE.seq_step (by kernel_rfl)
theorem n108_0s : codeB Try.prog E cx n108_0 st = thenS (codeB Try.prog E cx n108_1 st) (codeB Try.prog E cx n108_2) := GE.seq_step (by kernel_rfl)
noncomputable def n109_0 : Code := bodyOf Try.f109
noncomputable def n109_1 : Code := cl n109_0
noncomputable def q109_1 : List Oper := opsOf n109_1
noncomputable def n109_2 : Code := cr n109_0
noncomputable def n109_3 : Code := cl n109_2
noncomputable def q109_3 : List Oper := opsOf n109_3
noncomputable def n109_4 : Code := cr n109_2
theorem body109 : Try.f109.body = some n109_0 := by kernel_rfl
theorem run109 (E : Ev) (args : List Value) (h : List Blk) (hl : args.length ≤ 6) : runB Try.prog E 109 args h = endS Try.prog [.tmp 2] h.length (codeB Try.prog E ⟨109, 6, h.length, none⟩ n109_0 ⟨enumT 0 args, h, []⟩) := GE.run_step Try.func109 body109 (by kernel_rfl) (by decide) (by kernel_rfl) hl
theorem n109_1s : codeB Try.prog E ⟨f, 6, b, ro⟩ n109_1 st = plainS (runOps Try.prog E b q109_1 (ops [false] Try.f109) st) := GE.region_step (id := 0) (GE.reg_of (by kernel_rfl)) (by kernel_rfl)
theorem n109_3s : codeB Try.prog E ⟨f, 6, b, ro⟩ n109_3 st = plainS (runOps Try.prog E b q109_3 (ops [true, false] Try.f109) st) := GE.region_step (id := 1) (GE.reg_of (by kernel_rfl)) (by kernel_rfl)
theorem n109_4s : codeB Try.prog LL ⟨109, 6, b, ro⟩ n109_4 st = normS b ⟨[2], []⟩ .ret st := GE.ret_step (by kernel_rfl) (by kernel_rfl)
theorem n109_2s : codeB Try.prog E cx n109_2 st = thenS (codeB Try.prog E cx n109_3 st) (codeB Try.prog E cx n109_4) := GE.seq_step (by kernel_rfl)
theorem n109_0s : codeB Try.prog E cx n109_0 st = thenS (codeB Try.prog E cx n109_1 st) (codeB Try.prog E cx n109_2) := GE.seq_step (by kernel_rfl)
noncomputable def n111_0 : Code := bodyOf Try.f111
noncomputable def n111_1 : Code := cl n111_0
noncomputable def q111_1 : List Oper := opsOf n111_1
noncomputable def n111_2 : Code := cr n111_0
noncomputable def n111_3 : Code := cl n111_2
noncomputable def q111_3 : List Oper := opsOf n111_3
noncomputable def n111_4 : Code := cr n111_2
theorem body111 : Try.f111.body = some n111_0 := by kernel_rfl
theorem run111 (E : Ev) (args : List Value) (h : List Blk) (hl : args.length ≤ 6) : runB Try.prog E 111 args h = endS Try.prog [.tmp 2] h.length (codeB Try.prog E ⟨111, 6, h.length, none⟩ n111_0 ⟨enumT 0 args, h, []⟩) := GE.run_step Try.func111 body111 (by kernel_rfl) (by decide) (by kernel_rfl) hl
theorem n111_1s : codeB Try.prog E ⟨f, 6, b, ro⟩ n111_1 st = plainS (runOps Try.prog E b q111_1 (ops [false] Try.f111) st) := GE.region_step (id := 0) (GE.reg_of (by kernel_rfl)) (by kernel_rfl)
theorem n111_3s : codeB Try.prog E ⟨f, 6, b, ro⟩ n111_3 st = plainS (runOps Try.prog E b q111_3 (ops [true, false] Try.f111) st) := GE.region_step (id := 1) (GE.reg_of (by kernel_rfl)) (by kernel_rfl)
theorem n111_4s : codeB Try.prog LL ⟨111, 6, b, ro⟩ n111_4 st = normS b ⟨[2], []⟩ .ret st := GE.ret_step (by kernel_rfl) (by kernel_rfl)
theorem n111_2s : codeB Try.prog E cx n111_2 st = thenS (codeB Try.prog E cx n111_3 st) (codeB Try.prog E cx n111_4) := GE.seq_step (by kernel_rfl)
theorem n111_0s : codeB Try.prog E cx n111_0 st = thenS (codeB Try.prog E cx n111_1 st) (codeB Try.prog E cx n111_2) := GE.seq_step (by kernel_rfl)
noncomputable def n84_0 : Code := bodyOf Try.f84
noncomputable def n84_1 : Code := cl n84_0
noncomputable def q84_1 : List Oper := opsOf n84_1
noncomputable def n84_2 : Code := cr n84_0
noncomputable def n84_3 : Code := cl n84_2
noncomputable def q84_3 : List Oper := opsOf n84_3
noncomputable def n84_4 : Code := cr n84_2
noncomputable def n84_5 : Code := cl n84_4
noncomputable def n84_6 : Code := cl n84_5
noncomputable def n84_7 : Code := cl n84_6
noncomputable def n84_8 : Code := cl n84_7
noncomputable def n84_9 : Code := cl n84_8
noncomputable def q84_9 : List Oper := opsOf n84_9
noncomputable def n84_10 : Code := cr n84_8
noncomputable def n84_11 : Code := cl n84_10
noncomputable def n84_12 : Code := cr n84_10
noncomputable def n84_13 : Code := cr n84_7
noncomputable def n84_14 : Code := cl n84_13
noncomputable def q84_14 : List Oper := opsOf n84_14
noncomputable def n84_15 : Code := cr n84_4
noncomputable def n84_16 : Code := cl n84_15
noncomputable def q84_16 : List Oper := opsOf n84_16
noncomputable def n84_17 : Code := cr n84_15
theorem body84 : Try.f84.body = some n84_0 := by kernel_rfl
theorem run84 (E : Ev) (args : List Value) (h : List Blk) (hl : args.length ≤ 21) : runB Try.prog E 84 args h = endS Try.prog [.tmp 4] h.length (codeB Try.prog E ⟨84, 21, h.length, none⟩ n84_0 ⟨enumT 0 args, h, []⟩) := GE.run_step Try.func84 body84 (by kernel_rfl) (by decide) (by kernel_rfl) hl
theorem n84_1s : codeB Try.prog E ⟨f, 21, b, ro⟩ n84_1 st = plainS (runOps Try.prog E b q84_1 (ops [false] Try.f84) st) := GE.region_step (id := 0) (GE.reg_of (by kernel_rfl)) (by kernel_rfl)
theorem n84_3s : codeB Try.prog E ⟨f, 21, b, ro⟩ n84_3 st = plainS (runOps Try.prog E b q84_3 (ops [true, false] Try.f84) st) := GE.region_step (id := 1) (GE.reg_of (by kernel_rfl)) (by kernel_rfl)
theorem q84_9g4 : gd q84_9 4 = some 10 := by kernel_rfl
theorem n84_9s : codeB Try.prog E ⟨f, 21, b, ro⟩ n84_9 st = plainS (runOps Try.prog E b q84_9 (ops [true, true, false, false, false, false, false] Try.f84) st) := GE.region_step (id := 2) (GE.reg_of (by kernel_rfl)) (by kernel_rfl)
theorem n84_11s : codeB Try.prog E cx n84_11 st = some (.normal, st) := GE.skip_step (by kernel_rfl)
theorem n84_12s : codeB Try.prog LL ⟨84, 21, b, ro⟩ n84_12 st = normS b ⟨[5], []⟩ (.exit 0) st := GE.exit_step (by kernel_rfl) (by kernel_rfl)
theorem n84_10s : codeB Try.prog E cx n84_10 st = condS (codeB Try.prog E cx n84_11) (codeB Try.prog E cx n84_12) (lk st.σ 17) st := GE.cond_step (c := .tmp 17) (by kernel_rfl)
theorem n84_8s : codeB Try.prog E cx n84_8 st = thenS (codeB Try.prog E cx n84_9 st) (codeB Try.prog E cx n84_10) := GE.seq_step (by kernel_rfl)
theorem n84_14s : codeB Try.prog E ⟨f, 21, b, ro⟩ n84_14 st = plainS (runOps Try.prog E b q84_14 (ops [true, true, false, false, false, true, false] Try.f84) st) := GE.region_step (id := 3) (GE.reg_of (by kernel_rfl)) (by kernel_rfl)
theorem n84_13s : codeB Try.prog E cx n84_13 st = blockS 1 (codeB Try.prog E cx n84_14 st) st := GE.block_step (by kernel_rfl)
theorem n84_7s : codeB Try.prog E cx n84_7 st = thenS (codeB Try.prog E cx n84_8 st) (codeB Try.prog E cx n84_13) := GE.seq_step (by kernel_rfl)
theorem n84_6k : LL.kp (⟨84, 21, b, ro⟩ : Cx).fn (4 * rid n84_7 + 3) = some ⟨[0, 1, 5], [⟨0, 0, 1, true⟩]⟩ := by kernel_rfl
theorem n84_6s : codeB Try.prog LL ⟨84, 21, b, ro⟩ n84_6 st = headS b ⟨[0, 1, 5], [⟨0, 0, 1, true⟩]⟩ st (lpB Try.prog LL ⟨84, 21, b, ro⟩ n84_6 n84_7) := GE.lpB_step (by kernel_rfl) (n84_6k b ro)
theorem n84_6g : LL.code ⟨84, 21, b, ro⟩ n84_6 st = headS b ⟨[0, 1, 5], [⟨0, 0, 1, true⟩]⟩ st (lpB Try.prog LL ⟨84, 21, b, ro⟩ n84_6 n84_7) := GE.lpB_again (by kernel_rfl) (n84_6k b ro)
theorem n84_5s : codeB Try.prog E cx n84_5 st = blockS 0 (codeB Try.prog E cx n84_6 st) st := GE.block_step (by kernel_rfl)
theorem n84_16s : codeB Try.prog E ⟨f, 21, b, ro⟩ n84_16 st = plainS (runOps Try.prog E b q84_16 (ops [true, true, true, false] Try.f84) st) := GE.region_step (id := 4) (GE.reg_of (by kernel_rfl)) (by kernel_rfl)
theorem n84_17s : codeB Try.prog LL ⟨84, 21, b, ro⟩ n84_17 st = normS b ⟨[4], []⟩ .ret st := GE.ret_step (by kernel_rfl) (by kernel_rfl)
theorem n84_15s : codeB Try.prog E cx n84_15 st = thenS (codeB Try.prog E cx n84_16 st) (codeB Try.prog E cx n84_17) := GE.seq_step (by kernel_rfl)
theorem n84_4s : codeB Try.prog E cx n84_4 st = thenS (codeB Try.prog E cx n84_5 st) (codeB Try.prog E cx n84_15) := GE.seq_step (by kernel_rfl)
theorem n84_2s : codeB Try.prog E cx n84_2 st = thenS (codeB Try.prog E cx n84_3 st) (codeB Try.prog E cx n84_4) := GE.seq_step (by kernel_rfl)
theorem n84_0s : codeB Try.prog E cx n84_0 st = thenS (codeB Try.prog E cx n84_1 st) (codeB Try.prog E cx n84_2) := GE.seq_step (by kernel_rfl)
noncomputable def n55_0 : Code := bodyOf Try.f55
noncomputable def n55_1 : Code := cl n55_0
noncomputable def q55_1 : List Oper := opsOf n55_1
noncomputable def n55_2 : Code := cr n55_0
noncomputable def n55_3 : Code := cl n55_2
noncomputable def n55_4 : Code := cl n55_3
noncomputable def q55_4 : List Oper := opsOf n55_4
noncomputable def n55_5 : Code := cr n55_3
noncomputable def n55_6 : Code := cl n55_5
noncomputable def n55_7 : Code := cl n55_6
noncomputable def n55_8 : Code := cl n55_7
noncomputable def n55_9 : Code := cl n55_8
noncomputable def q55_9 : List Oper := opsOf n55_9
noncomputable def n55_10 : Code := cr n55_8
noncomputable def n55_11 : Code := cl n55_10
noncomputable def n55_12 : Code := cr n55_10
noncomputable def n55_13 : Code := cr n55_7
noncomputable def n55_14 : Code := cl n55_13
noncomputable def n55_15 : Code := cl n55_14
noncomputable def n55_16 : Code := cl n55_15
noncomputable def q55_16 : List Oper := opsOf n55_16
noncomputable def n55_17 : Code := cr n55_15
noncomputable def n55_18 : Code := cl n55_17
noncomputable def n55_19 : Code := cl n55_18
noncomputable def n55_20 : Code := cl n55_19
noncomputable def n55_21 : Code := cl n55_20
noncomputable def q55_21 : List Oper := opsOf n55_21
noncomputable def n55_22 : Code := cr n55_20
noncomputable def n55_23 : Code := cl n55_22
noncomputable def n55_24 : Code := cr n55_22
noncomputable def n55_25 : Code := cr n55_19
noncomputable def n55_26 : Code := cl n55_25
noncomputable def n55_27 : Code := cl n55_26
noncomputable def n55_28 : Code := cl n55_27
noncomputable def q55_28 : List Oper := opsOf n55_28
noncomputable def n55_29 : Code := cr n55_27
noncomputable def n55_30 : Code := cl n55_29
noncomputable def q55_30 : List Oper := opsOf n55_30
noncomputable def n55_31 : Code := cr n55_29
noncomputable def n55_32 : Code := cl n55_31
noncomputable def n55_33 : Code := cl n55_32
noncomputable def q55_33 : List Oper := opsOf n55_33
noncomputable def n55_34 : Code := cr n55_32
noncomputable def n55_35 : Code := cr n55_31
noncomputable def n55_36 : Code := cr n55_25
noncomputable def q55_36 : List Oper := opsOf n55_36
noncomputable def n55_37 : Code := cr n55_13
noncomputable def q55_37 : List Oper := opsOf n55_37
noncomputable def n55_38 : Code := cr n55_2
noncomputable def n55_39 : Code := cl n55_38
noncomputable def q55_39 : List Oper := opsOf n55_39
noncomputable def n55_40 : Code := cr n55_38
theorem body55 : Try.f55.body = some n55_0 := by kernel_rfl
theorem run55 (E : Ev) (args : List Value) (h : List Blk) (hl : args.length ≤ 62) : runB Try.prog E 55 args h = endS Try.prog [.tmp 6] h.length (codeB Try.prog E ⟨55, 62, h.length, none⟩ n55_0 ⟨enumT 0 args, h, []⟩) := GE.run_step Try.func55 body55 (by kernel_rfl) (by decide) (by kernel_rfl) hl
theorem n55_1s : codeB Try.prog E ⟨f, 62, b, ro⟩ n55_1 st = plainS (runOps Try.prog E b q55_1 (ops [false] Try.f55) st) := GE.region_step (id := 0) (GE.reg_of (by kernel_rfl)) (by kernel_rfl)
theorem n55_4s : codeB Try.prog E ⟨f, 62, b, ro⟩ n55_4 st = plainS (runOps Try.prog E b q55_4 (ops [true, false, false] Try.f55) st) := GE.region_step (id := 1) (GE.reg_of (by kernel_rfl)) (by kernel_rfl)
theorem n55_9s : codeB Try.prog E ⟨f, 62, b, ro⟩ n55_9 st = plainS (runOps Try.prog E b q55_9 (ops [true, false, true, false, false, false, false] Try.f55) st) := GE.region_step (id := 2) (GE.reg_of (by kernel_rfl)) (by kernel_rfl)
theorem n55_11s : codeB Try.prog E cx n55_11 st = some (.normal, st) := GE.skip_step (by kernel_rfl)
theorem n55_12s : codeB Try.prog LL ⟨55, 62, b, ro⟩ n55_12 st = normS b ⟨[], []⟩ (.exit 0) st := GE.exit_step (by kernel_rfl) (by kernel_rfl)
theorem n55_10s : codeB Try.prog E cx n55_10 st = condS (codeB Try.prog E cx n55_11) (codeB Try.prog E cx n55_12) (lk st.σ 15) st := GE.cond_step (c := .tmp 15) (by kernel_rfl)
theorem n55_8s : codeB Try.prog E cx n55_8 st = thenS (codeB Try.prog E cx n55_9 st) (codeB Try.prog E cx n55_10) := GE.seq_step (by kernel_rfl)
theorem n55_16s : codeB Try.prog E ⟨f, 62, b, ro⟩ n55_16 st = plainS (runOps Try.prog E b q55_16 (ops [true, false, true, false, false, true, false, false, false] Try.f55) st) := GE.region_step (id := 4) (GE.reg_of (by kernel_rfl)) (by kernel_rfl)
theorem n55_21s : codeB Try.prog E ⟨f, 62, b, ro⟩ n55_21 st = plainS (runOps Try.prog E b q55_21 (ops [true, false, true, false, false, true, false, false, true, false, false, false, false] Try.f55) st) := GE.region_step (id := 5) (GE.reg_of (by kernel_rfl)) (by kernel_rfl)
theorem n55_23s : codeB Try.prog E cx n55_23 st = some (.normal, st) := GE.skip_step (by kernel_rfl)
theorem n55_24s : codeB Try.prog LL ⟨55, 62, b, ro⟩ n55_24 st = normS b ⟨[1, 2, 3, 7], [⟨1, 0, 1, true⟩, ⟨3, 2, 3, true⟩]⟩ (.exit 2) st := GE.exit_step (by kernel_rfl) (by kernel_rfl)
theorem n55_22s : codeB Try.prog E cx n55_22 st = condS (codeB Try.prog E cx n55_23) (codeB Try.prog E cx n55_24) (lk st.σ 24) st := GE.cond_step (c := .tmp 24) (by kernel_rfl)
theorem n55_20s : codeB Try.prog E cx n55_20 st = thenS (codeB Try.prog E cx n55_21 st) (codeB Try.prog E cx n55_22) := GE.seq_step (by kernel_rfl)
theorem n55_28s : codeB Try.prog E ⟨f, 62, b, ro⟩ n55_28 st = drawS [0, 1, 0, 7, 15, 0, 32, 0, 224, 480, 0, 0, 3103, 8191] (runOpsF Try.prog E b q55_28 (ops [true, false, true, false, false, true, false, false, true, false, false, true, false, false, false] Try.f55) st) := GE.draw_step (id := 7) (GE.reg_of (by kernel_rfl)) (by kernel_rfl) (by kernel_rfl) (by kernel_rfl)
theorem q55_30g3 : gd q55_30 3 = some 40 := by kernel_rfl
theorem q55_30g8 : gd q55_30 8 = some 45 := by kernel_rfl
theorem q55_30g19 : gd q55_30 19 = some 56 := by kernel_rfl
theorem n55_30s : codeB Try.prog E ⟨f, 62, b, ro⟩ n55_30 st = drawS [0, 0, 3, 7, 15, 15, 63, 127, 255, 511, 511, 1535, 4095, 511, 511, 16895, 65535, 131071, 262143, 524287, 1048575, 1048575, 1048575, 8388607, 16777215] (runOpsF Try.prog E b q55_30 (ops [true, false, true, false, false, true, false, false, true, false, false, true, false, false, true, false] Try.f55) st) := GE.draw_step (id := 8) (GE.reg_of (by kernel_rfl)) (by kernel_rfl) (by kernel_rfl) (by kernel_rfl)
theorem n55_33s : codeB Try.prog E ⟨f, 62, b, ro⟩ n55_33 st = plainS (runOps Try.prog E b q55_33 (ops [true, false, true, false, false, true, false, false, true, false, false, true, false, false, true, true, false, false] Try.f55) st) := GE.region_step (id := 9) (GE.reg_of (by kernel_rfl)) (by kernel_rfl)
theorem n55_34s : codeB Try.prog LL ⟨55, 62, b, ro⟩ n55_34 st = normS b ⟨[6], []⟩ .ret st := GE.ret_step (by kernel_rfl) (by kernel_rfl)
theorem n55_32s : codeB Try.prog E cx n55_32 st = thenS (codeB Try.prog E cx n55_33 st) (codeB Try.prog E cx n55_34) := GE.seq_step (by kernel_rfl)
theorem n55_35s : codeB Try.prog E cx n55_35 st = some (.normal, st) := GE.skip_step (by kernel_rfl)
theorem n55_31s : codeB Try.prog E cx n55_31 st = condS (codeB Try.prog E cx n55_32) (codeB Try.prog E cx n55_35) (lk st.σ 61) st := GE.cond_step (c := .tmp 61) (by kernel_rfl)
theorem n55_29s : codeB Try.prog E cx n55_29 st = thenS (codeB Try.prog E cx n55_30 st) (codeB Try.prog E cx n55_31) := GE.seq_step (by kernel_rfl)
theorem n55_27s : codeB Try.prog E cx n55_27 st = thenS (codeB Try.prog E cx n55_28 st) (codeB Try.prog E cx n55_29) := GE.seq_step (by kernel_rfl)
theorem n55_26s : codeB Try.prog E cx n55_26 st = blockS 3 (codeB Try.prog E cx n55_27 st) st := GE.block_step (by kernel_rfl)
theorem n55_36s : codeB Try.prog E ⟨f, 62, b, ro⟩ n55_36 st = plainS (runOps Try.prog E b q55_36 (ops [true, false, true, false, false, true, false, false, true, false, false, true, true] Try.f55) st) := GE.region_step (id := 6) (GE.reg_of (by kernel_rfl)) (by kernel_rfl)
theorem n55_25s : codeB Try.prog E cx n55_25 st = thenS (codeB Try.prog E cx n55_26 st) (codeB Try.prog E cx n55_36) := GE.seq_step (by kernel_rfl)
theorem n55_19s : codeB Try.prog E cx n55_19 st = thenS (codeB Try.prog E cx n55_20 st) (codeB Try.prog E cx n55_25) := GE.seq_step (by kernel_rfl)
theorem n55_18k : LL.kp (⟨55, 62, b, ro⟩ : Cx).fn (4 * rid n55_19 + 3) = some ⟨[1, 2, 3, 7, 8], [⟨1, 0, 1, true⟩, ⟨3, 2, 3, true⟩]⟩ := by kernel_rfl
theorem n55_18s : codeB Try.prog LL ⟨55, 62, b, ro⟩ n55_18 st = headS b ⟨[1, 2, 3, 7, 8], [⟨1, 0, 1, true⟩, ⟨3, 2, 3, true⟩]⟩ st (lpB Try.prog LL ⟨55, 62, b, ro⟩ n55_18 n55_19) := GE.lpB_step (by kernel_rfl) (n55_18k b ro)
theorem n55_18g : LL.code ⟨55, 62, b, ro⟩ n55_18 st = headS b ⟨[1, 2, 3, 7, 8], [⟨1, 0, 1, true⟩, ⟨3, 2, 3, true⟩]⟩ st (lpB Try.prog LL ⟨55, 62, b, ro⟩ n55_18 n55_19) := GE.lpB_again (by kernel_rfl) (n55_18k b ro)
theorem n55_17s : codeB Try.prog E cx n55_17 st = blockS 2 (codeB Try.prog E cx n55_18 st) st := GE.block_step (by kernel_rfl)
theorem n55_15s : codeB Try.prog E cx n55_15 st = thenS (codeB Try.prog E cx n55_16 st) (codeB Try.prog E cx n55_17) := GE.seq_step (by kernel_rfl)
theorem n55_14s : codeB Try.prog E cx n55_14 st = blockS 1 (codeB Try.prog E cx n55_15 st) st := GE.block_step (by kernel_rfl)
theorem n55_37s : codeB Try.prog E ⟨f, 62, b, ro⟩ n55_37 st = plainS (runOps Try.prog E b q55_37 (ops [true, false, true, false, false, true, true] Try.f55) st) := GE.region_step (id := 3) (GE.reg_of (by kernel_rfl)) (by kernel_rfl)
theorem n55_13s : codeB Try.prog E cx n55_13 st = thenS (codeB Try.prog E cx n55_14 st) (codeB Try.prog E cx n55_37) := GE.seq_step (by kernel_rfl)
theorem n55_7s : codeB Try.prog E cx n55_7 st = thenS (codeB Try.prog E cx n55_8 st) (codeB Try.prog E cx n55_13) := GE.seq_step (by kernel_rfl)
theorem n55_6k : LL.kp (⟨55, 62, b, ro⟩ : Cx).fn (4 * rid n55_7 + 3) = some ⟨[1, 2, 3, 7], [⟨1, 0, 1, true⟩, ⟨3, 2, 3, true⟩]⟩ := by kernel_rfl
theorem n55_6s : codeB Try.prog LL ⟨55, 62, b, ro⟩ n55_6 st = headS b ⟨[1, 2, 3, 7], [⟨1, 0, 1, true⟩, ⟨3, 2, 3, true⟩]⟩ st (lpB Try.prog LL ⟨55, 62, b, ro⟩ n55_6 n55_7) := GE.lpB_step (by kernel_rfl) (n55_6k b ro)
theorem n55_6g : LL.code ⟨55, 62, b, ro⟩ n55_6 st = headS b ⟨[1, 2, 3, 7], [⟨1, 0, 1, true⟩, ⟨3, 2, 3, true⟩]⟩ st (lpB Try.prog LL ⟨55, 62, b, ro⟩ n55_6 n55_7) := GE.lpB_again (by kernel_rfl) (n55_6k b ro)
theorem n55_5s : codeB Try.prog E cx n55_5 st = blockS 0 (codeB Try.prog E cx n55_6 st) st := GE.block_step (by kernel_rfl)
theorem n55_3s : codeB Try.prog E cx n55_3 st = thenS (codeB Try.prog E cx n55_4 st) (codeB Try.prog E cx n55_5) := GE.seq_step (by kernel_rfl)
theorem n55_39s : codeB Try.prog E ⟨f, 62, b, ro⟩ n55_39 st = plainS (runOps Try.prog E b q55_39 (ops [true, true, false] Try.f55) st) := GE.region_step (id := 10) (GE.reg_of (by kernel_rfl)) (by kernel_rfl)
theorem n55_40s : codeB Try.prog LL ⟨55, 62, b, ro⟩ n55_40 st = normS b ⟨[6], []⟩ .ret st := GE.ret_step (by kernel_rfl) (by kernel_rfl)
theorem n55_38s : codeB Try.prog E cx n55_38 st = thenS (codeB Try.prog E cx n55_39 st) (codeB Try.prog E cx n55_40) := GE.seq_step (by kernel_rfl)
theorem n55_2s : codeB Try.prog E cx n55_2 st = thenS (codeB Try.prog E cx n55_3 st) (codeB Try.prog E cx n55_38) := GE.seq_step (by kernel_rfl)
theorem n55_0s : codeB Try.prog E cx n55_0 st = thenS (codeB Try.prog E cx n55_1 st) (codeB Try.prog E cx n55_2) := GE.seq_step (by kernel_rfl)
noncomputable def n21_0 : Code := bodyOf Try.f21
noncomputable def n21_1 : Code := cl n21_0
noncomputable def q21_1 : List Oper := opsOf n21_1
noncomputable def n21_2 : Code := cr n21_0
noncomputable def n21_3 : Code := cl n21_2
noncomputable def q21_3 : List Oper := opsOf n21_3
noncomputable def n21_4 : Code := cr n21_2
noncomputable def n21_5 : Code := cl n21_4
noncomputable def n21_6 : Code := cl n21_5
noncomputable def q21_6 : List Oper := opsOf n21_6
noncomputable def n21_7 : Code := cr n21_5
noncomputable def n21_8 : Code := cl n21_7
noncomputable def n21_9 : Code := cl n21_8
noncomputable def q21_9 : List Oper := opsOf n21_9
noncomputable def n21_10 : Code := cr n21_8
noncomputable def n21_11 : Code := cr n21_7
noncomputable def n21_12 : Code := cr n21_4
noncomputable def n21_13 : Code := cl n21_12
noncomputable def n21_14 : Code := cl n21_13
noncomputable def q21_14 : List Oper := opsOf n21_14
noncomputable def n21_15 : Code := cr n21_13
noncomputable def n21_16 : Code := cl n21_15
noncomputable def n21_17 : Code := cl n21_16
noncomputable def q21_17 : List Oper := opsOf n21_17
noncomputable def n21_18 : Code := cr n21_16
noncomputable def n21_19 : Code := cr n21_15
noncomputable def n21_20 : Code := cr n21_12
noncomputable def n21_21 : Code := cl n21_20
noncomputable def n21_22 : Code := cl n21_21
noncomputable def q21_22 : List Oper := opsOf n21_22
noncomputable def n21_23 : Code := cr n21_21
noncomputable def n21_24 : Code := cl n21_23
noncomputable def n21_25 : Code := cl n21_24
noncomputable def n21_26 : Code := cl n21_25
noncomputable def n21_27 : Code := cl n21_26
noncomputable def q21_27 : List Oper := opsOf n21_27
noncomputable def n21_28 : Code := cr n21_26
noncomputable def n21_29 : Code := cl n21_28
noncomputable def n21_30 : Code := cr n21_28
noncomputable def n21_31 : Code := cr n21_25
noncomputable def n21_32 : Code := cl n21_31
noncomputable def n21_33 : Code := cl n21_32
noncomputable def n21_34 : Code := cl n21_33
noncomputable def n21_35 : Code := cl n21_34
noncomputable def q21_35 : List Oper := opsOf n21_35
noncomputable def n21_36 : Code := cr n21_34
noncomputable def n21_37 : Code := cl n21_36
noncomputable def n21_38 : Code := cl n21_37
noncomputable def q21_38 : List Oper := opsOf n21_38
noncomputable def n21_39 : Code := cr n21_37
noncomputable def n21_40 : Code := cr n21_36
noncomputable def n21_41 : Code := cr n21_33
noncomputable def n21_42 : Code := cl n21_41
noncomputable def q21_42 : List Oper := opsOf n21_42
noncomputable def n21_43 : Code := cr n21_41
noncomputable def n21_44 : Code := cl n21_43
noncomputable def n21_45 : Code := cl n21_44
noncomputable def q21_45 : List Oper := opsOf n21_45
noncomputable def n21_46 : Code := cr n21_44
noncomputable def n21_47 : Code := cr n21_43
noncomputable def n21_48 : Code := cr n21_31
noncomputable def q21_48 : List Oper := opsOf n21_48
noncomputable def n21_49 : Code := cr n21_20
noncomputable def n21_50 : Code := cl n21_49
noncomputable def n21_51 : Code := cl n21_50
noncomputable def q21_51 : List Oper := opsOf n21_51
noncomputable def n21_52 : Code := cr n21_50
noncomputable def n21_53 : Code := cl n21_52
noncomputable def n21_54 : Code := cl n21_53
noncomputable def q21_54 : List Oper := opsOf n21_54
noncomputable def n21_55 : Code := cr n21_53
noncomputable def n21_56 : Code := cr n21_52
noncomputable def n21_57 : Code := cr n21_49
noncomputable def n21_58 : Code := cl n21_57
noncomputable def q21_58 : List Oper := opsOf n21_58
noncomputable def n21_59 : Code := cr n21_57
theorem body21 : Try.f21.body = some n21_0 := by kernel_rfl
theorem run21 (E : Ev) (args : List Value) (h : List Blk) (hl : args.length ≤ 44) : runB Try.prog E 21 args h = endS Try.prog [.tmp 4] h.length (codeB Try.prog E ⟨21, 44, h.length, none⟩ n21_0 ⟨enumT 0 args, h, []⟩) := GE.run_step Try.func21 body21 (by kernel_rfl) (by decide) (by kernel_rfl) hl
theorem n21_1s : codeB Try.prog E ⟨f, 44, b, ro⟩ n21_1 st = plainS (runOps Try.prog E b q21_1 (ops [false] Try.f21) st) := GE.region_step (id := 0) (GE.reg_of (by kernel_rfl)) (by kernel_rfl)
theorem n21_3s : codeB Try.prog E ⟨f, 44, b, ro⟩ n21_3 st = plainS (runOps Try.prog E b q21_3 (ops [true, false] Try.f21) st) := GE.region_step (id := 1) (GE.reg_of (by kernel_rfl)) (by kernel_rfl)
theorem n21_6s : codeB Try.prog E ⟨f, 44, b, ro⟩ n21_6 st = plainS (runOps Try.prog E b q21_6 (ops [true, true, false, false] Try.f21) st) := GE.region_step (id := 2) (GE.reg_of (by kernel_rfl)) (by kernel_rfl)
theorem n21_9s : codeB Try.prog E ⟨f, 44, b, ro⟩ n21_9 st = plainS (runOps Try.prog E b q21_9 (ops [true, true, false, true, false, false] Try.f21) st) := GE.region_step (id := 3) (GE.reg_of (by kernel_rfl)) (by kernel_rfl)
theorem n21_10s : codeB Try.prog LL ⟨21, 44, b, ro⟩ n21_10 st = normS b ⟨[4], []⟩ .ret st := GE.ret_step (by kernel_rfl) (by kernel_rfl)
theorem n21_8s : codeB Try.prog E cx n21_8 st = thenS (codeB Try.prog E cx n21_9 st) (codeB Try.prog E cx n21_10) := GE.seq_step (by kernel_rfl)
theorem n21_11s : codeB Try.prog E cx n21_11 st = some (.normal, st) := GE.skip_step (by kernel_rfl)
theorem n21_7s : codeB Try.prog E cx n21_7 st = condS (codeB Try.prog E cx n21_8) (codeB Try.prog E cx n21_11) (lk st.σ 10) st := GE.cond_step (c := .tmp 10) (by kernel_rfl)
theorem n21_5s : codeB Try.prog E cx n21_5 st = thenS (codeB Try.prog E cx n21_6 st) (codeB Try.prog E cx n21_7) := GE.seq_step (by kernel_rfl)
theorem n21_14s : codeB Try.prog E ⟨f, 44, b, ro⟩ n21_14 st = plainS (runOps Try.prog E b q21_14 (ops [true, true, true, false, false] Try.f21) st) := GE.region_step (id := 4) (GE.reg_of (by kernel_rfl)) (by kernel_rfl)
theorem n21_17s : codeB Try.prog E ⟨f, 44, b, ro⟩ n21_17 st = plainS (runOps Try.prog E b q21_17 (ops [true, true, true, false, true, false, false] Try.f21) st) := GE.region_step (id := 5) (GE.reg_of (by kernel_rfl)) (by kernel_rfl)
theorem n21_18s : codeB Try.prog LL ⟨21, 44, b, ro⟩ n21_18 st = normS b ⟨[4], []⟩ .ret st := GE.ret_step (by kernel_rfl) (by kernel_rfl)
theorem n21_16s : codeB Try.prog E cx n21_16 st = thenS (codeB Try.prog E cx n21_17 st) (codeB Try.prog E cx n21_18) := GE.seq_step (by kernel_rfl)
theorem n21_19s : codeB Try.prog E cx n21_19 st = some (.normal, st) := GE.skip_step (by kernel_rfl)
theorem n21_15s : codeB Try.prog E cx n21_15 st = condS (codeB Try.prog E cx n21_16) (codeB Try.prog E cx n21_19) (lk st.σ 14) st := GE.cond_step (c := .tmp 14) (by kernel_rfl)
theorem n21_13s : codeB Try.prog E cx n21_13 st = thenS (codeB Try.prog E cx n21_14 st) (codeB Try.prog E cx n21_15) := GE.seq_step (by kernel_rfl)
theorem n21_22s : codeB Try.prog E ⟨f, 44, b, ro⟩ n21_22 st = plainS (runOps Try.prog E b q21_22 (ops [true, true, true, true, false, false] Try.f21) st) := GE.region_step (id := 6) (GE.reg_of (by kernel_rfl)) (by kernel_rfl)
theorem n21_27s : codeB Try.prog E ⟨f, 44, b, ro⟩ n21_27 st = plainS (runOps Try.prog E b q21_27 (ops [true, true, true, true, false, true, false, false, false, false] Try.f21) st) := GE.region_step (id := 7) (GE.reg_of (by kernel_rfl)) (by kernel_rfl)
theorem n21_29s : codeB Try.prog E cx n21_29 st = some (.normal, st) := GE.skip_step (by kernel_rfl)
theorem n21_30s : codeB Try.prog LL ⟨21, 44, b, ro⟩ n21_30 st = normS b ⟨[1, 2], [⟨1, 0, 1, true⟩, ⟨2, 2, 3, true⟩]⟩ (.exit 0) st := GE.exit_step (by kernel_rfl) (by kernel_rfl)
theorem n21_28s : codeB Try.prog E cx n21_28 st = condS (codeB Try.prog E cx n21_29) (codeB Try.prog E cx n21_30) (lk st.σ 18) st := GE.cond_step (c := .tmp 18) (by kernel_rfl)
theorem n21_26s : codeB Try.prog E cx n21_26 st = thenS (codeB Try.prog E cx n21_27 st) (codeB Try.prog E cx n21_28) := GE.seq_step (by kernel_rfl)
theorem n21_35s : codeB Try.prog E ⟨f, 44, b, ro⟩ n21_35 st = plainS (runOps Try.prog E b q21_35 (ops [true, true, true, true, false, true, false, false, true, false, false, false, false] Try.f21) st) := GE.region_step (id := 9) (GE.reg_of (by kernel_rfl)) (by kernel_rfl)
theorem n21_38s : codeB Try.prog E ⟨f, 44, b, ro⟩ n21_38 st = plainS (runOps Try.prog E b q21_38 (ops [true, true, true, true, false, true, false, false, true, false, false, false, true, false, false] Try.f21) st) := GE.region_step (id := 10) (GE.reg_of (by kernel_rfl)) (by kernel_rfl)
theorem n21_39s : codeB Try.prog LL ⟨21, 44, b, ro⟩ n21_39 st = normS b ⟨[4], []⟩ .ret st := GE.ret_step (by kernel_rfl) (by kernel_rfl)
theorem n21_37s : codeB Try.prog E cx n21_37 st = thenS (codeB Try.prog E cx n21_38 st) (codeB Try.prog E cx n21_39) := GE.seq_step (by kernel_rfl)
theorem n21_40s : codeB Try.prog E cx n21_40 st = some (.normal, st) := GE.skip_step (by kernel_rfl)
theorem n21_36s : codeB Try.prog E cx n21_36 st = condS (codeB Try.prog E cx n21_37) (codeB Try.prog E cx n21_40) (lk st.σ 26) st := GE.cond_step (c := .tmp 26) (by kernel_rfl)
theorem n21_34s : codeB Try.prog E cx n21_34 st = thenS (codeB Try.prog E cx n21_35 st) (codeB Try.prog E cx n21_36) := GE.seq_step (by kernel_rfl)
theorem q21_42g2 : gd q21_42 2 = some 29 := by kernel_rfl
theorem n21_42s : codeB Try.prog E ⟨f, 44, b, ro⟩ n21_42 st = drawS [0, 1, 3, 7, 7, 31, 63, 7, 7, 263, 903, 1927, 4095, 8191] (runOpsF Try.prog E b q21_42 (ops [true, true, true, true, false, true, false, false, true, false, false, true, false] Try.f21) st) := GE.draw_step (id := 11) (GE.reg_of (by kernel_rfl)) (by kernel_rfl) (by kernel_rfl) (by kernel_rfl)
theorem n21_45s : codeB Try.prog E ⟨f, 44, b, ro⟩ n21_45 st = plainS (runOps Try.prog E b q21_45 (ops [true, true, true, true, false, true, false, false, true, false, false, true, true, false, false] Try.f21) st) := GE.region_step (id := 12) (GE.reg_of (by kernel_rfl)) (by kernel_rfl)
theorem n21_46s : codeB Try.prog LL ⟨21, 44, b, ro⟩ n21_46 st = normS b ⟨[4], []⟩ .ret st := GE.ret_step (by kernel_rfl) (by kernel_rfl)
theorem n21_44s : codeB Try.prog E cx n21_44 st = thenS (codeB Try.prog E cx n21_45 st) (codeB Try.prog E cx n21_46) := GE.seq_step (by kernel_rfl)
theorem n21_47s : codeB Try.prog E cx n21_47 st = some (.normal, st) := GE.skip_step (by kernel_rfl)
theorem n21_43s : codeB Try.prog E cx n21_43 st = condS (codeB Try.prog E cx n21_44) (codeB Try.prog E cx n21_47) (lk st.σ 40) st := GE.cond_step (c := .tmp 40) (by kernel_rfl)
theorem n21_41s : codeB Try.prog E cx n21_41 st = thenS (codeB Try.prog E cx n21_42 st) (codeB Try.prog E cx n21_43) := GE.seq_step (by kernel_rfl)
theorem n21_33s : codeB Try.prog E cx n21_33 st = thenS (codeB Try.prog E cx n21_34 st) (codeB Try.prog E cx n21_41) := GE.seq_step (by kernel_rfl)
theorem n21_32s : codeB Try.prog E cx n21_32 st = blockS 1 (codeB Try.prog E cx n21_33 st) st := GE.block_step (by kernel_rfl)
theorem n21_48s : codeB Try.prog E ⟨f, 44, b, ro⟩ n21_48 st = plainS (runOps Try.prog E b q21_48 (ops [true, true, true, true, false, true, false, false, true, true] Try.f21) st) := GE.region_step (id := 8) (GE.reg_of (by kernel_rfl)) (by kernel_rfl)
theorem n21_31s : codeB Try.prog E cx n21_31 st = thenS (codeB Try.prog E cx n21_32 st) (codeB Try.prog E cx n21_48) := GE.seq_step (by kernel_rfl)
theorem n21_25s : codeB Try.prog E cx n21_25 st = thenS (codeB Try.prog E cx n21_26 st) (codeB Try.prog E cx n21_31) := GE.seq_step (by kernel_rfl)
theorem n21_24k : LL.kp (⟨21, 44, b, ro⟩ : Cx).fn (4 * rid n21_25 + 3) = some ⟨[1, 2, 6], [⟨1, 0, 1, true⟩, ⟨2, 2, 3, true⟩]⟩ := by kernel_rfl
theorem n21_24s : codeB Try.prog LL ⟨21, 44, b, ro⟩ n21_24 st = headS b ⟨[1, 2, 6], [⟨1, 0, 1, true⟩, ⟨2, 2, 3, true⟩]⟩ st (lpB Try.prog LL ⟨21, 44, b, ro⟩ n21_24 n21_25) := GE.lpB_step (by kernel_rfl) (n21_24k b ro)
theorem n21_24g : LL.code ⟨21, 44, b, ro⟩ n21_24 st = headS b ⟨[1, 2, 6], [⟨1, 0, 1, true⟩, ⟨2, 2, 3, true⟩]⟩ st (lpB Try.prog LL ⟨21, 44, b, ro⟩ n21_24 n21_25) := GE.lpB_again (by kernel_rfl) (n21_24k b ro)
theorem n21_23s : codeB Try.prog E cx n21_23 st = blockS 0 (codeB Try.prog E cx n21_24 st) st := GE.block_step (by kernel_rfl)
theorem n21_21s : codeB Try.prog E cx n21_21 st = thenS (codeB Try.prog E cx n21_22 st) (codeB Try.prog E cx n21_23) := GE.seq_step (by kernel_rfl)
theorem n21_51s : codeB Try.prog E ⟨f, 44, b, ro⟩ n21_51 st = plainS (runOps Try.prog E b q21_51 (ops [true, true, true, true, true, false, false] Try.f21) st) := GE.region_step (id := 13) (GE.reg_of (by kernel_rfl)) (by kernel_rfl)
theorem n21_54s : codeB Try.prog E ⟨f, 44, b, ro⟩ n21_54 st = plainS (runOps Try.prog E b q21_54 (ops [true, true, true, true, true, false, true, false, false] Try.f21) st) := GE.region_step (id := 14) (GE.reg_of (by kernel_rfl)) (by kernel_rfl)
theorem n21_55s : codeB Try.prog LL ⟨21, 44, b, ro⟩ n21_55 st = normS b ⟨[4], []⟩ .ret st := GE.ret_step (by kernel_rfl) (by kernel_rfl)
theorem n21_53s : codeB Try.prog E cx n21_53 st = thenS (codeB Try.prog E cx n21_54 st) (codeB Try.prog E cx n21_55) := GE.seq_step (by kernel_rfl)
theorem n21_56s : codeB Try.prog E cx n21_56 st = some (.normal, st) := GE.skip_step (by kernel_rfl)
theorem n21_52s : codeB Try.prog E cx n21_52 st = condS (codeB Try.prog E cx n21_53) (codeB Try.prog E cx n21_56) (lk st.σ 43) st := GE.cond_step (c := .tmp 43) (by kernel_rfl)
theorem n21_50s : codeB Try.prog E cx n21_50 st = thenS (codeB Try.prog E cx n21_51 st) (codeB Try.prog E cx n21_52) := GE.seq_step (by kernel_rfl)
theorem n21_58s : codeB Try.prog E ⟨f, 44, b, ro⟩ n21_58 st = plainS (runOps Try.prog E b q21_58 (ops [true, true, true, true, true, true, false] Try.f21) st) := GE.region_step (id := 15) (GE.reg_of (by kernel_rfl)) (by kernel_rfl)
theorem n21_59s : codeB Try.prog LL ⟨21, 44, b, ro⟩ n21_59 st = normS b ⟨[4], []⟩ .ret st := GE.ret_step (by kernel_rfl) (by kernel_rfl)
theorem n21_57s : codeB Try.prog E cx n21_57 st = thenS (codeB Try.prog E cx n21_58 st) (codeB Try.prog E cx n21_59) := GE.seq_step (by kernel_rfl)
theorem n21_49s : codeB Try.prog E cx n21_49 st = thenS (codeB Try.prog E cx n21_50 st) (codeB Try.prog E cx n21_57) := GE.seq_step (by kernel_rfl)
theorem n21_20s : codeB Try.prog E cx n21_20 st = thenS (codeB Try.prog E cx n21_21 st) (codeB Try.prog E cx n21_49) := GE.seq_step (by kernel_rfl)
theorem n21_12s : codeB Try.prog E cx n21_12 st = thenS (codeB Try.prog E cx n21_13 st) (codeB Try.prog E cx n21_20) := GE.seq_step (by kernel_rfl)
theorem n21_4s : codeB Try.prog E cx n21_4 st = thenS (codeB Try.prog E cx n21_5 st) (codeB Try.prog E cx n21_12) := GE.seq_step (by kernel_rfl)
theorem n21_2s : codeB Try.prog E cx n21_2 st = thenS (codeB Try.prog E cx n21_3 st) (codeB Try.prog E cx n21_4) := GE.seq_step (by kernel_rfl)
theorem n21_0s : codeB Try.prog E cx n21_0 st = thenS (codeB Try.prog E cx n21_1 st) (codeB Try.prog E cx n21_2) := GE.seq_step (by kernel_rfl)
noncomputable def n87_0 : Code := bodyOf Try.f87
noncomputable def n87_1 : Code := cl n87_0
noncomputable def q87_1 : List Oper := opsOf n87_1
noncomputable def n87_2 : Code := cr n87_0
noncomputable def n87_3 : Code := cl n87_2
noncomputable def q87_3 : List Oper := opsOf n87_3
noncomputable def n87_4 : Code := cr n87_2
theorem body87 : Try.f87.body = some n87_0 := by kernel_rfl
theorem run87 (E : Ev) (args : List Value) (h : List Blk) (hl : args.length ≤ 6) : runB Try.prog E 87 args h = endS Try.prog [.tmp 4] h.length (codeB Try.prog E ⟨87, 6, h.length, none⟩ n87_0 ⟨enumT 0 args, h, []⟩) := GE.run_step Try.func87 body87 (by kernel_rfl) (by decide) (by kernel_rfl) hl
theorem n87_1s : codeB Try.prog E ⟨f, 6, b, ro⟩ n87_1 st = plainS (runOps Try.prog E b q87_1 (ops [false] Try.f87) st) := GE.region_step (id := 0) (GE.reg_of (by kernel_rfl)) (by kernel_rfl)
theorem n87_3s : codeB Try.prog E ⟨f, 6, b, ro⟩ n87_3 st = plainS (runOps Try.prog E b q87_3 (ops [true, false] Try.f87) st) := GE.region_step (id := 1) (GE.reg_of (by kernel_rfl)) (by kernel_rfl)
theorem n87_4s : codeB Try.prog LL ⟨87, 6, b, ro⟩ n87_4 st = normS b ⟨[4], []⟩ .ret st := GE.ret_step (by kernel_rfl) (by kernel_rfl)
theorem n87_2s : codeB Try.prog E cx n87_2 st = thenS (codeB Try.prog E cx n87_3 st) (codeB Try.prog E cx n87_4) := GE.seq_step (by kernel_rfl)
theorem n87_0s : codeB Try.prog E cx n87_0 st = thenS (codeB Try.prog E cx n87_1 st) (codeB Try.prog E cx n87_2) := GE.seq_step (by kernel_rfl)
noncomputable def n103_0 : Code := bodyOf Try.f103
noncomputable def n103_1 : Code := cl n103_0
noncomputable def q103_1 : List Oper := opsOf n103_1
noncomputable def n103_2 : Code := cr n103_0
noncomputable def n103_3 : Code := cl n103_2
noncomputable def n103_4 : Code := cl n103_3
noncomputable def n103_5 : Code := cl n103_4
noncomputable def q103_5 : List Oper := opsOf n103_5
noncomputable def n103_6 : Code := cr n103_4
noncomputable def n103_7 : Code := cl n103_6
noncomputable def n103_8 : Code := cl n103_7
noncomputable def n103_9 : Code := cr n103_7
noncomputable def n103_10 : Code := cr n103_6
noncomputable def n103_11 : Code := cl n103_10
noncomputable def n103_12 : Code := cl n103_11
noncomputable def n103_13 : Code := cl n103_12
noncomputable def q103_13 : List Oper := opsOf n103_13
noncomputable def n103_14 : Code := cr n103_12
noncomputable def n103_15 : Code := cl n103_14
noncomputable def q103_15 : List Oper := opsOf n103_15
noncomputable def n103_16 : Code := cr n103_14
noncomputable def n103_17 : Code := cl n103_16
noncomputable def n103_18 : Code := cr n103_16
noncomputable def n103_19 : Code := cr n103_10
noncomputable def q103_19 : List Oper := opsOf n103_19
theorem body103 : Try.f103.body = some n103_0 := by kernel_rfl
theorem run103 (E : Ev) (args : List Value) (h : List Blk) (hl : args.length ≤ 29) : runB Try.prog E 103 args h = endS Try.prog [] h.length (codeB Try.prog E ⟨103, 29, h.length, none⟩ n103_0 ⟨enumT 0 args, h, []⟩) := GE.run_step Try.func103 body103 (by kernel_rfl) (by decide) (by kernel_rfl) hl
theorem n103_1s : codeB Try.prog E ⟨f, 29, b, ro⟩ n103_1 st = plainS (runOps Try.prog E b q103_1 (ops [false] Try.f103) st) := GE.region_step (id := 0) (GE.reg_of (by kernel_rfl)) (by kernel_rfl)
theorem n103_5s : codeB Try.prog E ⟨f, 29, b, ro⟩ n103_5 st = plainS (runOps Try.prog E b q103_5 (ops [true, false, false, false] Try.f103) st) := GE.region_step (id := 1) (GE.reg_of (by kernel_rfl)) (by kernel_rfl)
theorem n103_8s : codeB Try.prog E cx n103_8 st = some (.normal, st) := GE.skip_step (by kernel_rfl)
theorem n103_9s : codeB Try.prog LL ⟨103, 29, b, ro⟩ n103_9 st = normS b ⟨[], []⟩ (.exit 0) st := GE.exit_step (by kernel_rfl) (by kernel_rfl)
theorem n103_7s : codeB Try.prog E cx n103_7 st = condS (codeB Try.prog E cx n103_8) (codeB Try.prog E cx n103_9) (lk st.σ 11) st := GE.cond_step (c := .tmp 11) (by kernel_rfl)
theorem n103_13s : codeB Try.prog E ⟨f, 29, b, ro⟩ n103_13 st = plainS (runOps Try.prog E b q103_13 (ops [true, false, false, true, true, false, false, false] Try.f103) st) := GE.region_step (id := 2) (GE.reg_of (by kernel_rfl)) (by kernel_rfl)
theorem q103_15g6 : gd q103_15 6 = some 21 := by kernel_rfl
theorem n103_15s : codeB Try.prog E ⟨f, 29, b, ro⟩ n103_15 st = drawS [0, 0, 2, 7, 0, 31, 63, 127, 127, 127, 1023, 2047, 4095] (runOpsF Try.prog E b q103_15 (ops [true, false, false, true, true, false, false, true, false] Try.f103) st) := GE.draw_step (id := 3) (GE.reg_of (by kernel_rfl)) (by kernel_rfl) (by kernel_rfl) (by kernel_rfl)
theorem n103_17s : codeB Try.prog LL ⟨103, 29, b, ro⟩ n103_17 st = normS b ⟨[], []⟩ .ret st := GE.ret_step (by kernel_rfl) (by kernel_rfl)
theorem n103_18s : codeB Try.prog E cx n103_18 st = some (.normal, st) := GE.skip_step (by kernel_rfl)
theorem n103_16s : codeB Try.prog E cx n103_16 st = condS (codeB Try.prog E cx n103_17) (codeB Try.prog E cx n103_18) (lk st.σ 27) st := GE.cond_step (c := .tmp 27) (by kernel_rfl)
theorem n103_14s : codeB Try.prog E cx n103_14 st = thenS (codeB Try.prog E cx n103_15 st) (codeB Try.prog E cx n103_16) := GE.seq_step (by kernel_rfl)
theorem n103_12s : codeB Try.prog E cx n103_12 st = thenS (codeB Try.prog E cx n103_13 st) (codeB Try.prog E cx n103_14) := GE.seq_step (by kernel_rfl)
theorem n103_11s : codeB Try.prog E cx n103_11 st = blockS 1 (codeB Try.prog E cx n103_12 st) st := GE.block_step (by kernel_rfl)
theorem n103_19s : codeB Try.prog E ⟨f, 29, b, ro⟩ n103_19 st = plainS (runOps Try.prog E b q103_19 (ops [true, false, false, true, true, true] Try.f103) st) := GE.region_step (id := 4) (GE.reg_of (by kernel_rfl)) (by kernel_rfl)
theorem n103_10s : codeB Try.prog E cx n103_10 st = thenS (codeB Try.prog E cx n103_11 st) (codeB Try.prog E cx n103_19) := GE.seq_step (by kernel_rfl)
theorem n103_6s : codeB Try.prog E cx n103_6 st = thenS (codeB Try.prog E cx n103_7 st) (codeB Try.prog E cx n103_10) := GE.seq_step (by kernel_rfl)
theorem n103_4s : codeB Try.prog E cx n103_4 st = thenS (codeB Try.prog E cx n103_5 st) (codeB Try.prog E cx n103_6) := GE.seq_step (by kernel_rfl)
theorem n103_3k : LL.kp (⟨103, 29, b, ro⟩ : Cx).fn (4 * rid n103_4 + 3) = some ⟨[0, 1, 2, 8, 9, 10], [⟨8, 0, 3, true⟩]⟩ := by kernel_rfl
theorem n103_3s : codeB Try.prog LL ⟨103, 29, b, ro⟩ n103_3 st = headS b ⟨[0, 1, 2, 8, 9, 10], [⟨8, 0, 3, true⟩]⟩ st (lpB Try.prog LL ⟨103, 29, b, ro⟩ n103_3 n103_4) := GE.lpB_step (by kernel_rfl) (n103_3k b ro)
theorem n103_3g : LL.code ⟨103, 29, b, ro⟩ n103_3 st = headS b ⟨[0, 1, 2, 8, 9, 10], [⟨8, 0, 3, true⟩]⟩ st (lpB Try.prog LL ⟨103, 29, b, ro⟩ n103_3 n103_4) := GE.lpB_again (by kernel_rfl) (n103_3k b ro)
theorem n103_2s : codeB Try.prog E cx n103_2 st = blockS 0 (codeB Try.prog E cx n103_3 st) st := GE.block_step (by kernel_rfl)
theorem n103_0s : codeB Try.prog E cx n103_0 st = thenS (codeB Try.prog E cx n103_1 st) (codeB Try.prog E cx n103_2) := GE.seq_step (by kernel_rfl)
noncomputable def n73_0 : Code := bodyOf Try.f73
noncomputable def n73_1 : Code := cl n73_0
noncomputable def q73_1 : List Oper := opsOf n73_1
noncomputable def n73_2 : Code := cr n73_0
noncomputable def n73_3 : Code := cl n73_2
noncomputable def n73_4 : Code := cl n73_3
noncomputable def q73_4 : List Oper := opsOf n73_4
noncomputable def n73_5 : Code := cr n73_3
noncomputable def n73_6 : Code := cl n73_5
noncomputable def n73_7 : Code := cl n73_6
noncomputable def n73_8 : Code := cl n73_7
noncomputable def q73_8 : List Oper := opsOf n73_8
noncomputable def n73_9 : Code := cr n73_7
noncomputable def n73_10 : Code := cl n73_9
noncomputable def n73_11 : Code := cl n73_10
noncomputable def n73_12 : Code := cr n73_10
noncomputable def n73_13 : Code := cr n73_9
noncomputable def n73_14 : Code := cl n73_13
noncomputable def n73_15 : Code := cl n73_14
noncomputable def n73_16 : Code := cl n73_15
noncomputable def q73_16 : List Oper := opsOf n73_16
noncomputable def n73_17 : Code := cr n73_15
noncomputable def n73_18 : Code := cl n73_17
noncomputable def q73_18 : List Oper := opsOf n73_18
noncomputable def n73_19 : Code := cr n73_17
noncomputable def n73_20 : Code := cl n73_19
noncomputable def n73_21 : Code := cl n73_20
noncomputable def n73_22 : Code := cl n73_21
noncomputable def q73_22 : List Oper := opsOf n73_22
noncomputable def n73_23 : Code := cr n73_21
noncomputable def q73_23 : List Oper := opsOf n73_23
noncomputable def n73_24 : Code := cr n73_20
noncomputable def n73_25 : Code := cl n73_24
noncomputable def n73_26 : Code := cl n73_25
noncomputable def q73_26 : List Oper := opsOf n73_26
noncomputable def n73_27 : Code := cr n73_25
noncomputable def n73_28 : Code := cl n73_27
noncomputable def n73_29 : Code := cl n73_28
noncomputable def q73_29 : List Oper := opsOf n73_29
noncomputable def n73_30 : Code := cr n73_28
noncomputable def n73_31 : Code := cr n73_27
noncomputable def n73_32 : Code := cr n73_13
noncomputable def q73_32 : List Oper := opsOf n73_32
noncomputable def n73_33 : Code := cr n73_2
noncomputable def n73_34 : Code := cl n73_33
noncomputable def q73_34 : List Oper := opsOf n73_34
noncomputable def n73_35 : Code := cr n73_33
theorem body73 : Try.f73.body = some n73_0 := by kernel_rfl
theorem run73 (E : Ev) (args : List Value) (h : List Blk) (hl : args.length ≤ 47) : runB Try.prog E 73 args h = endS Try.prog [.cell 4 4] h.length (codeB Try.prog E ⟨73, 47, h.length, none⟩ n73_0 ⟨enumT 0 args, h, []⟩) := GE.run_step Try.func73 body73 (by kernel_rfl) (by decide) (by kernel_rfl) hl
theorem n73_1s : codeB Try.prog E ⟨f, 47, b, ro⟩ n73_1 st = plainS (runOps Try.prog E b q73_1 (ops [false] Try.f73) st) := GE.region_step (id := 0) (GE.reg_of (by kernel_rfl)) (by kernel_rfl)
theorem n73_4s : codeB Try.prog E ⟨f, 47, b, ro⟩ n73_4 st = plainS (runOps Try.prog E b q73_4 (ops [true, false, false] Try.f73) st) := GE.region_step (id := 1) (GE.reg_of (by kernel_rfl)) (by kernel_rfl)
theorem n73_8s : codeB Try.prog E ⟨f, 47, b, ro⟩ n73_8 st = plainS (runOps Try.prog E b q73_8 (ops [true, false, true, false, false, false] Try.f73) st) := GE.region_step (id := 2) (GE.reg_of (by kernel_rfl)) (by kernel_rfl)
theorem n73_11s : codeB Try.prog E cx n73_11 st = some (.normal, st) := GE.skip_step (by kernel_rfl)
theorem n73_12s : codeB Try.prog LL ⟨73, 47, b, ro⟩ n73_12 st = normS b ⟨[4], []⟩ (.exit 0) st := GE.exit_step (by kernel_rfl) (by kernel_rfl)
theorem n73_10s : codeB Try.prog E cx n73_10 st = condS (codeB Try.prog E cx n73_11) (codeB Try.prog E cx n73_12) (lk st.σ 14) st := GE.cond_step (c := .tmp 14) (by kernel_rfl)
theorem n73_16s : codeB Try.prog E ⟨f, 47, b, ro⟩ n73_16 st = plainS (runOps Try.prog E b q73_16 (ops [true, false, true, false, false, true, true, false, false, false] Try.f73) st) := GE.region_step (id := 3) (GE.reg_of (by kernel_rfl)) (by kernel_rfl)
theorem n73_18s : codeB Try.prog E ⟨f, 47, b, ro⟩ n73_18 st = drawS [0, 0, 0, 4, 14, 31] (runOpsF Try.prog E b q73_18 (ops [true, false, true, false, false, true, true, false, false, true, false] Try.f73) st) := GE.draw_step (id := 4) (GE.reg_of (by kernel_rfl)) (by kernel_rfl) (by kernel_rfl) (by kernel_rfl)
theorem n73_22s : codeB Try.prog E ⟨f, 47, b, ro⟩ n73_22 st = plainS (runOps Try.prog E b q73_22 (ops [true, false, true, false, false, true, true, false, false, true, true, false, false, false] Try.f73) st) := GE.region_step (id := 5) (GE.reg_of (by kernel_rfl)) (by kernel_rfl)
theorem n73_23s : codeB Try.prog E ⟨f, 47, b, ro⟩ n73_23 st = plainS (runOps Try.prog E b q73_23 (ops [true, false, true, false, false, true, true, false, false, true, true, false, false, true] Try.f73) st) := GE.region_step (id := 6) (GE.reg_of (by kernel_rfl)) (by kernel_rfl)
theorem n73_21s : codeB Try.prog E cx n73_21 st = thenS (codeB Try.prog E cx n73_22 st) (codeB Try.prog E cx n73_23) := GE.seq_step (by kernel_rfl)
theorem q73_26g3 : gd q73_26 3 = some 29 := by kernel_rfl
theorem q73_26g8 : gd q73_26 8 = some 34 := by kernel_rfl
theorem q73_26g13 : gd q73_26 13 = some 39 := by kernel_rfl
theorem n73_26s : codeB Try.prog E ⟨f, 47, b, ro⟩ n73_26 st = plainS (runOps Try.prog E b q73_26 (ops [true, false, true, false, false, true, true, false, false, true, true, false, true, false, false] Try.f73) st) := GE.region_step (id := 7) (GE.reg_of (by kernel_rfl)) (by kernel_rfl)
theorem n73_29s : codeB Try.prog E ⟨f, 47, b, ro⟩ n73_29 st = plainS (runOps Try.prog E b q73_29 (ops [true, false, true, false, false, true, true, false, false, true, true, false, true, false, true, false, false] Try.f73) st) := GE.region_step (id := 8) (GE.reg_of (by kernel_rfl)) (by kernel_rfl)
theorem n73_30s : codeB Try.prog LL ⟨73, 47, b, ro⟩ n73_30 st = normS b ⟨[4], []⟩ .ret st := GE.ret_step (by kernel_rfl) (by kernel_rfl)
theorem n73_28s : codeB Try.prog E cx n73_28 st = thenS (codeB Try.prog E cx n73_29 st) (codeB Try.prog E cx n73_30) := GE.seq_step (by kernel_rfl)
theorem n73_31s : codeB Try.prog E cx n73_31 st = some (.normal, st) := GE.skip_step (by kernel_rfl)
theorem n73_27s : codeB Try.prog E cx n73_27 st = condS (codeB Try.prog E cx n73_28) (codeB Try.prog E cx n73_31) (lk st.σ 45) st := GE.cond_step (c := .tmp 45) (by kernel_rfl)
theorem n73_25s : codeB Try.prog E cx n73_25 st = thenS (codeB Try.prog E cx n73_26 st) (codeB Try.prog E cx n73_27) := GE.seq_step (by kernel_rfl)
theorem n73_24s : codeB Try.prog E cx n73_24 st = blockS 3 (codeB Try.prog E cx n73_25 st) st := GE.block_step (by kernel_rfl)
theorem n73_20e : n73_20 = .rangeFunc (.tmp 23) #[24, 25] n73_21 n73_24 := by kernel_rfl
theorem n73_20k : (ue n73_21).1 ++ (ue n73_24).1 = [24, 25, 7, 5, 3, 2, 8, 6, 4] := by kernel_rfl
theorem n73_19s : codeB Try.prog E cx n73_19 st = blockS 2 (codeB Try.prog E cx n73_20 st) st := GE.block_step (by kernel_rfl)
theorem n73_17s : codeB Try.prog E cx n73_17 st = thenS (codeB Try.prog E cx n73_18 st) (codeB Try.prog E cx n73_19) := GE.seq_step (by kernel_rfl)
theorem n73_15s : codeB Try.prog E cx n73_15 st = thenS (codeB Try.prog E cx n73_16 st) (codeB Try.prog E cx n73_17) := GE.seq_step (by kernel_rfl)
theorem n73_14s : codeB Try.prog E cx n73_14 st = blockS 1 (codeB Try.prog E cx n73_15 st) st := GE.block_step (by kernel_rfl)
theorem n73_32s : codeB Try.prog E ⟨f, 47, b, ro⟩ n73_32 st = plainS (runOps Try.prog E b q73_32 (ops [true, false, true, false, false, true, true, true] Try.f73) st) := GE.region_step (id := 9) (GE.reg_of (by kernel_rfl)) (by kernel_rfl)
theorem n73_13s : codeB Try.prog E cx n73_13 st = thenS (codeB Try.prog E cx n73_14 st) (codeB Try.prog E cx n73_32) := GE.seq_step (by kernel_rfl)
theorem n73_9s : codeB Try.prog E cx n73_9 st = thenS (codeB Try.prog E cx n73_10 st) (codeB Try.prog E cx n73_13) := GE.seq_step (by kernel_rfl)
theorem n73_7s : codeB Try.prog E cx n73_7 st = thenS (codeB Try.prog E cx n73_8 st) (codeB Try.prog E cx n73_9) := GE.seq_step (by kernel_rfl)
theorem n73_6k : LL.kp (⟨73, 47, b, ro⟩ : Cx).fn (4 * rid n73_7 + 3) = some ⟨[2, 3, 4, 7, 8, 11, 12, 13, 24, 25], [⟨2, 2, 3, true⟩, ⟨2, 3, 1, true⟩, ⟨11, 0, 3, true⟩]⟩ := by kernel_rfl
theorem n73_6s : codeB Try.prog LL ⟨73, 47, b, ro⟩ n73_6 st = headS b ⟨[2, 3, 4, 7, 8, 11, 12, 13, 24, 25], [⟨2, 2, 3, true⟩, ⟨2, 3, 1, true⟩, ⟨11, 0, 3, true⟩]⟩ st (lpB Try.prog LL ⟨73, 47, b, ro⟩ n73_6 n73_7) := GE.lpB_step (by kernel_rfl) (n73_6k b ro)
theorem n73_6g : LL.code ⟨73, 47, b, ro⟩ n73_6 st = headS b ⟨[2, 3, 4, 7, 8, 11, 12, 13, 24, 25], [⟨2, 2, 3, true⟩, ⟨2, 3, 1, true⟩, ⟨11, 0, 3, true⟩]⟩ st (lpB Try.prog LL ⟨73, 47, b, ro⟩ n73_6 n73_7) := GE.lpB_again (by kernel_rfl) (n73_6k b ro)
theorem n73_5s : codeB Try.prog E cx n73_5 st = blockS 0 (codeB Try.prog E cx n73_6 st) st := GE.block_step (by kernel_rfl)
theorem n73_3s : codeB Try.prog E cx n73_3 st = thenS (codeB Try.prog E cx n73_4 st) (codeB Try.prog E cx n73_5) := GE.seq_step (by kernel_rfl)
theorem n73_34s : codeB Try.prog E ⟨f, 47, b, ro⟩ n73_34 st = plainS (runOps Try.prog E b q73_34 (ops [true, true, false] Try.f73) st) := GE.region_step (id := 10) (GE.reg_of (by kernel_rfl)) (by kernel_rfl)
theorem n73_35s : codeB Try.prog LL ⟨73, 47, b, ro⟩ n73_35 st = normS b ⟨[4], []⟩ .ret st := GE.ret_step (by kernel_rfl) (by kernel_rfl)
theorem n73_33s : codeB Try.prog E cx n73_33 st = thenS (codeB Try.prog E cx n73_34 st) (codeB Try.prog E cx n73_35) := GE.seq_step (by kernel_rfl)
theorem n73_2s : codeB Try.prog E cx n73_2 st = thenS (codeB Try.prog E cx n73_3 st) (codeB Try.prog E cx n73_33) := GE.seq_step (by kernel_rfl)
theorem n73_0s : codeB Try.prog E cx n73_0 st = thenS (codeB Try.prog E cx n73_1 st) (codeB Try.prog E cx n73_2) := GE.seq_step (by kernel_rfl)
noncomputable def n72_0 : Code := bodyOf Try.f72
noncomputable def n72_1 : Code := cl n72_0
noncomputable def q72_1 : List Oper := opsOf n72_1
noncomputable def n72_2 : Code := cr n72_0
noncomputable def n72_3 : Code := cl n72_2
noncomputable def n72_4 : Code := cl n72_3
noncomputable def q72_4 : List Oper := opsOf n72_4
noncomputable def n72_5 : Code := cr n72_3
noncomputable def n72_6 : Code := cl n72_5
noncomputable def q72_6 : List Oper := opsOf n72_6
noncomputable def n72_7 : Code := cr n72_5
noncomputable def n72_8 : Code := cl n72_7
noncomputable def n72_9 : Code := cl n72_8
noncomputable def q72_9 : List Oper := opsOf n72_9
noncomputable def n72_10 : Code := cr n72_8
noncomputable def n72_11 : Code := cr n72_7
noncomputable def n72_12 : Code := cr n72_2
noncomputable def n72_13 : Code := cl n72_12
noncomputable def n72_14 : Code := cl n72_13
noncomputable def q72_14 : List Oper := opsOf n72_14
noncomputable def n72_15 : Code := cr n72_13
noncomputable def n72_16 : Code := cl n72_15
noncomputable def n72_17 : Code := cl n72_16
noncomputable def q72_17 : List Oper := opsOf n72_17
noncomputable def n72_18 : Code := cr n72_16
noncomputable def n72_19 : Code := cr n72_15
noncomputable def n72_20 : Code := cr n72_12
noncomputable def n72_21 : Code := cl n72_20
noncomputable def q72_21 : List Oper := opsOf n72_21
noncomputable def n72_22 : Code := cr n72_20
noncomputable def n72_23 : Code := cl n72_22
noncomputable def n72_24 : Code := cl n72_23
noncomputable def q72_24 : List Oper := opsOf n72_24
noncomputable def n72_25 : Code := cr n72_23
noncomputable def n72_26 : Code := cl n72_25
noncomputable def n72_27 : Code := cl n72_26
noncomputable def n72_28 : Code := cl n72_27
noncomputable def q72_28 : List Oper := opsOf n72_28
noncomputable def n72_29 : Code := cr n72_27
noncomputable def n72_30 : Code := cl n72_29
noncomputable def n72_31 : Code := cl n72_30
noncomputable def n72_32 : Code := cr n72_30
noncomputable def n72_33 : Code := cr n72_29
noncomputable def n72_34 : Code := cl n72_33
noncomputable def n72_35 : Code := cl n72_34
noncomputable def n72_36 : Code := cl n72_35
noncomputable def q72_36 : List Oper := opsOf n72_36
noncomputable def n72_37 : Code := cr n72_35
noncomputable def n72_38 : Code := cl n72_37
noncomputable def n72_39 : Code := cl n72_38
noncomputable def n72_40 : Code := cl n72_39
noncomputable def q72_40 : List Oper := opsOf n72_40
noncomputable def n72_41 : Code := cr n72_39
noncomputable def n72_42 : Code := cl n72_41
noncomputable def n72_43 : Code := cl n72_42
noncomputable def q72_43 : List Oper := opsOf n72_43
noncomputable def n72_44 : Code := cr n72_42
noncomputable def n72_45 : Code := cr n72_41
noncomputable def n72_46 : Code := cl n72_45
noncomputable def q72_46 : List Oper := opsOf n72_46
noncomputable def n72_47 : Code := cr n72_45
noncomputable def n72_48 : Code := cl n72_47
noncomputable def n72_49 : Code := cl n72_48
noncomputable def q72_49 : List Oper := opsOf n72_49
noncomputable def n72_50 : Code := cr n72_48
noncomputable def n72_51 : Code := cr n72_47
noncomputable def n72_52 : Code := cr n72_37
noncomputable def q72_52 : List Oper := opsOf n72_52
noncomputable def n72_53 : Code := cr n72_33
noncomputable def q72_53 : List Oper := opsOf n72_53
noncomputable def n72_54 : Code := cr n72_22
noncomputable def n72_55 : Code := cl n72_54
noncomputable def q72_55 : List Oper := opsOf n72_55
noncomputable def n72_56 : Code := cr n72_54
theorem body72 : Try.f72.body = some n72_0 := by kernel_rfl
theorem run72 (E : Ev) (args : List Value) (h : List Blk) (hl : args.length ≤ 41) : runB Try.prog E 72 args h = endS Try.prog [.cell 4 115, .tmp 5] h.length (codeB Try.prog E ⟨72, 41, h.length, none⟩ n72_0 ⟨enumT 0 args, h, []⟩) := GE.run_step Try.func72 body72 (by kernel_rfl) (by decide) (by kernel_rfl) hl
theorem n72_1s : codeB Try.prog E ⟨f, 41, b, ro⟩ n72_1 st = plainS (runOps Try.prog E b q72_1 (ops [false] Try.f72) st) := GE.region_step (id := 0) (GE.reg_of (by kernel_rfl)) (by kernel_rfl)
theorem n72_4s : codeB Try.prog E ⟨f, 41, b, ro⟩ n72_4 st = plainS (runOps Try.prog E b q72_4 (ops [true, false, false] Try.f72) st) := GE.region_step (id := 1) (GE.reg_of (by kernel_rfl)) (by kernel_rfl)
theorem n72_6s : codeB Try.prog E ⟨f, 41, b, ro⟩ n72_6 st = plainS (runOps Try.prog E b q72_6 (ops [true, false, true, false] Try.f72) st) := GE.region_step (id := 2) (GE.reg_of (by kernel_rfl)) (by kernel_rfl)
theorem n72_9s : codeB Try.prog E ⟨f, 41, b, ro⟩ n72_9 st = plainS (runOps Try.prog E b q72_9 (ops [true, false, true, true, false, false] Try.f72) st) := GE.region_step (id := 3) (GE.reg_of (by kernel_rfl)) (by kernel_rfl)
theorem n72_10s : codeB Try.prog LL ⟨72, 41, b, ro⟩ n72_10 st = normS b ⟨[4, 5], [⟨4, 2, 3, true⟩, ⟨4, 3, 1, true⟩]⟩ .ret st := GE.ret_step (by kernel_rfl) (by kernel_rfl)
theorem n72_8s : codeB Try.prog E cx n72_8 st = thenS (codeB Try.prog E cx n72_9 st) (codeB Try.prog E cx n72_10) := GE.seq_step (by kernel_rfl)
theorem n72_11s : codeB Try.prog E cx n72_11 st = some (.normal, st) := GE.skip_step (by kernel_rfl)
theorem n72_7s : codeB Try.prog E cx n72_7 st = condS (codeB Try.prog E cx n72_8) (codeB Try.prog E cx n72_11) (lk st.σ 13) st := GE.cond_step (c := .tmp 13) (by kernel_rfl)
theorem n72_5s : codeB Try.prog E cx n72_5 st = thenS (codeB Try.prog E cx n72_6 st) (codeB Try.prog E cx n72_7) := GE.seq_step (by kernel_rfl)
theorem n72_3s : codeB Try.prog E cx n72_3 st = thenS (codeB Try.prog E cx n72_4 st) (codeB Try.prog E cx n72_5) := GE.seq_step (by kernel_rfl)
theorem n72_14s : codeB Try.prog E ⟨f, 41, b, ro⟩ n72_14 st = plainS (runOps Try.prog E b q72_14 (ops [true, true, false, false] Try.f72) st) := GE.region_step (id := 4) (GE.reg_of (by kernel_rfl)) (by kernel_rfl)
theorem n72_17s : codeB Try.prog E ⟨f, 41, b, ro⟩ n72_17 st = plainS (runOps Try.prog E b q72_17 (ops [true, true, false, true, false, false] Try.f72) st) := GE.region_step (id := 5) (GE.reg_of (by kernel_rfl)) (by kernel_rfl)
theorem n72_18s : codeB Try.prog LL ⟨72, 41, b, ro⟩ n72_18 st = normS b ⟨[4, 5], [⟨4, 2, 3, true⟩, ⟨4, 3, 1, true⟩]⟩ .ret st := GE.ret_step (by kernel_rfl) (by kernel_rfl)
theorem n72_16s : codeB Try.prog E cx n72_16 st = thenS (codeB Try.prog E cx n72_17 st) (codeB Try.prog E cx n72_18) := GE.seq_step (by kernel_rfl)
theorem n72_19s : codeB Try.prog E cx n72_19 st = some (.normal, st) := GE.skip_step (by kernel_rfl)
theorem n72_15s : codeB Try.prog E cx n72_15 st = condS (codeB Try.prog E cx n72_16) (codeB Try.prog E cx n72_19) (lk st.σ 18) st := GE.cond_step (c := .tmp 18) (by kernel_rfl)
theorem n72_13s : codeB Try.prog E cx n72_13 st = thenS (codeB Try.prog E cx n72_14 st) (codeB Try.prog E cx n72_15) := GE.seq_step (by kernel_rfl)
theorem n72_21s : codeB Try.prog E ⟨f, 41, b, ro⟩ n72_21 st = plainS (runOps Try.prog E b q72_21 (ops [true, true, true, false] Try.f72) st) := GE.region_step (id := 6) (GE.reg_of (by kernel_rfl)) (by kernel_rfl)
theorem n72_24s : codeB Try.prog E ⟨f, 41, b, ro⟩ n72_24 st = plainS (runOps Try.prog E b q72_24 (ops [true, true, true, true, false, false] Try.f72) st) := GE.region_step (id := 7) (GE.reg_of (by kernel_rfl)) (by kernel_rfl)
theorem n72_28s : codeB Try.prog E ⟨f, 41, b, ro⟩ n72_28 st = plainS (runOps Try.prog E b q72_28 (ops [true, true, true, true, false, true, false, false, false] Try.f72) st) := GE.region_step (id := 8) (GE.reg_of (by kernel_rfl)) (by kernel_rfl)
theorem n72_31s : codeB Try.prog E cx n72_31 st = some (.normal, st) := GE.skip_step (by kernel_rfl)
theorem n72_32s : codeB Try.prog LL ⟨72, 41, b, ro⟩ n72_32 st = normS b ⟨[1, 2, 4], [⟨1, 0, 1, true⟩, ⟨2, 2, 3, true⟩, ⟨4, 2, 3, true⟩, ⟨4, 3, 1, true⟩]⟩ (.exit 0) st := GE.exit_step (by kernel_rfl) (by kernel_rfl)
theorem n72_30s : codeB Try.prog E cx n72_30 st = condS (codeB Try.prog E cx n72_31) (codeB Try.prog E cx n72_32) (lk st.σ 23) st := GE.cond_step (c := .tmp 23) (by kernel_rfl)
theorem n72_36s : codeB Try.prog E ⟨f, 41, b, ro⟩ n72_36 st = plainS (runOps Try.prog E b q72_36 (ops [true, true, true, true, false, true, false, false, true, true, false, false, false] Try.f72) st) := GE.region_step (id := 9) (GE.reg_of (by kernel_rfl)) (by kernel_rfl)
theorem n72_40s : codeB Try.prog E ⟨f, 41, b, ro⟩ n72_40 st = plainS (runOps Try.prog E b q72_40 (ops [true, true, true, true, false, true, false, false, true, true, false, false, true, false, false, false] Try.f72) st) := GE.region_step (id := 10) (GE.reg_of (by kernel_rfl)) (by kernel_rfl)
theorem n72_43s : codeB Try.prog E ⟨f, 41, b, ro⟩ n72_43 st = plainS (runOps Try.prog E b q72_43 (ops [true, true, true, true, false, true, false, false, true, true, false, false, true, false, false, true, false, false] Try.f72) st) := GE.region_step (id := 11) (GE.reg_of (by kernel_rfl)) (by kernel_rfl)
theorem n72_44s : codeB Try.prog LL ⟨72, 41, b, ro⟩ n72_44 st = normS b ⟨[4, 5], [⟨4, 2, 3, true⟩, ⟨4, 3, 1, true⟩]⟩ .ret st := GE.ret_step (by kernel_rfl) (by kernel_rfl)
theorem n72_42s : codeB Try.prog E cx n72_42 st = thenS (codeB Try.prog E cx n72_43 st) (codeB Try.prog E cx n72_44) := GE.seq_step (by kernel_rfl)
theorem n72_46s : codeB Try.prog E ⟨f, 41, b, ro⟩ n72_46 st = plainS (runOps Try.prog E b q72_46 (ops [true, true, true, true, false, true, false, false, true, true, false, false, true, false, false, true, true, false] Try.f72) st) := GE.region_step (id := 12) (GE.reg_of (by kernel_rfl)) (by kernel_rfl)
theorem n72_49s : codeB Try.prog E ⟨f, 41, b, ro⟩ n72_49 st = plainS (runOps Try.prog E b q72_49 (ops [true, true, true, true, false, true, false, false, true, true, false, false, true, false, false, true, true, true, false, false] Try.f72) st) := GE.region_step (id := 13) (GE.reg_of (by kernel_rfl)) (by kernel_rfl)
theorem n72_50s : codeB Try.prog LL ⟨72, 41, b, ro⟩ n72_50 st = normS b ⟨[4, 5], [⟨4, 2, 3, true⟩, ⟨4, 3, 1, true⟩]⟩ .ret st := GE.ret_step (by kernel_rfl) (by kernel_rfl)
theorem n72_48s : codeB Try.prog E cx n72_48 st = thenS (codeB Try.prog E cx n72_49 st) (codeB Try.prog E cx n72_50) := GE.seq_step (by kernel_rfl)
theorem n72_51s : codeB Try.prog E cx n72_51 st = some (.normal, st) := GE.skip_step (by kernel_rfl)
theorem n72_47s : codeB Try.prog E cx n72_47 st = condS (codeB Try.prog E cx n72_48) (codeB Try.prog E cx n72_51) (lk st.σ 31) st := GE.cond_step (c := .tmp 31) (by kernel_rfl)
theorem n72_45s : codeB Try.prog E cx n72_45 st = thenS (codeB Try.prog E cx n72_46 st) (codeB Try.prog E cx n72_47) := GE.seq_step (by kernel_rfl)
theorem n72_41s : codeB Try.prog E cx n72_41 st = condS (codeB Try.prog E cx n72_42) (codeB Try.prog E cx n72_45) (lk st.σ 26) st := GE.cond_step (c := .tmp 26) (by kernel_rfl)
theorem n72_39s : codeB Try.prog E cx n72_39 st = thenS (codeB Try.prog E cx n72_40 st) (codeB Try.prog E cx n72_41) := GE.seq_step (by kernel_rfl)
theorem n72_38s : codeB Try.prog E cx n72_38 st = blockS 2 (codeB Try.prog E cx n72_39 st) st := GE.block_step (by kernel_rfl)
theorem n72_52s : codeB Try.prog E ⟨f, 41, b, ro⟩ n72_52 st = plainS (runOps Try.prog E b q72_52 (ops [true, true, true, true, false, true, false, false, true, true, false, false, true, true] Try.f72) st) := GE.region_step (id := 14) (GE.reg_of (by kernel_rfl)) (by kernel_rfl)
theorem n72_37s : codeB Try.prog E cx n72_37 st = thenS (codeB Try.prog E cx n72_38 st) (codeB Try.prog E cx n72_52) := GE.seq_step (by kernel_rfl)
theorem n72_35s : codeB Try.prog E cx n72_35 st = thenS (codeB Try.prog E cx n72_36 st) (codeB Try.prog E cx n72_37) := GE.seq_step (by kernel_rfl)
theorem n72_34s : codeB Try.prog E cx n72_34 st = blockS 1 (codeB Try.prog E cx n72_35 st) st := GE.block_step (by kernel_rfl)
theorem n72_53s : codeB Try.prog E ⟨f, 41, b, ro⟩ n72_53 st = plainS (runOps Try.prog E b q72_53 (ops [true, true, true, true, false, true, false, false, true, true, true] Try.f72) st) := GE.region_step (id := 15) (GE.reg_of (by kernel_rfl)) (by kernel_rfl)
theorem n72_33s : codeB Try.prog E cx n72_33 st = thenS (codeB Try.prog E cx n72_34 st) (codeB Try.prog E cx n72_53) := GE.seq_step (by kernel_rfl)
theorem n72_29s : codeB Try.prog E cx n72_29 st = thenS (codeB Try.prog E cx n72_30 st) (codeB Try.prog E cx n72_33) := GE.seq_step (by kernel_rfl)
theorem n72_27s : codeB Try.prog E cx n72_27 st = thenS (codeB Try.prog E cx n72_28 st) (codeB Try.prog E cx n72_29) := GE.seq_step (by kernel_rfl)
theorem n72_26k : LL.kp (⟨72, 41, b, ro⟩ : Cx).fn (4 * rid n72_27 + 3) = some ⟨[1, 2, 4, 7, 20, 21, 22], [⟨1, 0, 1, true⟩, ⟨2, 2, 3, true⟩, ⟨4, 2, 3, true⟩, ⟨4, 3, 1, true⟩, ⟨20, 0, 1, true⟩]⟩ := by kernel_rfl
theorem n72_26s : codeB Try.prog LL ⟨72, 41, b, ro⟩ n72_26 st = headS b ⟨[1, 2, 4, 7, 20, 21, 22], [⟨1, 0, 1, true⟩, ⟨2, 2, 3, true⟩, ⟨4, 2, 3, true⟩, ⟨4, 3, 1, true⟩, ⟨20, 0, 1, true⟩]⟩ st (lpB Try.prog LL ⟨72, 41, b, ro⟩ n72_26 n72_27) := GE.lpB_step (by kernel_rfl) (n72_26k b ro)
theorem n72_26g : LL.code ⟨72, 41, b, ro⟩ n72_26 st = headS b ⟨[1, 2, 4, 7, 20, 21, 22], [⟨1, 0, 1, true⟩, ⟨2, 2, 3, true⟩, ⟨4, 2, 3, true⟩, ⟨4, 3, 1, true⟩, ⟨20, 0, 1, true⟩]⟩ st (lpB Try.prog LL ⟨72, 41, b, ro⟩ n72_26 n72_27) := GE.lpB_again (by kernel_rfl) (n72_26k b ro)
theorem n72_25s : codeB Try.prog E cx n72_25 st = blockS 0 (codeB Try.prog E cx n72_26 st) st := GE.block_step (by kernel_rfl)
theorem n72_23s : codeB Try.prog E cx n72_23 st = thenS (codeB Try.prog E cx n72_24 st) (codeB Try.prog E cx n72_25) := GE.seq_step (by kernel_rfl)
theorem n72_55s : codeB Try.prog E ⟨f, 41, b, ro⟩ n72_55 st = plainS (runOps Try.prog E b q72_55 (ops [true, true, true, true, true, false] Try.f72) st) := GE.region_step (id := 16) (GE.reg_of (by kernel_rfl)) (by kernel_rfl)
theorem n72_56s : codeB Try.prog LL ⟨72, 41, b, ro⟩ n72_56 st = normS b ⟨[4, 5], [⟨4, 2, 3, true⟩, ⟨4, 3, 1, true⟩]⟩ .ret st := GE.ret_step (by kernel_rfl) (by kernel_rfl)
theorem n72_54s : codeB Try.prog E cx n72_54 st = thenS (codeB Try.prog E cx n72_55 st) (codeB Try.prog E cx n72_56) := GE.seq_step (by kernel_rfl)
theorem n72_22s : codeB Try.prog E cx n72_22 st = thenS (codeB Try.prog E cx n72_23 st) (codeB Try.prog E cx n72_54) := GE.seq_step (by kernel_rfl)
theorem n72_20s : codeB Try.prog E cx n72_20 st = thenS (codeB Try.prog E cx n72_21 st) (codeB Try.prog E cx n72_22) := GE.seq_step (by kernel_rfl)
theorem n72_12s : codeB Try.prog E cx n72_12 st = thenS (codeB Try.prog E cx n72_13 st) (codeB Try.prog E cx n72_20) := GE.seq_step (by kernel_rfl)
theorem n72_2s : codeB Try.prog E cx n72_2 st = thenS (codeB Try.prog E cx n72_3 st) (codeB Try.prog E cx n72_12) := GE.seq_step (by kernel_rfl)
theorem n72_0s : codeB Try.prog E cx n72_0 st = thenS (codeB Try.prog E cx n72_1 st) (codeB Try.prog E cx n72_2) := GE.seq_step (by kernel_rfl)
noncomputable def n53_0 : Code := bodyOf Try.f53
noncomputable def n53_1 : Code := cl n53_0
noncomputable def q53_1 : List Oper := opsOf n53_1
noncomputable def n53_2 : Code := cr n53_0
noncomputable def n53_3 : Code := cl n53_2
noncomputable def q53_3 : List Oper := opsOf n53_3
noncomputable def n53_4 : Code := cr n53_2
noncomputable def n53_5 : Code := cl n53_4
noncomputable def n53_6 : Code := cl n53_5
noncomputable def q53_6 : List Oper := opsOf n53_6
noncomputable def n53_7 : Code := cr n53_5
noncomputable def n53_8 : Code := cl n53_7
noncomputable def n53_9 : Code := cl n53_8
noncomputable def q53_9 : List Oper := opsOf n53_9
noncomputable def n53_10 : Code := cr n53_8
noncomputable def n53_11 : Code := cr n53_7
noncomputable def n53_12 : Code := cr n53_4
noncomputable def n53_13 : Code := cl n53_12
noncomputable def q53_13 : List Oper := opsOf n53_13
noncomputable def n53_14 : Code := cr n53_12
theorem body53 : Try.f53.body = some n53_0 := by kernel_rfl
theorem run53 (E : Ev) (args : List Value) (h : List Blk) (hl : args.length ≤ 24) : runB Try.prog E 53 args h = endS Try.prog [.cell 4 115, .tmp 5] h.length (codeB Try.prog E ⟨53, 24, h.length, none⟩ n53_0 ⟨enumT 0 args, h, []⟩) := GE.run_step Try.func53 body53 (by kernel_rfl) (by decide) (by kernel_rfl) hl
theorem n53_1s : codeB Try.prog E ⟨f, 24, b, ro⟩ n53_1 st = plainS (runOps Try.prog E b q53_1 (ops [false] Try.f53) st) := GE.region_step (id := 0) (GE.reg_of (by kernel_rfl)) (by kernel_rfl)
theorem n53_3s : codeB Try.prog E ⟨f, 24, b, ro⟩ n53_3 st = plainS (runOps Try.prog E b q53_3 (ops [true, false] Try.f53) st) := GE.region_step (id := 1) (GE.reg_of (by kernel_rfl)) (by kernel_rfl)
theorem q53_6g2 : gd q53_6 2 = some 16 := by kernel_rfl
theorem n53_6s : codeB Try.prog E ⟨f, 24, b, ro⟩ n53_6 st = plainS (runOps Try.prog E b q53_6 (ops [true, true, false, false] Try.f53) st) := GE.region_step (id := 2) (GE.reg_of (by kernel_rfl)) (by kernel_rfl)
theorem n53_9s : codeB Try.prog E ⟨f, 24, b, ro⟩ n53_9 st = plainS (runOps Try.prog E b q53_9 (ops [true, true, false, true, false, false] Try.f53) st) := GE.region_step (id := 3) (GE.reg_of (by kernel_rfl)) (by kernel_rfl)
theorem n53_10s : codeB Try.prog LL ⟨53, 24, b, ro⟩ n53_10 st = normS b ⟨[4, 5], [⟨4, 2, 3, true⟩, ⟨4, 3, 1, true⟩]⟩ .ret st := GE.ret_step (by kernel_rfl) (by kernel_rfl)
theorem n53_8s : codeB Try.prog E cx n53_8 st = thenS (codeB Try.prog E cx n53_9 st) (codeB Try.prog E cx n53_10) := GE.seq_step (by kernel_rfl)
theorem n53_11s : codeB Try.prog E cx n53_11 st = some (.normal, st) := GE.skip_step (by kernel_rfl)
theorem n53_7s : codeB Try.prog E cx n53_7 st = condS (codeB Try.prog E cx n53_8) (codeB Try.prog E cx n53_11) (lk st.σ 20) st := GE.cond_step (c := .tmp 20) (by kernel_rfl)
theorem n53_5s : codeB Try.prog E cx n53_5 st = thenS (codeB Try.prog E cx n53_6 st) (codeB Try.prog E cx n53_7) := GE.seq_step (by kernel_rfl)
theorem n53_13s : codeB Try.prog E ⟨f, 24, b, ro⟩ n53_13 st = plainS (runOps Try.prog E b q53_13 (ops [true, true, true, false] Try.f53) st) := GE.region_step (id := 4) (GE.reg_of (by kernel_rfl)) (by kernel_rfl)
theorem n53_14s : codeB Try.prog LL ⟨53, 24, b, ro⟩ n53_14 st = normS b ⟨[4, 5], [⟨4, 2, 3, true⟩, ⟨4, 3, 1, true⟩]⟩ .ret st := GE.ret_step (by kernel_rfl) (by kernel_rfl)
theorem n53_12s : codeB Try.prog E cx n53_12 st = thenS (codeB Try.prog E cx n53_13 st) (codeB Try.prog E cx n53_14) := GE.seq_step (by kernel_rfl)
theorem n53_4s : codeB Try.prog E cx n53_4 st = thenS (codeB Try.prog E cx n53_5 st) (codeB Try.prog E cx n53_12) := GE.seq_step (by kernel_rfl)
theorem n53_2s : codeB Try.prog E cx n53_2 st = thenS (codeB Try.prog E cx n53_3 st) (codeB Try.prog E cx n53_4) := GE.seq_step (by kernel_rfl)
theorem n53_0s : codeB Try.prog E cx n53_0 st = thenS (codeB Try.prog E cx n53_1 st) (codeB Try.prog E cx n53_2) := GE.seq_step (by kernel_rfl)
noncomputable def n20_0 : Code := bodyOf Try.f20
noncomputable def n20_1 : Code := cl n20_0
noncomputable def q20_1 : List Oper := opsOf n20_1
noncomputable def n20_2 : Code := cr n20_0
noncomputable def n20_3 : Code := cl n20_2
noncomputable def q20_3 : List Oper := opsOf n20_3
noncomputable def n20_4 : Code := cr n20_2
noncomputable def n20_5 : Code := cl n20_4
noncomputable def q20_5 : List Oper := opsOf n20_5
noncomputable def n20_6 : Code := cr n20_4
theorem body20 : Try.f20.body = some n20_0 := by kernel_rfl
theorem run20 (E : Ev) (args : List Value) (h : List Blk) (hl : args.length ≤ 14) : runB Try.prog E 20 args h = endS Try.prog [.tmp 4] h.length (codeB Try.prog E ⟨20, 14, h.length, none⟩ n20_0 ⟨enumT 0 args, h, []⟩) := GE.run_step Try.func20 body20 (by kernel_rfl) (by decide) (by kernel_rfl) hl
theorem n20_1s : codeB Try.prog E ⟨f, 14, b, ro⟩ n20_1 st = plainS (runOps Try.prog E b q20_1 (ops [false] Try.f20) st) := GE.region_step (id := 0) (GE.reg_of (by kernel_rfl)) (by kernel_rfl)
theorem n20_3s : codeB Try.prog E ⟨f, 14, b, ro⟩ n20_3 st = plainS (runOps Try.prog E b q20_3 (ops [true, false] Try.f20) st) := GE.region_step (id := 1) (GE.reg_of (by kernel_rfl)) (by kernel_rfl)
theorem n20_5s : codeB Try.prog E ⟨f, 14, b, ro⟩ n20_5 st = plainS (runOps Try.prog E b q20_5 (ops [true, true, false] Try.f20) st) := GE.region_step (id := 2) (GE.reg_of (by kernel_rfl)) (by kernel_rfl)
theorem n20_6s : codeB Try.prog LL ⟨20, 14, b, ro⟩ n20_6 st = normS b ⟨[4], []⟩ .ret st := GE.ret_step (by kernel_rfl) (by kernel_rfl)
theorem n20_4s : codeB Try.prog E cx n20_4 st = thenS (codeB Try.prog E cx n20_5 st) (codeB Try.prog E cx n20_6) := GE.seq_step (by kernel_rfl)
theorem n20_2s : codeB Try.prog E cx n20_2 st = thenS (codeB Try.prog E cx n20_3 st) (codeB Try.prog E cx n20_4) := GE.seq_step (by kernel_rfl)
theorem n20_0s : codeB Try.prog E cx n20_0 st = thenS (codeB Try.prog E cx n20_1 st) (codeB Try.prog E cx n20_2) := GE.seq_step (by kernel_rfl)
theorem fa_24_0 : fieldAt Try.prog 24 0 = some (0, 1) := by kernel_rfl
theorem ia_3 : aggK Try.prog 3 = some (false, 1) := by kernel_rfl
theorem fa_24_1 : fieldAt Try.prog 24 1 = some (1, 1) := by kernel_rfl
theorem fa_24_2 : fieldAt Try.prog 24 2 = some (2, 1) := by kernel_rfl
theorem ia_22 : aggK Try.prog 22 = some (false, 1) := by kernel_rfl
theorem lk_22 : lenK Try.prog 22 = some .sl := by kernel_rfl
theorem es_22 : elemK Try.prog 22 = some (none, 3) := by kernel_rfl
theorem ia_59 : aggK Try.prog 59 = some (true, 3) := by kernel_rfl
theorem za_59 : zeroA Try.prog 59 = some (.agg #[(.int .i64 (0)), (.int .i64 (0)), (.int .i64 (0))]) := by kernel_rfl
theorem sz_59 : aggSize Try.prog 59 = some 3 := by kernel_rfl
theorem fa_59_0 : fieldAt Try.prog 59 0 = some (0, 1) := by kernel_rfl
theorem fa_29_0 : fieldAt Try.prog 29 0 = some (0, 1) := by kernel_rfl
theorem fa_29_1 : fieldAt Try.prog 29 1 = some (1, 1) := by kernel_rfl
theorem fa_29_2 : fieldAt Try.prog 29 2 = some (2, 1) := by kernel_rfl
theorem ia_27 : aggK Try.prog 27 = some (false, 1) := by kernel_rfl
theorem lk_27 : lenK Try.prog 27 = some .sl := by kernel_rfl
theorem es_27 : elemK Try.prog 27 = some (none, 3) := by kernel_rfl
theorem ia_108 : aggK Try.prog 108 = some (true, 3) := by kernel_rfl
theorem za_108 : zeroA Try.prog 108 = some (.agg #[(.int .i64 (0)), (.int .i64 (0)), (.int .i64 (0))]) := by kernel_rfl
theorem sz_108 : aggSize Try.prog 108 = some 3 := by kernel_rfl
theorem fa_108_0 : fieldAt Try.prog 108 0 = some (0, 1) := by kernel_rfl
theorem fa_108_1 : fieldAt Try.prog 108 1 = some (1, 2) := by kernel_rfl
theorem fa_57_0 : fieldAt Try.prog 57 0 = some (0, 1) := by kernel_rfl
theorem fa_57_1 : fieldAt Try.prog 57 1 = some (1, 1) := by kernel_rfl
theorem fa_59_1 : fieldAt Try.prog 59 1 = some (1, 2) := by kernel_rfl
theorem ia_24 : aggK Try.prog 24 = some (true, 3) := by kernel_rfl
theorem za_57 : zeroA Try.prog 57 = some (.agg #[(.int .i64 (0)), (.int .i64 (0))]) := by kernel_rfl
theorem sz_57 : aggSize Try.prog 57 = some 2 := by kernel_rfl
theorem pl_57 : plK Try.prog 57 = some [(0, 1), (1, 1)] := by kernel_rfl
theorem ia_57 : aggK Try.prog 57 = some (true, 2) := by kernel_rfl
theorem fa_115_1 : fieldAt Try.prog 115 1 = some (3, 1) := by kernel_rfl
theorem ia_25 : aggK Try.prog 25 = some (false, 1) := by kernel_rfl
theorem lk_25 : lenK Try.prog 25 = some .sl := by kernel_rfl
theorem cv_3_190 : convK Try.prog 3 190 = some .u64 := by kernel_rfl
theorem cv_190_3 : convK Try.prog 190 3 = some .i64 := by kernel_rfl
theorem es_25 : elemK Try.prog 25 = some (none, 1) := by kernel_rfl
theorem ia_29 : aggK Try.prog 29 = some (true, 3) := by kernel_rfl
theorem fa_115_0 : fieldAt Try.prog 115 0 = some (0, 3) := by kernel_rfl
theorem ia_115 : aggK Try.prog 115 = some (true, 4) := by kernel_rfl
theorem za_4 : zeroA Try.prog 4 = some (.bool false) := by kernel_rfl
theorem za_3 : zeroA Try.prog 3 = some (.int .i64 (0)) := by kernel_rfl
theorem sz_3 : aggSize Try.prog 3 = some 1 := by kernel_rfl
theorem sz_4 : aggSize Try.prog 4 = some 1 := by kernel_rfl
theorem ia_4 : aggK Try.prog 4 = some (false, 1) := by kernel_rfl
theorem za_115 : zeroA Try.prog 115 = some (.agg #[(.int .i64 (0)), (.int .i64 (0)), (.slice none 0 0), (.slice none 0 0)]) := by kernel_rfl
theorem pl_115 : plK Try.prog 115 = some [(0, 3), (3, 1)] := by kernel_rfl
theorem sz_115 : aggSize Try.prog 115 = some 4 := by kernel_rfl

end Go.Proofs.Ytiafgimgcbmgaaa.bl
