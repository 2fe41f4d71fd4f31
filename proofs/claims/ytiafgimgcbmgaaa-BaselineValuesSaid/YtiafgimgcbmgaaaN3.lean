/-
  Names for the nodes of the code of some functions (projections of their bodies), the step of each node, and the facts of types that they use.
-/
import Derived.Test.YtiafgimgcbmgaaaN1
import Derived.Test.YtiafgimgcbmgaaaN2
namespace Go.Proofs.Ytiafgimgcbmgaaa.bl
open Go.GE
set_option maxRecDepth 100000
variable (E : Ev) (cx : Cx) (st : St) (f nt b : Nat) (ro : Option Nat)
noncomputable def n25_0 : Code := bodyOf Try.f25
noncomputable def n25_1 : Code := cl n25_0
noncomputable def q25_1 : List Oper := opsOf n25_1
noncomputable def n25_2 : Code := cr n25_0
noncomputable def n25_3 : Code := cl n25_2
noncomputable def n25_4 : Code := cl n25_3
noncomputable def q25_4 : List Oper := opsOf n25_4
noncomputable def n25_5 : Code := cr n25_3
noncomputable def n25_6 : Code := cl n25_5
noncomputable def q25_6 : List Oper := opsOf n25_6
noncomputable def n25_7 : Code := cr n25_5
noncomputable def n25_8 : Code := cl n25_7
noncomputable def n25_9 : Code := cl n25_8
noncomputable def q25_9 : List Oper := opsOf n25_9
noncomputable def n25_10 : Code := cr n25_8
noncomputable def n25_11 : Code := cr n25_7
noncomputable def n25_12 : Code := cr n25_2
noncomputable def n25_13 : Code := cl n25_12
noncomputable def q25_13 : List Oper := opsOf n25_13
noncomputable def n25_14 : Code := cr n25_12
noncomputable def n25_15 : Code := cl n25_14
noncomputable def n25_16 : Code := cl n25_15
noncomputable def q25_16 : List Oper := opsOf n25_16
noncomputable def n25_17 : Code := cr n25_15
noncomputable def n25_18 : Code := cl n25_17
noncomputable def n25_19 : Code := cl n25_18
noncomputable def n25_20 : Code := cl n25_19
noncomputable def q25_20 : List Oper := opsOf n25_20
noncomputable def n25_21 : Code := cr n25_19
noncomputable def n25_22 : Code := cl n25_21
noncomputable def n25_23 : Code := cl n25_22
noncomputable def n25_24 : Code := cr n25_22
noncomputable def n25_25 : Code := cr n25_21
noncomputable def n25_26 : Code := cl n25_25
noncomputable def n25_27 : Code := cl n25_26
noncomputable def n25_28 : Code := cl n25_27
noncomputable def q25_28 : List Oper := opsOf n25_28
noncomputable def n25_29 : Code := cr n25_27
noncomputable def n25_30 : Code := cl n25_29
noncomputable def n25_31 : Code := cl n25_30
noncomputable def n25_32 : Code := cl n25_31
noncomputable def q25_32 : List Oper := opsOf n25_32
noncomputable def n25_33 : Code := cr n25_31
noncomputable def n25_34 : Code := cl n25_33
noncomputable def n25_35 : Code := cl n25_34
noncomputable def q25_35 : List Oper := opsOf n25_35
noncomputable def n25_36 : Code := cr n25_34
noncomputable def n25_37 : Code := cr n25_33
noncomputable def n25_38 : Code := cl n25_37
noncomputable def q25_38 : List Oper := opsOf n25_38
noncomputable def n25_39 : Code := cr n25_37
noncomputable def n25_40 : Code := cl n25_39
noncomputable def n25_41 : Code := cl n25_40
noncomputable def q25_41 : List Oper := opsOf n25_41
noncomputable def n25_42 : Code := cr n25_40
noncomputable def n25_43 : Code := cr n25_39
noncomputable def n25_44 : Code := cl n25_43
noncomputable def q25_44 : List Oper := opsOf n25_44
noncomputable def n25_45 : Code := cr n25_43
noncomputable def n25_46 : Code := cl n25_45
noncomputable def n25_47 : Code := cl n25_46
noncomputable def q25_47 : List Oper := opsOf n25_47
noncomputable def n25_48 : Code := cr n25_46
noncomputable def n25_49 : Code := cr n25_45
noncomputable def n25_50 : Code := cr n25_29
noncomputable def q25_50 : List Oper := opsOf n25_50
noncomputable def n25_51 : Code := cr n25_25
noncomputable def q25_51 : List Oper := opsOf n25_51
noncomputable def n25_52 : Code := cr n25_14
noncomputable def n25_53 : Code := cl n25_52
noncomputable def q25_53 : List Oper := opsOf n25_53
noncomputable def n25_54 : Code := cr n25_52
theorem body25 : Try.f25.body = some n25_0 := by kernel_rfl
theorem run25 (E : Ev) (args : List Value) (h : List Blk) (hl : args.length ≤ 69) : runB Try.prog E 25 args h = endS Try.prog [.tmp 4] h.length (codeB Try.prog E ⟨25, 69, h.length, none⟩ n25_0 ⟨enumT 0 args, h, []⟩) := GE.run_step Try.func25 body25 (by kernel_rfl) (by decide) (by kernel_rfl) hl
theorem n25_1s : codeB Try.prog E ⟨f, 69, b, ro⟩ n25_1 st = plainS (runOps Try.prog E b q25_1 (ops [false] Try.f25) st) := GE.region_step (id := 0) (GE.reg_of (by kernel_rfl)) (by kernel_rfl)
theorem n25_4s : codeB Try.prog E ⟨f, 69, b, ro⟩ n25_4 st = plainS (runOps Try.prog E b q25_4 (ops [true, false, false] Try.f25) st) := GE.region_step (id := 1) (GE.reg_of (by kernel_rfl)) (by kernel_rfl)
theorem n25_6s : codeB Try.prog E ⟨f, 69, b, ro⟩ n25_6 st = plainS (runOps Try.prog E b q25_6 (ops [true, false, true, false] Try.f25) st) := GE.region_step (id := 2) (GE.reg_of (by kernel_rfl)) (by kernel_rfl)
theorem n25_9s : codeB Try.prog E ⟨f, 69, b, ro⟩ n25_9 st = plainS (runOps Try.prog E b q25_9 (ops [true, false, true, true, false, false] Try.f25) st) := GE.region_step (id := 3) (GE.reg_of (by kernel_rfl)) (by kernel_rfl)
theorem n25_10s : codeB Try.prog LL ⟨25, 69, b, ro⟩ n25_10 st = normS b ⟨[4], []⟩ .ret st := GE.ret_step (by kernel_rfl) (by kernel_rfl)
theorem n25_8s : codeB Try.prog E cx n25_8 st = thenS (codeB Try.prog E cx n25_9 st) (codeB Try.prog E cx n25_10) := GE.seq_step (by kernel_rfl)
theorem n25_11s : codeB Try.prog E cx n25_11 st = some (.normal, st) := GE.skip_step (by kernel_rfl)
theorem n25_7s : codeB Try.prog E cx n25_7 st = condS (codeB Try.prog E cx n25_8) (codeB Try.prog E cx n25_11) (lk st.σ 13) st := GE.cond_step (c := .tmp 13) (by kernel_rfl)
theorem n25_5s : codeB Try.prog E cx n25_5 st = thenS (codeB Try.prog E cx n25_6 st) (codeB Try.prog E cx n25_7) := GE.seq_step (by kernel_rfl)
theorem n25_3s : codeB Try.prog E cx n25_3 st = thenS (codeB Try.prog E cx n25_4 st) (codeB Try.prog E cx n25_5) := GE.seq_step (by kernel_rfl)
theorem n25_13s : codeB Try.prog E ⟨f, 69, b, ro⟩ n25_13 st = drawS [0, 1, 3, 7, 0, 31] (runOpsF Try.prog E b q25_13 (ops [true, true, false] Try.f25) st) := GE.draw_step (id := 4) (GE.reg_of (by kernel_rfl)) (by kernel_rfl) (by kernel_rfl) (by kernel_rfl)
theorem n25_16s : codeB Try.prog E ⟨f, 69, b, ro⟩ n25_16 st = plainS (runOps Try.prog E b q25_16 (ops [true, true, true, false, false] Try.f25) st) := GE.region_step (id := 5) (GE.reg_of (by kernel_rfl)) (by kernel_rfl)
theorem n25_20s : codeB Try.prog E ⟨f, 69, b, ro⟩ n25_20 st = plainS (runOps Try.prog E b q25_20 (ops [true, true, true, false, true, false, false, false] Try.f25) st) := GE.region_step (id := 6) (GE.reg_of (by kernel_rfl)) (by kernel_rfl)
theorem n25_23s : codeB Try.prog E cx n25_23 st = some (.normal, st) := GE.skip_step (by kernel_rfl)
theorem n25_24s : codeB Try.prog LL ⟨25, 69, b, ro⟩ n25_24 st = normS b ⟨[], []⟩ (.exit 0) st := GE.exit_step (by kernel_rfl) (by kernel_rfl)
theorem n25_22s : codeB Try.prog E cx n25_22 st = condS (codeB Try.prog E cx n25_23) (codeB Try.prog E cx n25_24) (lk st.σ 22) st := GE.cond_step (c := .tmp 22) (by kernel_rfl)
theorem n25_28s : codeB Try.prog E ⟨f, 69, b, ro⟩ n25_28 st = plainS (runOps Try.prog E b q25_28 (ops [true, true, true, false, true, false, false, true, true, false, false, false] Try.f25) st) := GE.region_step (id := 7) (GE.reg_of (by kernel_rfl)) (by kernel_rfl)
theorem q25_32g5 : gd q25_32 5 = some 31 := by kernel_rfl
theorem n25_32s : codeB Try.prog E ⟨f, 69, b, ro⟩ n25_32 st = plainS (runOps Try.prog E b q25_32 (ops [true, true, true, false, true, false, false, true, true, false, false, true, false, false, false] Try.f25) st) := GE.region_step (id := 8) (GE.reg_of (by kernel_rfl)) (by kernel_rfl)
theorem n25_35s : codeB Try.prog E ⟨f, 69, b, ro⟩ n25_35 st = plainS (runOps Try.prog E b q25_35 (ops [true, true, true, false, true, false, false, true, true, false, false, true, false, false, true, false, false] Try.f25) st) := GE.region_step (id := 9) (GE.reg_of (by kernel_rfl)) (by kernel_rfl)
theorem n25_36s : codeB Try.prog LL ⟨25, 69, b, ro⟩ n25_36 st = normS b ⟨[4], []⟩ .ret st := GE.ret_step (by kernel_rfl) (by kernel_rfl)
theorem n25_34s : codeB Try.prog E cx n25_34 st = thenS (codeB Try.prog E cx n25_35 st) (codeB Try.prog E cx n25_36) := GE.seq_step (by kernel_rfl)
theorem q25_38g5 : gd q25_38 5 = some 44 := by kernel_rfl
theorem n25_38s : codeB Try.prog E ⟨f, 69, b, ro⟩ n25_38 st = plainS (runOps Try.prog E b q25_38 (ops [true, true, true, false, true, false, false, true, true, false, false, true, false, false, true, true, false] Try.f25) st) := GE.region_step (id := 10) (GE.reg_of (by kernel_rfl)) (by kernel_rfl)
theorem n25_41s : codeB Try.prog E ⟨f, 69, b, ro⟩ n25_41 st = plainS (runOps Try.prog E b q25_41 (ops [true, true, true, false, true, false, false, true, true, false, false, true, false, false, true, true, true, false, false] Try.f25) st) := GE.region_step (id := 11) (GE.reg_of (by kernel_rfl)) (by kernel_rfl)
theorem n25_42s : codeB Try.prog LL ⟨25, 69, b, ro⟩ n25_42 st = normS b ⟨[4], []⟩ .ret st := GE.ret_step (by kernel_rfl) (by kernel_rfl)
theorem n25_40s : codeB Try.prog E cx n25_40 st = thenS (codeB Try.prog E cx n25_41 st) (codeB Try.prog E cx n25_42) := GE.seq_step (by kernel_rfl)
theorem n25_44s : codeB Try.prog E ⟨f, 69, b, ro⟩ n25_44 st = drawS [0, 0, 2, 0, 8, 30, 62, 0, 128, 0, 512, 1920, 3968, 8191, 16383, 32767] (runOpsF Try.prog E b q25_44 (ops [true, true, true, false, true, false, false, true, true, false, false, true, false, false, true, true, true, true, false] Try.f25) st) := GE.draw_step (id := 12) (GE.reg_of (by kernel_rfl)) (by kernel_rfl) (by kernel_rfl) (by kernel_rfl)
theorem n25_47s : codeB Try.prog E ⟨f, 69, b, ro⟩ n25_47 st = plainS (runOps Try.prog E b q25_47 (ops [true, true, true, false, true, false, false, true, true, false, false, true, false, false, true, true, true, true, true, false, false] Try.f25) st) := GE.region_step (id := 13) (GE.reg_of (by kernel_rfl)) (by kernel_rfl)
theorem n25_48s : codeB Try.prog LL ⟨25, 69, b, ro⟩ n25_48 st = normS b ⟨[4], []⟩ .ret st := GE.ret_step (by kernel_rfl) (by kernel_rfl)
theorem n25_46s : codeB Try.prog E cx n25_46 st = thenS (codeB Try.prog E cx n25_47 st) (codeB Try.prog E cx n25_48) := GE.seq_step (by kernel_rfl)
theorem n25_49s : codeB Try.prog E cx n25_49 st = some (.normal, st) := GE.skip_step (by kernel_rfl)
theorem n25_45s : codeB Try.prog E cx n25_45 st = condS (codeB Try.prog E cx n25_46) (codeB Try.prog E cx n25_49) (lk st.σ 50) st := GE.cond_step (c := .tmp 50) (by kernel_rfl)
theorem n25_43s : codeB Try.prog E cx n25_43 st = thenS (codeB Try.prog E cx n25_44 st) (codeB Try.prog E cx n25_45) := GE.seq_step (by kernel_rfl)
theorem n25_39s : codeB Try.prog E cx n25_39 st = condS (codeB Try.prog E cx n25_40) (codeB Try.prog E cx n25_43) (lk st.σ 38) st := GE.cond_step (c := .tmp 38) (by kernel_rfl)
theorem n25_37s : codeB Try.prog E cx n25_37 st = thenS (codeB Try.prog E cx n25_38 st) (codeB Try.prog E cx n25_39) := GE.seq_step (by kernel_rfl)
theorem n25_33s : codeB Try.prog E cx n25_33 st = condS (codeB Try.prog E cx n25_34) (codeB Try.prog E cx n25_37) (lk st.σ 25) st := GE.cond_step (c := .tmp 25) (by kernel_rfl)
theorem n25_31s : codeB Try.prog E cx n25_31 st = thenS (codeB Try.prog E cx n25_32 st) (codeB Try.prog E cx n25_33) := GE.seq_step (by kernel_rfl)
theorem n25_30s : codeB Try.prog E cx n25_30 st = blockS 2 (codeB Try.prog E cx n25_31 st) st := GE.block_step (by kernel_rfl)
theorem n25_50s : codeB Try.prog E ⟨f, 69, b, ro⟩ n25_50 st = plainS (runOps Try.prog E b q25_50 (ops [true, true, true, false, true, false, false, true, true, false, false, true, true] Try.f25) st) := GE.region_step (id := 14) (GE.reg_of (by kernel_rfl)) (by kernel_rfl)
theorem n25_29s : codeB Try.prog E cx n25_29 st = thenS (codeB Try.prog E cx n25_30 st) (codeB Try.prog E cx n25_50) := GE.seq_step (by kernel_rfl)
theorem n25_27s : codeB Try.prog E cx n25_27 st = thenS (codeB Try.prog E cx n25_28 st) (codeB Try.prog E cx n25_29) := GE.seq_step (by kernel_rfl)
theorem n25_26s : codeB Try.prog E cx n25_26 st = blockS 1 (codeB Try.prog E cx n25_27 st) st := GE.block_step (by kernel_rfl)
theorem n25_51s : codeB Try.prog E ⟨f, 69, b, ro⟩ n25_51 st = plainS (runOps Try.prog E b q25_51 (ops [true, true, true, false, true, false, false, true, true, true] Try.f25) st) := GE.region_step (id := 15) (GE.reg_of (by kernel_rfl)) (by kernel_rfl)
theorem n25_25s : codeB Try.prog E cx n25_25 st = thenS (codeB Try.prog E cx n25_26 st) (codeB Try.prog E cx n25_51) := GE.seq_step (by kernel_rfl)
theorem n25_21s : codeB Try.prog E cx n25_21 st = thenS (codeB Try.prog E cx n25_22 st) (codeB Try.prog E cx n25_25) := GE.seq_step (by kernel_rfl)
theorem n25_19s : codeB Try.prog E cx n25_19 st = thenS (codeB Try.prog E cx n25_20 st) (codeB Try.prog E cx n25_21) := GE.seq_step (by kernel_rfl)
theorem n25_18k : LL.kp (⟨25, 69, b, ro⟩ : Cx).fn (4 * rid n25_19 + 3) = some ⟨[2, 6, 7, 19, 20, 21], [⟨2, 2, 3, true⟩, ⟨19, 0, 2, true⟩]⟩ := by kernel_rfl
theorem n25_18s : codeB Try.prog LL ⟨25, 69, b, ro⟩ n25_18 st = headS b ⟨[2, 6, 7, 19, 20, 21], [⟨2, 2, 3, true⟩, ⟨19, 0, 2, true⟩]⟩ st (lpB Try.prog LL ⟨25, 69, b, ro⟩ n25_18 n25_19) := GE.lpB_step (by kernel_rfl) (n25_18k b ro)
theorem n25_18g : LL.code ⟨25, 69, b, ro⟩ n25_18 st = headS b ⟨[2, 6, 7, 19, 20, 21], [⟨2, 2, 3, true⟩, ⟨19, 0, 2, true⟩]⟩ st (lpB Try.prog LL ⟨25, 69, b, ro⟩ n25_18 n25_19) := GE.lpB_again (by kernel_rfl) (n25_18k b ro)
theorem n25_17s : codeB Try.prog E cx n25_17 st = blockS 0 (codeB Try.prog E cx n25_18 st) st := GE.block_step (by kernel_rfl)
theorem n25_15s : codeB Try.prog E cx n25_15 st = thenS (codeB Try.prog E cx n25_16 st) (codeB Try.prog E cx n25_17) := GE.seq_step (by kernel_rfl)
theorem n25_53s : codeB Try.prog E ⟨f, 69, b, ro⟩ n25_53 st = plainS (runOps Try.prog E b q25_53 (ops [true, true, true, true, false] Try.f25) st) := GE.region_step (id := 16) (GE.reg_of (by kernel_rfl)) (by kernel_rfl)
theorem n25_54s : codeB Try.prog LL ⟨25, 69, b, ro⟩ n25_54 st = normS b ⟨[4], []⟩ .ret st := GE.ret_step (by kernel_rfl) (by kernel_rfl)
theorem n25_52s : codeB Try.prog E cx n25_52 st = thenS (codeB Try.prog E cx n25_53 st) (codeB Try.prog E cx n25_54) := GE.seq_step (by kernel_rfl)
theorem n25_14s : codeB Try.prog E cx n25_14 st = thenS (codeB Try.prog E cx n25_15 st) (codeB Try.prog E cx n25_52) := GE.seq_step (by kernel_rfl)
theorem n25_12s : codeB Try.prog E cx n25_12 st = thenS (codeB Try.prog E cx n25_13 st) (codeB Try.prog E cx n25_14) := GE.seq_step (by kernel_rfl)
theorem n25_2s : codeB Try.prog E cx n25_2 st = thenS (codeB Try.prog E cx n25_3 st) (codeB Try.prog E cx n25_12) := GE.seq_step (by kernel_rfl)
theorem n25_0s : codeB Try.prog E cx n25_0 st = thenS (codeB Try.prog E cx n25_1 st) (codeB Try.prog E cx n25_2) := GE.seq_step (by kernel_rfl)
theorem fa_95_0 : fieldAt Try.prog 95 0 = some (0, 1) := by kernel_rfl

end Go.Proofs.Ytiafgimgcbmgaaa.bl
