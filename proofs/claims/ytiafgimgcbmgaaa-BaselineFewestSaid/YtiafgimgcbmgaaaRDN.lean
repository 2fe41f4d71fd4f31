/-
  Names for the nodes of the code of some functions (projections of their bodies), the step of each node, and the facts of types that they use.
-/
import Derived.Test.YtiafgimgcbmgaaaKp
namespace Go.Proofs.Ytiafgimgcbmgaaa.bl
open Go.GE
set_option maxRecDepth 100000
variable (E : Ev) (cx : Cx) (st : St) (f nt b : Nat) (ro : Option Nat)
noncomputable def n7_0 : Code := bodyOf Try.f7
noncomputable def n7_1 : Code := cl n7_0
noncomputable def q7_1 : List Oper := opsOf n7_1
noncomputable def n7_2 : Code := cr n7_0
noncomputable def n7_3 : Code := cl n7_2
noncomputable def q7_3 : List Oper := opsOf n7_3
noncomputable def n7_4 : Code := cr n7_2
noncomputable def n7_5 : Code := cl n7_4
noncomputable def q7_5 : List Oper := opsOf n7_5
noncomputable def n7_6 : Code := cr n7_4
noncomputable def n7_7 : Code := cl n7_6
noncomputable def q7_7 : List Oper := opsOf n7_7
noncomputable def n7_8 : Code := cr n7_6
noncomputable def n7_9 : Code := cl n7_8
noncomputable def n7_10 : Code := cl n7_9
noncomputable def q7_10 : List Oper := opsOf n7_10
noncomputable def n7_11 : Code := cr n7_9
noncomputable def n7_12 : Code := cl n7_11
noncomputable def n7_13 : Code := cl n7_12
noncomputable def q7_13 : List Oper := opsOf n7_13
noncomputable def n7_14 : Code := cr n7_12
noncomputable def n7_15 : Code := cr n7_11
noncomputable def n7_16 : Code := cr n7_8
noncomputable def n7_17 : Code := cl n7_16
noncomputable def q7_17 : List Oper := opsOf n7_17
noncomputable def n7_18 : Code := cr n7_16
noncomputable def n7_19 : Code := cl n7_18
noncomputable def q7_19 : List Oper := opsOf n7_19
noncomputable def n7_20 : Code := cr n7_18
noncomputable def n7_21 : Code := cl n7_20
noncomputable def n7_22 : Code := cl n7_21
noncomputable def q7_22 : List Oper := opsOf n7_22
noncomputable def n7_23 : Code := cr n7_21
noncomputable def n7_24 : Code := cl n7_23
noncomputable def n7_25 : Code := cl n7_24
noncomputable def n7_26 : Code := cl n7_25
noncomputable def n7_27 : Code := cl n7_26
noncomputable def q7_27 : List Oper := opsOf n7_27
noncomputable def n7_28 : Code := cr n7_26
noncomputable def n7_29 : Code := cl n7_28
noncomputable def n7_30 : Code := cr n7_28
noncomputable def n7_31 : Code := cr n7_25
noncomputable def n7_32 : Code := cl n7_31
noncomputable def n7_33 : Code := cl n7_32
noncomputable def n7_34 : Code := cl n7_33
noncomputable def q7_34 : List Oper := opsOf n7_34
noncomputable def n7_35 : Code := cr n7_33
noncomputable def n7_36 : Code := cl n7_35
noncomputable def q7_36 : List Oper := opsOf n7_36
noncomputable def n7_37 : Code := cr n7_35
noncomputable def n7_38 : Code := cl n7_37
noncomputable def n7_39 : Code := cl n7_38
noncomputable def q7_39 : List Oper := opsOf n7_39
noncomputable def n7_40 : Code := cr n7_38
noncomputable def n7_41 : Code := cl n7_40
noncomputable def n7_42 : Code := cl n7_41
noncomputable def q7_42 : List Oper := opsOf n7_42
noncomputable def n7_43 : Code := cr n7_41
noncomputable def n7_44 : Code := cr n7_40
noncomputable def n7_45 : Code := cr n7_37
noncomputable def n7_46 : Code := cl n7_45
noncomputable def q7_46 : List Oper := opsOf n7_46
noncomputable def n7_47 : Code := cr n7_45
noncomputable def n7_48 : Code := cl n7_47
noncomputable def q7_48 : List Oper := opsOf n7_48
noncomputable def n7_49 : Code := cr n7_47
noncomputable def n7_50 : Code := cr n7_31
noncomputable def q7_50 : List Oper := opsOf n7_50
noncomputable def n7_51 : Code := cr n7_20
noncomputable def n7_52 : Code := cl n7_51
noncomputable def q7_52 : List Oper := opsOf n7_52
noncomputable def n7_53 : Code := cr n7_51
theorem body7 : Try.f7.body = some n7_0 := by kernel_rfl
theorem run7 (E : Ev) (args : List Value) (h : List Blk) (hl : args.length ≤ 95) : runB Try.prog E 7 args h = endS Try.prog [.tmp 2] h.length (codeB Try.prog E ⟨7, 95, h.length, none⟩ n7_0 ⟨enumT 0 args, h, []⟩) := GE.run_step Try.func7 body7 (by kernel_rfl) (by decide) (by kernel_rfl) hl
theorem n7_1s : codeB Try.prog E ⟨f, 95, b, ro⟩ n7_1 st = plainS (runOps Try.prog E b q7_1 (ops [false] Try.f7) st) := GE.region_step (id := 0) (GE.reg_of (by kernel_rfl)) (by kernel_rfl)
theorem n7_3s : codeB Try.prog E ⟨f, 95, b, ro⟩ n7_3 st = plainS (runOps Try.prog E b q7_3 (ops [true, false] Try.f7) st) := GE.region_step (id := 1) (GE.reg_of (by kernel_rfl)) (by kernel_rfl)
theorem n7_5s : codeB Try.prog E ⟨f, 95, b, ro⟩ n7_5 st = plainS (runOps Try.prog E b q7_5 (ops [true, true, false] Try.f7) st) := GE.region_step (id := 2) (GE.reg_of (by kernel_rfl)) (by kernel_rfl)
theorem n7_7s : codeB Try.prog E ⟨f, 95, b, ro⟩ n7_7 st = plainS (runOps Try.prog E b q7_7 (ops [true, true, true, false] Try.f7) st) := GE.region_step (id := 3) (GE.reg_of (by kernel_rfl)) (by kernel_rfl)
theorem q7_10g2 : gd q7_10 2 = some 27 := by kernel_rfl
theorem q7_10g6 : gd q7_10 6 = some 31 := by kernel_rfl
theorem q7_10g13 : gd q7_10 13 = some 38 := by kernel_rfl
theorem n7_10s : codeB Try.prog E ⟨f, 95, b, ro⟩ n7_10 st = plainS (runOps Try.prog E b q7_10 (ops [true, true, true, true, false, false] Try.f7) st) := GE.region_step (id := 4) (GE.reg_of (by kernel_rfl)) (by kernel_rfl)
theorem n7_13s : codeB Try.prog E ⟨f, 95, b, ro⟩ n7_13 st = plainS (runOps Try.prog E b q7_13 (ops [true, true, true, true, false, true, false, false] Try.f7) st) := GE.region_step (id := 5) (GE.reg_of (by kernel_rfl)) (by kernel_rfl)
theorem n7_14s : codeB Try.prog LL ⟨7, 95, b, ro⟩ n7_14 st = normS b ⟨[2], []⟩ .ret st := GE.ret_step (by kernel_rfl) (by kernel_rfl)
theorem n7_12s : codeB Try.prog E cx n7_12 st = thenS (codeB Try.prog E cx n7_13 st) (codeB Try.prog E cx n7_14) := GE.seq_step (by kernel_rfl)
theorem n7_15s : codeB Try.prog E cx n7_15 st = some (.normal, st) := GE.skip_step (by kernel_rfl)
theorem n7_11s : codeB Try.prog E cx n7_11 st = condS (codeB Try.prog E cx n7_12) (codeB Try.prog E cx n7_15) (lk st.σ 43) st := GE.cond_step (c := .tmp 43) (by kernel_rfl)
theorem n7_9s : codeB Try.prog E cx n7_9 st = thenS (codeB Try.prog E cx n7_10 st) (codeB Try.prog E cx n7_11) := GE.seq_step (by kernel_rfl)
theorem n7_17s : codeB Try.prog E ⟨f, 95, b, ro⟩ n7_17 st = plainS (runOps Try.prog E b q7_17 (ops [true, true, true, true, true, false] Try.f7) st) := GE.region_step (id := 6) (GE.reg_of (by kernel_rfl)) (by kernel_rfl)
theorem n7_19s : codeB Try.prog E ⟨f, 95, b, ro⟩ n7_19 st = plainS (runOps Try.prog E b q7_19 (ops [true, true, true, true, true, true, false] Try.f7) st) := GE.region_step (id := 7) (GE.reg_of (by kernel_rfl)) (by kernel_rfl)
theorem n7_22s : codeB Try.prog E ⟨f, 95, b, ro⟩ n7_22 st = plainS (runOps Try.prog E b q7_22 (ops [true, true, true, true, true, true, true, false, false] Try.f7) st) := GE.region_step (id := 8) (GE.reg_of (by kernel_rfl)) (by kernel_rfl)
theorem n7_27s : codeB Try.prog E ⟨f, 95, b, ro⟩ n7_27 st = plainS (runOps Try.prog E b q7_27 (ops [true, true, true, true, true, true, true, false, true, false, false, false, false] Try.f7) st) := GE.region_step (id := 9) (GE.reg_of (by kernel_rfl)) (by kernel_rfl)
theorem n7_29s : codeB Try.prog E cx n7_29 st = some (.normal, st) := GE.skip_step (by kernel_rfl)
theorem n7_30s : codeB Try.prog LL ⟨7, 95, b, ro⟩ n7_30 st = normS b ⟨[4, 8, 9], [⟨4, 0, 1, true⟩, ⟨8, 0, 1, true⟩]⟩ (.exit 0) st := GE.exit_step (by kernel_rfl) (by kernel_rfl)
theorem n7_28s : codeB Try.prog E cx n7_28 st = condS (codeB Try.prog E cx n7_29) (codeB Try.prog E cx n7_30) (lk st.σ 45) st := GE.cond_step (c := .tmp 45) (by kernel_rfl)
theorem n7_26s : codeB Try.prog E cx n7_26 st = thenS (codeB Try.prog E cx n7_27 st) (codeB Try.prog E cx n7_28) := GE.seq_step (by kernel_rfl)
theorem n7_34s : codeB Try.prog E ⟨f, 95, b, ro⟩ n7_34 st = plainS (runOps Try.prog E b q7_34 (ops [true, true, true, true, true, true, true, false, true, false, false, true, false, false, false] Try.f7) st) := GE.region_step (id := 11) (GE.reg_of (by kernel_rfl)) (by kernel_rfl)
theorem n7_36s : codeB Try.prog E ⟨f, 95, b, ro⟩ n7_36 st = plainS (runOps Try.prog E b q7_36 (ops [true, true, true, true, true, true, true, false, true, false, false, true, false, false, true, false] Try.f7) st) := GE.region_step (id := 12) (GE.reg_of (by kernel_rfl)) (by kernel_rfl)
theorem n7_39s : codeB Try.prog E ⟨f, 95, b, ro⟩ n7_39 st = plainS (runOps Try.prog E b q7_39 (ops [true, true, true, true, true, true, true, false, true, false, false, true, false, false, true, true, false, false] Try.f7) st) := GE.region_step (id := 13) (GE.reg_of (by kernel_rfl)) (by kernel_rfl)
theorem n7_42s : codeB Try.prog E ⟨f, 95, b, ro⟩ n7_42 st = plainS (runOps Try.prog E b q7_42 (ops [true, true, true, true, true, true, true, false, true, false, false, true, false, false, true, true, false, true, false, false] Try.f7) st) := GE.region_step (id := 14) (GE.reg_of (by kernel_rfl)) (by kernel_rfl)
theorem n7_43s : codeB Try.prog LL ⟨7, 95, b, ro⟩ n7_43 st = normS b ⟨[2], []⟩ .ret st := GE.ret_step (by kernel_rfl) (by kernel_rfl)
theorem n7_41s : codeB Try.prog E cx n7_41 st = thenS (codeB Try.prog E cx n7_42 st) (codeB Try.prog E cx n7_43) := GE.seq_step (by kernel_rfl)
theorem n7_44s : codeB Try.prog E cx n7_44 st = some (.normal, st) := GE.skip_step (by kernel_rfl)
theorem n7_40s : codeB Try.prog E cx n7_40 st = condS (codeB Try.prog E cx n7_41) (codeB Try.prog E cx n7_44) (lk st.σ 60) st := GE.cond_step (c := .tmp 60) (by kernel_rfl)
theorem n7_38s : codeB Try.prog E cx n7_38 st = thenS (codeB Try.prog E cx n7_39 st) (codeB Try.prog E cx n7_40) := GE.seq_step (by kernel_rfl)
theorem q7_46g1 : gd q7_46 1 = some 62 := by kernel_rfl
theorem q7_46g4 : gd q7_46 4 = some 65 := by kernel_rfl
theorem q7_46g11 : gd q7_46 11 = some 72 := by kernel_rfl
theorem q7_46g17 : gd q7_46 17 = some 78 := by kernel_rfl
theorem n7_46s : codeB Try.prog E ⟨f, 95, b, ro⟩ n7_46 st = plainS (runOps Try.prog E b q7_46 (ops [true, true, true, true, true, true, true, false, true, false, false, true, false, false, true, true, true, false] Try.f7) st) := GE.region_step (id := 15) (GE.reg_of (by kernel_rfl)) (by kernel_rfl)
theorem n7_48s : codeB Try.prog E ⟨f, 95, b, ro⟩ n7_48 st = plainS (runOps Try.prog E b q7_48 (ops [true, true, true, true, true, true, true, false, true, false, false, true, false, false, true, true, true, true, false] Try.f7) st) := GE.region_step (id := 16) (GE.reg_of (by kernel_rfl)) (by kernel_rfl)
theorem n7_49s : codeB Try.prog E cx n7_49 st = some (.normal, st) := GE.skip_step (by kernel_rfl)
theorem n7_47s : codeB Try.prog E cx n7_47 st = condS (codeB Try.prog E cx n7_48) (codeB Try.prog E cx n7_49) (lk st.σ 84) st := GE.cond_step (c := .tmp 84) (by kernel_rfl)
theorem n7_45s : codeB Try.prog E cx n7_45 st = thenS (codeB Try.prog E cx n7_46 st) (codeB Try.prog E cx n7_47) := GE.seq_step (by kernel_rfl)
theorem n7_37s : codeB Try.prog E cx n7_37 st = thenS (codeB Try.prog E cx n7_38 st) (codeB Try.prog E cx n7_45) := GE.seq_step (by kernel_rfl)
theorem n7_35s : codeB Try.prog E cx n7_35 st = thenS (codeB Try.prog E cx n7_36 st) (codeB Try.prog E cx n7_37) := GE.seq_step (by kernel_rfl)
theorem n7_33s : codeB Try.prog E cx n7_33 st = thenS (codeB Try.prog E cx n7_34 st) (codeB Try.prog E cx n7_35) := GE.seq_step (by kernel_rfl)
theorem n7_32s : codeB Try.prog E cx n7_32 st = blockS 1 (codeB Try.prog E cx n7_33 st) st := GE.block_step (by kernel_rfl)
theorem n7_50s : codeB Try.prog E ⟨f, 95, b, ro⟩ n7_50 st = plainS (runOps Try.prog E b q7_50 (ops [true, true, true, true, true, true, true, false, true, false, false, true, true] Try.f7) st) := GE.region_step (id := 10) (GE.reg_of (by kernel_rfl)) (by kernel_rfl)
theorem n7_31s : codeB Try.prog E cx n7_31 st = thenS (codeB Try.prog E cx n7_32 st) (codeB Try.prog E cx n7_50) := GE.seq_step (by kernel_rfl)
theorem n7_25s : codeB Try.prog E cx n7_25 st = thenS (codeB Try.prog E cx n7_26 st) (codeB Try.prog E cx n7_31) := GE.seq_step (by kernel_rfl)
theorem n7_24k : LL.kp (⟨7, 95, b, ro⟩ : Cx).fn (4 * rid n7_25 + 3) = some ⟨[3, 4, 8, 9, 10], [⟨3, 2, 3, true⟩, ⟨4, 0, 1, true⟩, ⟨8, 0, 1, true⟩]⟩ := by kernel_rfl
theorem n7_24s : codeB Try.prog LL ⟨7, 95, b, ro⟩ n7_24 st = headS b ⟨[3, 4, 8, 9, 10], [⟨3, 2, 3, true⟩, ⟨4, 0, 1, true⟩, ⟨8, 0, 1, true⟩]⟩ st (lpB Try.prog LL ⟨7, 95, b, ro⟩ n7_24 n7_25) := GE.lpB_step (by kernel_rfl) (n7_24k b ro)
theorem n7_24g : LL.code ⟨7, 95, b, ro⟩ n7_24 st = headS b ⟨[3, 4, 8, 9, 10], [⟨3, 2, 3, true⟩, ⟨4, 0, 1, true⟩, ⟨8, 0, 1, true⟩]⟩ st (lpB Try.prog LL ⟨7, 95, b, ro⟩ n7_24 n7_25) := GE.lpB_again (by kernel_rfl) (n7_24k b ro)
theorem n7_23s : codeB Try.prog E cx n7_23 st = blockS 0 (codeB Try.prog E cx n7_24 st) st := GE.block_step (by kernel_rfl)
theorem n7_21s : codeB Try.prog E cx n7_21 st = thenS (codeB Try.prog E cx n7_22 st) (codeB Try.prog E cx n7_23) := GE.seq_step (by kernel_rfl)
theorem q7_52g1 : gd q7_52 1 = some 87 := by kernel_rfl
theorem q7_52g6 : gd q7_52 6 = some 92 := by kernel_rfl
theorem n7_52s : codeB Try.prog E ⟨f, 95, b, ro⟩ n7_52 st = plainS (runOps Try.prog E b q7_52 (ops [true, true, true, true, true, true, true, true, false] Try.f7) st) := GE.region_step (id := 17) (GE.reg_of (by kernel_rfl)) (by kernel_rfl)
theorem n7_53s : codeB Try.prog LL ⟨7, 95, b, ro⟩ n7_53 st = normS b ⟨[2], []⟩ .ret st := GE.ret_step (by kernel_rfl) (by kernel_rfl)
theorem n7_51s : codeB Try.prog E cx n7_51 st = thenS (codeB Try.prog E cx n7_52 st) (codeB Try.prog E cx n7_53) := GE.seq_step (by kernel_rfl)
theorem n7_20s : codeB Try.prog E cx n7_20 st = thenS (codeB Try.prog E cx n7_21 st) (codeB Try.prog E cx n7_51) := GE.seq_step (by kernel_rfl)
theorem n7_18s : codeB Try.prog E cx n7_18 st = thenS (codeB Try.prog E cx n7_19 st) (codeB Try.prog E cx n7_20) := GE.seq_step (by kernel_rfl)
theorem n7_16s : codeB Try.prog E cx n7_16 st = thenS (codeB Try.prog E cx n7_17 st) (codeB Try.prog E cx n7_18) := GE.seq_step (by kernel_rfl)
theorem n7_8s : codeB Try.prog E cx n7_8 st = thenS (codeB Try.prog E cx n7_9 st) (codeB Try.prog E cx n7_16) := GE.seq_step (by kernel_rfl)
theorem n7_6s : codeB Try.prog E cx n7_6 st = thenS (codeB Try.prog E cx n7_7 st) (codeB Try.prog E cx n7_8) := GE.seq_step (by kernel_rfl)
theorem n7_4s : codeB Try.prog E cx n7_4 st = thenS (codeB Try.prog E cx n7_5 st) (codeB Try.prog E cx n7_6) := GE.seq_step (by kernel_rfl)
theorem n7_2s : codeB Try.prog E cx n7_2 st = thenS (codeB Try.prog E cx n7_3 st) (codeB Try.prog E cx n7_4) := GE.seq_step (by kernel_rfl)
theorem n7_0s : codeB Try.prog E cx n7_0 st = thenS (codeB Try.prog E cx n7_1 st) (codeB Try.prog E cx n7_2) := GE.seq_step (by kernel_rfl)
noncomputable def n17_0 : Code := bodyOf Try.f17
noncomputable def n17_1 : Code := cl n17_0
noncomputable def q17_1 : List Oper := opsOf n17_1
noncomputable def n17_2 : Code := cr n17_0
noncomputable def n17_3 : Code := cl n17_2
noncomputable def n17_4 : Code := cl n17_3
noncomputable def q17_4 : List Oper := opsOf n17_4
noncomputable def n17_5 : Code := cr n17_3
noncomputable def n17_6 : Code := cl n17_5
noncomputable def q17_6 : List Oper := opsOf n17_6
noncomputable def n17_7 : Code := cr n17_5
noncomputable def n17_8 : Code := cl n17_7
noncomputable def n17_9 : Code := cl n17_8
noncomputable def q17_9 : List Oper := opsOf n17_9
noncomputable def n17_10 : Code := cr n17_8
noncomputable def n17_11 : Code := cr n17_7
noncomputable def n17_12 : Code := cr n17_2
noncomputable def n17_13 : Code := cl n17_12
noncomputable def q17_13 : List Oper := opsOf n17_13
noncomputable def n17_14 : Code := cr n17_12
theorem body17 : Try.f17.body = some n17_0 := by kernel_rfl
theorem run17 (E : Ev) (args : List Value) (h : List Blk) (hl : args.length ≤ 14) : runB Try.prog E 17 args h = endS Try.prog [.tmp 2, .tmp 3] h.length (codeB Try.prog E ⟨17, 14, h.length, none⟩ n17_0 ⟨enumT 0 args, h, []⟩) := GE.run_step Try.func17 body17 (by kernel_rfl) (by decide) (by kernel_rfl) hl
theorem n17_1s : codeB Try.prog E ⟨f, 14, b, ro⟩ n17_1 st = plainS (runOps Try.prog E b q17_1 (ops [false] Try.f17) st) := GE.region_step (id := 0) (GE.reg_of (by kernel_rfl)) (by kernel_rfl)
theorem n17_4s : codeB Try.prog E ⟨f, 14, b, ro⟩ n17_4 st = plainS (runOps Try.prog E b q17_4 (ops [true, false, false] Try.f17) st) := GE.region_step (id := 1) (GE.reg_of (by kernel_rfl)) (by kernel_rfl)
theorem n17_6s : codeB Try.prog E ⟨f, 14, b, ro⟩ n17_6 st = plainS (runOps Try.prog E b q17_6 (ops [true, false, true, false] Try.f17) st) := GE.region_step (id := 2) (GE.reg_of (by kernel_rfl)) (by kernel_rfl)
theorem n17_9s : codeB Try.prog E ⟨f, 14, b, ro⟩ n17_9 st = plainS (runOps Try.prog E b q17_9 (ops [true, false, true, true, false, false] Try.f17) st) := GE.region_step (id := 3) (GE.reg_of (by kernel_rfl)) (by kernel_rfl)
theorem n17_10s : codeB Try.prog LL ⟨17, 14, b, ro⟩ n17_10 st = normS b ⟨[2, 3], [⟨2, 0, 1, true⟩]⟩ .ret st := GE.ret_step (by kernel_rfl) (by kernel_rfl)
theorem n17_8s : codeB Try.prog E cx n17_8 st = thenS (codeB Try.prog E cx n17_9 st) (codeB Try.prog E cx n17_10) := GE.seq_step (by kernel_rfl)
theorem n17_11s : codeB Try.prog E cx n17_11 st = some (.normal, st) := GE.skip_step (by kernel_rfl)
theorem n17_7s : codeB Try.prog E cx n17_7 st = condS (codeB Try.prog E cx n17_8) (codeB Try.prog E cx n17_11) (lk st.σ 8) st := GE.cond_step (c := .tmp 8) (by kernel_rfl)
theorem n17_5s : codeB Try.prog E cx n17_5 st = thenS (codeB Try.prog E cx n17_6 st) (codeB Try.prog E cx n17_7) := GE.seq_step (by kernel_rfl)
theorem n17_3s : codeB Try.prog E cx n17_3 st = thenS (codeB Try.prog E cx n17_4 st) (codeB Try.prog E cx n17_5) := GE.seq_step (by kernel_rfl)
theorem n17_13s : codeB Try.prog E ⟨f, 14, b, ro⟩ n17_13 st = plainS (runOps Try.prog E b q17_13 (ops [true, true, false] Try.f17) st) := GE.region_step (id := 4) (GE.reg_of (by kernel_rfl)) (by kernel_rfl)
theorem n17_14s : codeB Try.prog LL ⟨17, 14, b, ro⟩ n17_14 st = normS b ⟨[2, 3], [⟨2, 0, 1, true⟩]⟩ .ret st := GE.ret_step (by kernel_rfl) (by kernel_rfl)
theorem n17_12s : codeB Try.prog E cx n17_12 st = thenS (codeB Try.prog E cx n17_13 st) (codeB Try.prog E cx n17_14) := GE.seq_step (by kernel_rfl)
theorem n17_2s : codeB Try.prog E cx n17_2 st = thenS (codeB Try.prog E cx n17_3 st) (codeB Try.prog E cx n17_12) := GE.seq_step (by kernel_rfl)
theorem n17_0s : codeB Try.prog E cx n17_0 st = thenS (codeB Try.prog E cx n17_1 st) (codeB Try.prog E cx n17_2) := GE.seq_step (by kernel_rfl)
noncomputable def n19_0 : Code := bodyOf Try.f19
noncomputable def n19_1 : Code := cl n19_0
noncomputable def q19_1 : List Oper := opsOf n19_1
noncomputable def n19_2 : Code := cr n19_0
noncomputable def n19_3 : Code := cl n19_2
noncomputable def n19_4 : Code := cl n19_3
noncomputable def q19_4 : List Oper := opsOf n19_4
noncomputable def n19_5 : Code := cr n19_3
noncomputable def n19_6 : Code := cl n19_5
noncomputable def n19_7 : Code := cl n19_6
noncomputable def q19_7 : List Oper := opsOf n19_7
noncomputable def n19_8 : Code := cr n19_6
noncomputable def n19_9 : Code := cr n19_5
noncomputable def n19_10 : Code := cr n19_2
noncomputable def n19_11 : Code := cl n19_10
noncomputable def n19_12 : Code := cl n19_11
noncomputable def q19_12 : List Oper := opsOf n19_12
noncomputable def n19_13 : Code := cr n19_11
noncomputable def n19_14 : Code := cl n19_13
noncomputable def n19_15 : Code := cl n19_14
noncomputable def n19_16 : Code := cl n19_15
noncomputable def n19_17 : Code := cl n19_16
noncomputable def q19_17 : List Oper := opsOf n19_17
noncomputable def n19_18 : Code := cr n19_16
noncomputable def n19_19 : Code := cl n19_18
noncomputable def n19_20 : Code := cr n19_18
noncomputable def n19_21 : Code := cr n19_15
noncomputable def n19_22 : Code := cl n19_21
noncomputable def n19_23 : Code := cl n19_22
noncomputable def n19_24 : Code := cl n19_23
noncomputable def q19_24 : List Oper := opsOf n19_24
noncomputable def n19_25 : Code := cr n19_23
noncomputable def n19_26 : Code := cl n19_25
noncomputable def n19_27 : Code := cl n19_26
noncomputable def q19_27 : List Oper := opsOf n19_27
noncomputable def n19_28 : Code := cr n19_26
noncomputable def n19_29 : Code := cr n19_25
noncomputable def n19_30 : Code := cr n19_21
noncomputable def q19_30 : List Oper := opsOf n19_30
noncomputable def n19_31 : Code := cr n19_10
noncomputable def n19_32 : Code := cl n19_31
noncomputable def q19_32 : List Oper := opsOf n19_32
noncomputable def n19_33 : Code := cr n19_31
theorem body19 : Try.f19.body = some n19_0 := by kernel_rfl
theorem run19 (E : Ev) (args : List Value) (h : List Blk) (hl : args.length ≤ 26) : runB Try.prog E 19 args h = endS Try.prog [.tmp 4] h.length (codeB Try.prog E ⟨19, 26, h.length, none⟩ n19_0 ⟨enumT 0 args, h, []⟩) := GE.run_step Try.func19 body19 (by kernel_rfl) (by decide) (by kernel_rfl) hl
theorem n19_1s : codeB Try.prog E ⟨f, 26, b, ro⟩ n19_1 st = plainS (runOps Try.prog E b q19_1 (ops [false] Try.f19) st) := GE.region_step (id := 0) (GE.reg_of (by kernel_rfl)) (by kernel_rfl)
theorem n19_4s : codeB Try.prog E ⟨f, 26, b, ro⟩ n19_4 st = plainS (runOps Try.prog E b q19_4 (ops [true, false, false] Try.f19) st) := GE.region_step (id := 1) (GE.reg_of (by kernel_rfl)) (by kernel_rfl)
theorem n19_7s : codeB Try.prog E ⟨f, 26, b, ro⟩ n19_7 st = plainS (runOps Try.prog E b q19_7 (ops [true, false, true, false, false] Try.f19) st) := GE.region_step (id := 2) (GE.reg_of (by kernel_rfl)) (by kernel_rfl)
theorem n19_8s : codeB Try.prog LL ⟨19, 26, b, ro⟩ n19_8 st = normS b ⟨[4], []⟩ .ret st := GE.ret_step (by kernel_rfl) (by kernel_rfl)
theorem n19_6s : codeB Try.prog E cx n19_6 st = thenS (codeB Try.prog E cx n19_7 st) (codeB Try.prog E cx n19_8) := GE.seq_step (by kernel_rfl)
theorem n19_9s : codeB Try.prog E cx n19_9 st = some (.normal, st) := GE.skip_step (by kernel_rfl)
theorem n19_5s : codeB Try.prog E cx n19_5 st = condS (codeB Try.prog E cx n19_6) (codeB Try.prog E cx n19_9) (lk st.σ 10) st := GE.cond_step (c := .tmp 10) (by kernel_rfl)
theorem n19_3s : codeB Try.prog E cx n19_3 st = thenS (codeB Try.prog E cx n19_4 st) (codeB Try.prog E cx n19_5) := GE.seq_step (by kernel_rfl)
theorem n19_12s : codeB Try.prog E ⟨f, 26, b, ro⟩ n19_12 st = plainS (runOps Try.prog E b q19_12 (ops [true, true, false, false] Try.f19) st) := GE.region_step (id := 3) (GE.reg_of (by kernel_rfl)) (by kernel_rfl)
theorem n19_17s : codeB Try.prog E ⟨f, 26, b, ro⟩ n19_17 st = plainS (runOps Try.prog E b q19_17 (ops [true, true, false, true, false, false, false, false] Try.f19) st) := GE.region_step (id := 4) (GE.reg_of (by kernel_rfl)) (by kernel_rfl)
theorem n19_19s : codeB Try.prog E cx n19_19 st = some (.normal, st) := GE.skip_step (by kernel_rfl)
theorem n19_20s : codeB Try.prog LL ⟨19, 26, b, ro⟩ n19_20 st = normS b ⟨[], []⟩ (.exit 0) st := GE.exit_step (by kernel_rfl) (by kernel_rfl)
theorem n19_18s : codeB Try.prog E cx n19_18 st = condS (codeB Try.prog E cx n19_19) (codeB Try.prog E cx n19_20) (lk st.σ 14) st := GE.cond_step (c := .tmp 14) (by kernel_rfl)
theorem n19_16s : codeB Try.prog E cx n19_16 st = thenS (codeB Try.prog E cx n19_17 st) (codeB Try.prog E cx n19_18) := GE.seq_step (by kernel_rfl)
theorem n19_24s : codeB Try.prog E ⟨f, 26, b, ro⟩ n19_24 st = drawS [0, 0, 3, 7, 0, 0, 48, 112, 255] (runOpsF Try.prog E b q19_24 (ops [true, true, false, true, false, false, true, false, false, false] Try.f19) st) := GE.draw_step (id := 6) (GE.reg_of (by kernel_rfl)) (by kernel_rfl) (by kernel_rfl) (by kernel_rfl)
theorem n19_27s : codeB Try.prog E ⟨f, 26, b, ro⟩ n19_27 st = plainS (runOps Try.prog E b q19_27 (ops [true, true, false, true, false, false, true, false, false, true, false, false] Try.f19) st) := GE.region_step (id := 7) (GE.reg_of (by kernel_rfl)) (by kernel_rfl)
theorem n19_28s : codeB Try.prog LL ⟨19, 26, b, ro⟩ n19_28 st = normS b ⟨[4], []⟩ .ret st := GE.ret_step (by kernel_rfl) (by kernel_rfl)
theorem n19_26s : codeB Try.prog E cx n19_26 st = thenS (codeB Try.prog E cx n19_27 st) (codeB Try.prog E cx n19_28) := GE.seq_step (by kernel_rfl)
theorem n19_29s : codeB Try.prog E cx n19_29 st = some (.normal, st) := GE.skip_step (by kernel_rfl)
theorem n19_25s : codeB Try.prog E cx n19_25 st = condS (codeB Try.prog E cx n19_26) (codeB Try.prog E cx n19_29) (lk st.σ 25) st := GE.cond_step (c := .tmp 25) (by kernel_rfl)
theorem n19_23s : codeB Try.prog E cx n19_23 st = thenS (codeB Try.prog E cx n19_24 st) (codeB Try.prog E cx n19_25) := GE.seq_step (by kernel_rfl)
theorem n19_22s : codeB Try.prog E cx n19_22 st = blockS 1 (codeB Try.prog E cx n19_23 st) st := GE.block_step (by kernel_rfl)
theorem n19_30s : codeB Try.prog E ⟨f, 26, b, ro⟩ n19_30 st = plainS (runOps Try.prog E b q19_30 (ops [true, true, false, true, false, false, true, true] Try.f19) st) := GE.region_step (id := 5) (GE.reg_of (by kernel_rfl)) (by kernel_rfl)
theorem n19_21s : codeB Try.prog E cx n19_21 st = thenS (codeB Try.prog E cx n19_22 st) (codeB Try.prog E cx n19_30) := GE.seq_step (by kernel_rfl)
theorem n19_15s : codeB Try.prog E cx n19_15 st = thenS (codeB Try.prog E cx n19_16 st) (codeB Try.prog E cx n19_21) := GE.seq_step (by kernel_rfl)
theorem n19_14k : LL.kp (⟨19, 26, b, ro⟩ : Cx).fn (4 * rid n19_15 + 3) = some ⟨[0, 1, 5], [⟨0, 0, 1, true⟩, ⟨1, 0, 1, true⟩]⟩ := by kernel_rfl
theorem n19_14s : codeB Try.prog LL ⟨19, 26, b, ro⟩ n19_14 st = headS b ⟨[0, 1, 5], [⟨0, 0, 1, true⟩, ⟨1, 0, 1, true⟩]⟩ st (lpB Try.prog LL ⟨19, 26, b, ro⟩ n19_14 n19_15) := GE.lpB_step (by kernel_rfl) (n19_14k b ro)
theorem n19_14g : LL.code ⟨19, 26, b, ro⟩ n19_14 st = headS b ⟨[0, 1, 5], [⟨0, 0, 1, true⟩, ⟨1, 0, 1, true⟩]⟩ st (lpB Try.prog LL ⟨19, 26, b, ro⟩ n19_14 n19_15) := GE.lpB_again (by kernel_rfl) (n19_14k b ro)
theorem n19_13s : codeB Try.prog E cx n19_13 st = blockS 0 (codeB Try.prog E cx n19_14 st) st := GE.block_step (by kernel_rfl)
theorem n19_11s : codeB Try.prog E cx n19_11 st = thenS (codeB Try.prog E cx n19_12 st) (codeB Try.prog E cx n19_13) := GE.seq_step (by kernel_rfl)
theorem n19_32s : codeB Try.prog E ⟨f, 26, b, ro⟩ n19_32 st = plainS (runOps Try.prog E b q19_32 (ops [true, true, true, false] Try.f19) st) := GE.region_step (id := 8) (GE.reg_of (by kernel_rfl)) (by kernel_rfl)
theorem n19_33s : codeB Try.prog LL ⟨19, 26, b, ro⟩ n19_33 st = normS b ⟨[4], []⟩ .ret st := GE.ret_step (by kernel_rfl) (by kernel_rfl)
theorem n19_31s : codeB Try.prog E cx n19_31 st = thenS (codeB Try.prog E cx n19_32 st) (codeB Try.prog E cx n19_33) := GE.seq_step (by kernel_rfl)
theorem n19_10s : codeB Try.prog E cx n19_10 st = thenS (codeB Try.prog E cx n19_11 st) (codeB Try.prog E cx n19_31) := GE.seq_step (by kernel_rfl)
theorem n19_2s : codeB Try.prog E cx n19_2 st = thenS (codeB Try.prog E cx n19_3 st) (codeB Try.prog E cx n19_10) := GE.seq_step (by kernel_rfl)
theorem n19_0s : codeB Try.prog E cx n19_0 st = thenS (codeB Try.prog E cx n19_1 st) (codeB Try.prog E cx n19_2) := GE.seq_step (by kernel_rfl)
noncomputable def n20_0 : Code := bodyOf Try.f20
noncomputable def n20_1 : Code := cl n20_0
noncomputable def q20_1 : List Oper := opsOf n20_1
noncomputable def n20_2 : Code := cr n20_0
noncomputable def n20_3 : Code := cl n20_2
noncomputable def q20_3 : List Oper := opsOf n20_3
noncomputable def n20_4 : Code := cr n20_2
noncomputable def n20_5 : Code := cl n20_4
noncomputable def q20_5 : List Oper := opsOf n20_5
noncomputable def n20_6 : Code := cr n20_4
theorem body20 : Try.f20.body = some n20_0 := by kernel_rfl
theorem run20 (E : Ev) (args : List Value) (h : List Blk) (hl : args.length ≤ 14) : runB Try.prog E 20 args h = endS Try.prog [.tmp 4] h.length (codeB Try.prog E ⟨20, 14, h.length, none⟩ n20_0 ⟨enumT 0 args, h, []⟩) := GE.run_step Try.func20 body20 (by kernel_rfl) (by decide) (by kernel_rfl) hl
theorem n20_1s : codeB Try.prog E ⟨f, 14, b, ro⟩ n20_1 st = plainS (runOps Try.prog E b q20_1 (ops [false] Try.f20) st) := GE.region_step (id := 0) (GE.reg_of (by kernel_rfl)) (by kernel_rfl)
theorem n20_3s : codeB Try.prog E ⟨f, 14, b, ro⟩ n20_3 st = plainS (runOps Try.prog E b q20_3 (ops [true, false] Try.f20) st) := GE.region_step (id := 1) (GE.reg_of (by kernel_rfl)) (by kernel_rfl)
theorem n20_5s : codeB Try.prog E ⟨f, 14, b, ro⟩ n20_5 st = plainS (runOps Try.prog E b q20_5 (ops [true, true, false] Try.f20) st) := GE.region_step (id := 2) (GE.reg_of (by kernel_rfl)) (by kernel_rfl)
theorem n20_6s : codeB Try.prog LL ⟨20, 14, b, ro⟩ n20_6 st = normS b ⟨[4], []⟩ .ret st := GE.ret_step (by kernel_rfl) (by kernel_rfl)
theorem n20_4s : codeB Try.prog E cx n20_4 st = thenS (codeB Try.prog E cx n20_5 st) (codeB Try.prog E cx n20_6) := GE.seq_step (by kernel_rfl)
theorem n20_2s : codeB Try.prog E cx n20_2 st = thenS (codeB Try.prog E cx n20_3 st) (codeB Try.prog E cx n20_4) := GE.seq_step (by kernel_rfl)
theorem n20_0s : codeB Try.prog E cx n20_0 st = thenS (codeB Try.prog E cx n20_1 st) (codeB Try.prog E cx n20_2) := GE.seq_step (by kernel_rfl)
noncomputable def n22_0 : Code := bodyOf Try.f22
noncomputable def n22_1 : Code := cl n22_0
noncomputable def q22_1 : List Oper := opsOf n22_1
noncomputable def n22_2 : Code := cr n22_0
noncomputable def n22_3 : Code := cl n22_2
noncomputable def n22_4 : Code := cl n22_3
noncomputable def n22_5 : Code := cl n22_4
noncomputable def q22_5 : List Oper := opsOf n22_5
noncomputable def n22_6 : Code := cr n22_4
noncomputable def n22_7 : Code := cl n22_6
noncomputable def n22_8 : Code := cl n22_7
noncomputable def q22_8 : List Oper := opsOf n22_8
noncomputable def n22_9 : Code := cr n22_7
noncomputable def n22_10 : Code := cr n22_6
noncomputable def n22_11 : Code := cl n22_10
noncomputable def q22_11 : List Oper := opsOf n22_11
noncomputable def n22_12 : Code := cr n22_10
noncomputable def n22_13 : Code := cl n22_12
noncomputable def n22_14 : Code := cl n22_13
noncomputable def q22_14 : List Oper := opsOf n22_14
noncomputable def n22_15 : Code := cr n22_13
noncomputable def n22_16 : Code := cr n22_12
noncomputable def n22_17 : Code := cl n22_16
noncomputable def q22_17 : List Oper := opsOf n22_17
noncomputable def n22_18 : Code := cr n22_16
noncomputable def n22_19 : Code := cl n22_18
noncomputable def n22_20 : Code := cl n22_19
noncomputable def q22_20 : List Oper := opsOf n22_20
noncomputable def n22_21 : Code := cr n22_19
noncomputable def n22_22 : Code := cr n22_18
noncomputable def n22_23 : Code := cr n22_2
noncomputable def n22_24 : Code := cl n22_23
noncomputable def q22_24 : List Oper := opsOf n22_24
noncomputable def n22_25 : Code := cr n22_23
noncomputable def n22_26 : Code := cl n22_25
noncomputable def n22_27 : Code := cl n22_26
noncomputable def q22_27 : List Oper := opsOf n22_27
noncomputable def n22_28 : Code := cr n22_26
noncomputable def n22_29 : Code := cl n22_28
noncomputable def n22_30 : Code := cl n22_29
noncomputable def n22_31 : Code := cl n22_30
noncomputable def q22_31 : List Oper := opsOf n22_31
noncomputable def n22_32 : Code := cr n22_30
noncomputable def n22_33 : Code := cl n22_32
noncomputable def n22_34 : Code := cl n22_33
noncomputable def n22_35 : Code := cr n22_33
noncomputable def n22_36 : Code := cr n22_32
noncomputable def n22_37 : Code := cl n22_36
noncomputable def n22_38 : Code := cl n22_37
noncomputable def n22_39 : Code := cl n22_38
noncomputable def q22_39 : List Oper := opsOf n22_39
noncomputable def n22_40 : Code := cr n22_38
noncomputable def n22_41 : Code := cl n22_40
noncomputable def n22_42 : Code := cl n22_41
noncomputable def n22_43 : Code := cl n22_42
noncomputable def q22_43 : List Oper := opsOf n22_43
noncomputable def n22_44 : Code := cr n22_42
noncomputable def n22_45 : Code := cl n22_44
noncomputable def n22_46 : Code := cl n22_45
noncomputable def q22_46 : List Oper := opsOf n22_46
noncomputable def n22_47 : Code := cr n22_45
noncomputable def n22_48 : Code := cr n22_44
noncomputable def n22_49 : Code := cl n22_48
noncomputable def q22_49 : List Oper := opsOf n22_49
noncomputable def n22_50 : Code := cr n22_48
noncomputable def n22_51 : Code := cl n22_50
noncomputable def n22_52 : Code := cl n22_51
noncomputable def q22_52 : List Oper := opsOf n22_52
noncomputable def n22_53 : Code := cr n22_51
noncomputable def n22_54 : Code := cr n22_50
noncomputable def n22_55 : Code := cr n22_40
noncomputable def q22_55 : List Oper := opsOf n22_55
noncomputable def n22_56 : Code := cr n22_36
noncomputable def q22_56 : List Oper := opsOf n22_56
noncomputable def n22_57 : Code := cr n22_25
noncomputable def n22_58 : Code := cl n22_57
noncomputable def q22_58 : List Oper := opsOf n22_58
noncomputable def n22_59 : Code := cr n22_57
theorem body22 : Try.f22.body = some n22_0 := by kernel_rfl
theorem run22 (E : Ev) (args : List Value) (h : List Blk) (hl : args.length ≤ 46) : runB Try.prog E 22 args h = endS Try.prog [.tmp 2] h.length (codeB Try.prog E ⟨22, 46, h.length, none⟩ n22_0 ⟨enumT 0 args, h, []⟩) := GE.run_step Try.func22 body22 (by kernel_rfl) (by decide) (by kernel_rfl) hl
theorem n22_1s : codeB Try.prog E ⟨f, 46, b, ro⟩ n22_1 st = plainS (runOps Try.prog E b q22_1 (ops [false] Try.f22) st) := GE.region_step (id := 0) (GE.reg_of (by kernel_rfl)) (by kernel_rfl)
theorem q22_5g4 : gd q22_5 4 = some 11 := by kernel_rfl
theorem n22_5s : codeB Try.prog E ⟨f, 46, b, ro⟩ n22_5 st = plainS (runOps Try.prog E b q22_5 (ops [true, false, false, false] Try.f22) st) := GE.region_step (id := 1) (GE.reg_of (by kernel_rfl)) (by kernel_rfl)
theorem n22_8s : codeB Try.prog E ⟨f, 46, b, ro⟩ n22_8 st = plainS (runOps Try.prog E b q22_8 (ops [true, false, false, true, false, false] Try.f22) st) := GE.region_step (id := 2) (GE.reg_of (by kernel_rfl)) (by kernel_rfl)
theorem n22_9s : codeB Try.prog LL ⟨22, 46, b, ro⟩ n22_9 st = normS b ⟨[2], []⟩ .ret st := GE.ret_step (by kernel_rfl) (by kernel_rfl)
theorem n22_7s : codeB Try.prog E cx n22_7 st = thenS (codeB Try.prog E cx n22_8 st) (codeB Try.prog E cx n22_9) := GE.seq_step (by kernel_rfl)
theorem n22_11s : codeB Try.prog E ⟨f, 46, b, ro⟩ n22_11 st = plainS (runOps Try.prog E b q22_11 (ops [true, false, false, true, true, false] Try.f22) st) := GE.region_step (id := 3) (GE.reg_of (by kernel_rfl)) (by kernel_rfl)
theorem n22_14s : codeB Try.prog E ⟨f, 46, b, ro⟩ n22_14 st = plainS (runOps Try.prog E b q22_14 (ops [true, false, false, true, true, true, false, false] Try.f22) st) := GE.region_step (id := 4) (GE.reg_of (by kernel_rfl)) (by kernel_rfl)
theorem n22_15s : codeB Try.prog LL ⟨22, 46, b, ro⟩ n22_15 st = normS b ⟨[2], []⟩ .ret st := GE.ret_step (by kernel_rfl) (by kernel_rfl)
theorem n22_13s : codeB Try.prog E cx n22_13 st = thenS (codeB Try.prog E cx n22_14 st) (codeB Try.prog E cx n22_15) := GE.seq_step (by kernel_rfl)
theorem n22_17s : codeB Try.prog E ⟨f, 46, b, ro⟩ n22_17 st = plainS (runOps Try.prog E b q22_17 (ops [true, false, false, true, true, true, true, false] Try.f22) st) := GE.region_step (id := 5) (GE.reg_of (by kernel_rfl)) (by kernel_rfl)
theorem n22_20s : codeB Try.prog E ⟨f, 46, b, ro⟩ n22_20 st = plainS (runOps Try.prog E b q22_20 (ops [true, false, false, true, true, true, true, true, false, false] Try.f22) st) := GE.region_step (id := 6) (GE.reg_of (by kernel_rfl)) (by kernel_rfl)
theorem n22_21s : codeB Try.prog LL ⟨22, 46, b, ro⟩ n22_21 st = normS b ⟨[2], []⟩ .ret st := GE.ret_step (by kernel_rfl) (by kernel_rfl)
theorem n22_19s : codeB Try.prog E cx n22_19 st = thenS (codeB Try.prog E cx n22_20 st) (codeB Try.prog E cx n22_21) := GE.seq_step (by kernel_rfl)
theorem n22_22s : codeB Try.prog E cx n22_22 st = some (.normal, st) := GE.skip_step (by kernel_rfl)
theorem n22_18s : codeB Try.prog E cx n22_18 st = condS (codeB Try.prog E cx n22_19) (codeB Try.prog E cx n22_22) (lk st.σ 22) st := GE.cond_step (c := .tmp 22) (by kernel_rfl)
theorem n22_16s : codeB Try.prog E cx n22_16 st = thenS (codeB Try.prog E cx n22_17 st) (codeB Try.prog E cx n22_18) := GE.seq_step (by kernel_rfl)
theorem n22_12s : codeB Try.prog E cx n22_12 st = condS (codeB Try.prog E cx n22_13) (codeB Try.prog E cx n22_16) (lk st.σ 17) st := GE.cond_step (c := .tmp 17) (by kernel_rfl)
theorem n22_10s : codeB Try.prog E cx n22_10 st = thenS (codeB Try.prog E cx n22_11 st) (codeB Try.prog E cx n22_12) := GE.seq_step (by kernel_rfl)
theorem n22_6s : codeB Try.prog E cx n22_6 st = condS (codeB Try.prog E cx n22_7) (codeB Try.prog E cx n22_10) (lk st.σ 6) st := GE.cond_step (c := .tmp 6) (by kernel_rfl)
theorem n22_4s : codeB Try.prog E cx n22_4 st = thenS (codeB Try.prog E cx n22_5 st) (codeB Try.prog E cx n22_6) := GE.seq_step (by kernel_rfl)
theorem n22_3s : codeB Try.prog E cx n22_3 st = blockS 0 (codeB Try.prog E cx n22_4 st) st := GE.block_step (by kernel_rfl)
theorem n22_24s : codeB Try.prog E ⟨f, 46, b, ro⟩ n22_24 st = plainS (runOps Try.prog E b q22_24 (ops [true, true, false] Try.f22) st) := GE.region_step (id := 7) (GE.reg_of (by kernel_rfl)) (by kernel_rfl)
theorem n22_27s : codeB Try.prog E ⟨f, 46, b, ro⟩ n22_27 st = plainS (runOps Try.prog E b q22_27 (ops [true, true, true, false, false] Try.f22) st) := GE.region_step (id := 8) (GE.reg_of (by kernel_rfl)) (by kernel_rfl)
theorem n22_31s : codeB Try.prog E ⟨f, 46, b, ro⟩ n22_31 st = plainS (runOps Try.prog E b q22_31 (ops [true, true, true, false, true, false, false, false] Try.f22) st) := GE.region_step (id := 9) (GE.reg_of (by kernel_rfl)) (by kernel_rfl)
theorem n22_34s : codeB Try.prog E cx n22_34 st = some (.normal, st) := GE.skip_step (by kernel_rfl)
theorem n22_35s : codeB Try.prog LL ⟨22, 46, b, ro⟩ n22_35 st = normS b ⟨[], []⟩ (.exit 1) st := GE.exit_step (by kernel_rfl) (by kernel_rfl)
theorem n22_33s : codeB Try.prog E cx n22_33 st = condS (codeB Try.prog E cx n22_34) (codeB Try.prog E cx n22_35) (lk st.σ 31) st := GE.cond_step (c := .tmp 31) (by kernel_rfl)
theorem n22_39s : codeB Try.prog E ⟨f, 46, b, ro⟩ n22_39 st = plainS (runOps Try.prog E b q22_39 (ops [true, true, true, false, true, false, false, true, true, false, false, false] Try.f22) st) := GE.region_step (id := 10) (GE.reg_of (by kernel_rfl)) (by kernel_rfl)
theorem n22_43s : codeB Try.prog E ⟨f, 46, b, ro⟩ n22_43 st = plainS (runOps Try.prog E b q22_43 (ops [true, true, true, false, true, false, false, true, true, false, false, true, false, false, false] Try.f22) st) := GE.region_step (id := 11) (GE.reg_of (by kernel_rfl)) (by kernel_rfl)
theorem n22_46s : codeB Try.prog E ⟨f, 46, b, ro⟩ n22_46 st = plainS (runOps Try.prog E b q22_46 (ops [true, true, true, false, true, false, false, true, true, false, false, true, false, false, true, false, false] Try.f22) st) := GE.region_step (id := 12) (GE.reg_of (by kernel_rfl)) (by kernel_rfl)
theorem n22_47s : codeB Try.prog LL ⟨22, 46, b, ro⟩ n22_47 st = normS b ⟨[2], []⟩ .ret st := GE.ret_step (by kernel_rfl) (by kernel_rfl)
theorem n22_45s : codeB Try.prog E cx n22_45 st = thenS (codeB Try.prog E cx n22_46 st) (codeB Try.prog E cx n22_47) := GE.seq_step (by kernel_rfl)
theorem n22_49s : codeB Try.prog E ⟨f, 46, b, ro⟩ n22_49 st = plainS (runOps Try.prog E b q22_49 (ops [true, true, true, false, true, false, false, true, true, false, false, true, false, false, true, true, false] Try.f22) st) := GE.region_step (id := 13) (GE.reg_of (by kernel_rfl)) (by kernel_rfl)
theorem n22_52s : codeB Try.prog E ⟨f, 46, b, ro⟩ n22_52 st = plainS (runOps Try.prog E b q22_52 (ops [true, true, true, false, true, false, false, true, true, false, false, true, false, false, true, true, true, false, false] Try.f22) st) := GE.region_step (id := 14) (GE.reg_of (by kernel_rfl)) (by kernel_rfl)
theorem n22_53s : codeB Try.prog LL ⟨22, 46, b, ro⟩ n22_53 st = normS b ⟨[2], []⟩ .ret st := GE.ret_step (by kernel_rfl) (by kernel_rfl)
theorem n22_51s : codeB Try.prog E cx n22_51 st = thenS (codeB Try.prog E cx n22_52 st) (codeB Try.prog E cx n22_53) := GE.seq_step (by kernel_rfl)
theorem n22_54s : codeB Try.prog E cx n22_54 st = some (.normal, st) := GE.skip_step (by kernel_rfl)
theorem n22_50s : codeB Try.prog E cx n22_50 st = condS (codeB Try.prog E cx n22_51) (codeB Try.prog E cx n22_54) (lk st.σ 38) st := GE.cond_step (c := .tmp 38) (by kernel_rfl)
theorem n22_48s : codeB Try.prog E cx n22_48 st = thenS (codeB Try.prog E cx n22_49 st) (codeB Try.prog E cx n22_50) := GE.seq_step (by kernel_rfl)
theorem n22_44s : codeB Try.prog E cx n22_44 st = condS (codeB Try.prog E cx n22_45) (codeB Try.prog E cx n22_48) (lk st.σ 34) st := GE.cond_step (c := .tmp 34) (by kernel_rfl)
theorem n22_42s : codeB Try.prog E cx n22_42 st = thenS (codeB Try.prog E cx n22_43 st) (codeB Try.prog E cx n22_44) := GE.seq_step (by kernel_rfl)
theorem n22_41s : codeB Try.prog E cx n22_41 st = blockS 3 (codeB Try.prog E cx n22_42 st) st := GE.block_step (by kernel_rfl)
theorem n22_55s : codeB Try.prog E ⟨f, 46, b, ro⟩ n22_55 st = plainS (runOps Try.prog E b q22_55 (ops [true, true, true, false, true, false, false, true, true, false, false, true, true] Try.f22) st) := GE.region_step (id := 15) (GE.reg_of (by kernel_rfl)) (by kernel_rfl)
theorem n22_40s : codeB Try.prog E cx n22_40 st = thenS (codeB Try.prog E cx n22_41 st) (codeB Try.prog E cx n22_55) := GE.seq_step (by kernel_rfl)
theorem n22_38s : codeB Try.prog E cx n22_38 st = thenS (codeB Try.prog E cx n22_39 st) (codeB Try.prog E cx n22_40) := GE.seq_step (by kernel_rfl)
theorem n22_37s : codeB Try.prog E cx n22_37 st = blockS 2 (codeB Try.prog E cx n22_38 st) st := GE.block_step (by kernel_rfl)
theorem n22_56s : codeB Try.prog E ⟨f, 46, b, ro⟩ n22_56 st = plainS (runOps Try.prog E b q22_56 (ops [true, true, true, false, true, false, false, true, true, true] Try.f22) st) := GE.region_step (id := 16) (GE.reg_of (by kernel_rfl)) (by kernel_rfl)
theorem n22_36s : codeB Try.prog E cx n22_36 st = thenS (codeB Try.prog E cx n22_37 st) (codeB Try.prog E cx n22_56) := GE.seq_step (by kernel_rfl)
theorem n22_32s : codeB Try.prog E cx n22_32 st = thenS (codeB Try.prog E cx n22_33 st) (codeB Try.prog E cx n22_36) := GE.seq_step (by kernel_rfl)
theorem n22_30s : codeB Try.prog E cx n22_30 st = thenS (codeB Try.prog E cx n22_31 st) (codeB Try.prog E cx n22_32) := GE.seq_step (by kernel_rfl)
theorem n22_29k : LL.kp (⟨22, 46, b, ro⟩ : Cx).fn (4 * rid n22_30 + 3) = some ⟨[3, 28, 29, 30], [⟨28, 0, 3, true⟩]⟩ := by kernel_rfl
theorem n22_29s : codeB Try.prog LL ⟨22, 46, b, ro⟩ n22_29 st = headS b ⟨[3, 28, 29, 30], [⟨28, 0, 3, true⟩]⟩ st (lpB Try.prog LL ⟨22, 46, b, ro⟩ n22_29 n22_30) := GE.lpB_step (by kernel_rfl) (n22_29k b ro)
theorem n22_29g : LL.code ⟨22, 46, b, ro⟩ n22_29 st = headS b ⟨[3, 28, 29, 30], [⟨28, 0, 3, true⟩]⟩ st (lpB Try.prog LL ⟨22, 46, b, ro⟩ n22_29 n22_30) := GE.lpB_again (by kernel_rfl) (n22_29k b ro)
theorem n22_28s : codeB Try.prog E cx n22_28 st = blockS 1 (codeB Try.prog E cx n22_29 st) st := GE.block_step (by kernel_rfl)
theorem n22_26s : codeB Try.prog E cx n22_26 st = thenS (codeB Try.prog E cx n22_27 st) (codeB Try.prog E cx n22_28) := GE.seq_step (by kernel_rfl)
theorem n22_58s : codeB Try.prog E ⟨f, 46, b, ro⟩ n22_58 st = plainS (runOps Try.prog E b q22_58 (ops [true, true, true, true, false] Try.f22) st) := GE.region_step (id := 17) (GE.reg_of (by kernel_rfl)) (by kernel_rfl)
theorem n22_59s : codeB Try.prog LL ⟨22, 46, b, ro⟩ n22_59 st = normS b ⟨[2], []⟩ .ret st := GE.ret_step (by kernel_rfl) (by kernel_rfl)
theorem n22_57s : codeB Try.prog E cx n22_57 st = thenS (codeB Try.prog E cx n22_58 st) (codeB Try.prog E cx n22_59) := GE.seq_step (by kernel_rfl)
theorem n22_25s : codeB Try.prog E cx n22_25 st = thenS (codeB Try.prog E cx n22_26 st) (codeB Try.prog E cx n22_57) := GE.seq_step (by kernel_rfl)
theorem n22_23s : codeB Try.prog E cx n22_23 st = thenS (codeB Try.prog E cx n22_24 st) (codeB Try.prog E cx n22_25) := GE.seq_step (by kernel_rfl)
theorem n22_2s : codeB Try.prog E cx n22_2 st = thenS (codeB Try.prog E cx n22_3 st) (codeB Try.prog E cx n22_23) := GE.seq_step (by kernel_rfl)
theorem n22_0s : codeB Try.prog E cx n22_0 st = thenS (codeB Try.prog E cx n22_1 st) (codeB Try.prog E cx n22_2) := GE.seq_step (by kernel_rfl)
noncomputable def n24_0 : Code := bodyOf Try.f24
noncomputable def n24_1 : Code := cl n24_0
noncomputable def q24_1 : List Oper := opsOf n24_1
noncomputable def n24_2 : Code := cr n24_0
noncomputable def n24_3 : Code := cl n24_2
noncomputable def n24_4 : Code := cl n24_3
noncomputable def q24_4 : List Oper := opsOf n24_4
noncomputable def n24_5 : Code := cr n24_3
noncomputable def n24_6 : Code := cl n24_5
noncomputable def q24_6 : List Oper := opsOf n24_6
noncomputable def n24_7 : Code := cr n24_5
noncomputable def n24_8 : Code := cl n24_7
noncomputable def n24_9 : Code := cl n24_8
noncomputable def q24_9 : List Oper := opsOf n24_9
noncomputable def n24_10 : Code := cr n24_8
noncomputable def n24_11 : Code := cr n24_7
noncomputable def n24_12 : Code := cr n24_2
noncomputable def n24_13 : Code := cl n24_12
noncomputable def q24_13 : List Oper := opsOf n24_13
noncomputable def n24_14 : Code := cr n24_12
theorem body24 : Try.f24.body = some n24_0 := by kernel_rfl
theorem run24 (E : Ev) (args : List Value) (h : List Blk) (hl : args.length ≤ 12) : runB Try.prog E 24 args h = endS Try.prog [.tmp 2, .tmp 3] h.length (codeB Try.prog E ⟨24, 12, h.length, none⟩ n24_0 ⟨enumT 0 args, h, []⟩) := GE.run_step Try.func24 body24 (by kernel_rfl) (by decide) (by kernel_rfl) hl
theorem n24_1s : codeB Try.prog E ⟨f, 12, b, ro⟩ n24_1 st = plainS (runOps Try.prog E b q24_1 (ops [false] Try.f24) st) := GE.region_step (id := 0) (GE.reg_of (by kernel_rfl)) (by kernel_rfl)
theorem n24_4s : codeB Try.prog E ⟨f, 12, b, ro⟩ n24_4 st = plainS (runOps Try.prog E b q24_4 (ops [true, false, false] Try.f24) st) := GE.region_step (id := 1) (GE.reg_of (by kernel_rfl)) (by kernel_rfl)
theorem n24_6s : codeB Try.prog E ⟨f, 12, b, ro⟩ n24_6 st = plainS (runOps Try.prog E b q24_6 (ops [true, false, true, false] Try.f24) st) := GE.region_step (id := 2) (GE.reg_of (by kernel_rfl)) (by kernel_rfl)
theorem n24_9s : codeB Try.prog E ⟨f, 12, b, ro⟩ n24_9 st = plainS (runOps Try.prog E b q24_9 (ops [true, false, true, true, false, false] Try.f24) st) := GE.region_step (id := 3) (GE.reg_of (by kernel_rfl)) (by kernel_rfl)
theorem n24_10s : codeB Try.prog LL ⟨24, 12, b, ro⟩ n24_10 st = normS b ⟨[2, 3], [⟨2, 0, 2, true⟩]⟩ .ret st := GE.ret_step (by kernel_rfl) (by kernel_rfl)
theorem n24_8s : codeB Try.prog E cx n24_8 st = thenS (codeB Try.prog E cx n24_9 st) (codeB Try.prog E cx n24_10) := GE.seq_step (by kernel_rfl)
theorem n24_11s : codeB Try.prog E cx n24_11 st = some (.normal, st) := GE.skip_step (by kernel_rfl)
theorem n24_7s : codeB Try.prog E cx n24_7 st = condS (codeB Try.prog E cx n24_8) (codeB Try.prog E cx n24_11) (lk st.σ 8) st := GE.cond_step (c := .tmp 8) (by kernel_rfl)
theorem n24_5s : codeB Try.prog E cx n24_5 st = thenS (codeB Try.prog E cx n24_6 st) (codeB Try.prog E cx n24_7) := GE.seq_step (by kernel_rfl)
theorem n24_3s : codeB Try.prog E cx n24_3 st = thenS (codeB Try.prog E cx n24_4 st) (codeB Try.prog E cx n24_5) := GE.seq_step (by kernel_rfl)
theorem n24_13s : codeB Try.prog E ⟨f, 12, b, ro⟩ n24_13 st = plainS (runOps Try.prog E b q24_13 (ops [true, true, false] Try.f24) st) := GE.region_step (id := 4) (GE.reg_of (by kernel_rfl)) (by kernel_rfl)
theorem n24_14s : codeB Try.prog LL ⟨24, 12, b, ro⟩ n24_14 st = normS b ⟨[2, 3], [⟨2, 0, 2, true⟩]⟩ .ret st := GE.ret_step (by kernel_rfl) (by kernel_rfl)
theorem n24_12s : codeB Try.prog E cx n24_12 st = thenS (codeB Try.prog E cx n24_13 st) (codeB Try.prog E cx n24_14) := GE.seq_step (by kernel_rfl)
theorem n24_2s : codeB Try.prog E cx n24_2 st = thenS (codeB Try.prog E cx n24_3 st) (codeB Try.prog E cx n24_12) := GE.seq_step (by kernel_rfl)
theorem n24_0s : codeB Try.prog E cx n24_0 st = thenS (codeB Try.prog E cx n24_1 st) (codeB Try.prog E cx n24_2) := GE.seq_step (by kernel_rfl)
noncomputable def n25_0 : Code := bodyOf Try.f25
noncomputable def n25_1 : Code := cl n25_0
noncomputable def q25_1 : List Oper := opsOf n25_1
noncomputable def n25_2 : Code := cr n25_0
noncomputable def n25_3 : Code := cl n25_2
noncomputable def n25_4 : Code := cl n25_3
noncomputable def q25_4 : List Oper := opsOf n25_4
noncomputable def n25_5 : Code := cr n25_3
noncomputable def n25_6 : Code := cl n25_5
noncomputable def q25_6 : List Oper := opsOf n25_6
noncomputable def n25_7 : Code := cr n25_5
noncomputable def n25_8 : Code := cl n25_7
noncomputable def n25_9 : Code := cl n25_8
noncomputable def q25_9 : List Oper := opsOf n25_9
noncomputable def n25_10 : Code := cr n25_8
noncomputable def n25_11 : Code := cr n25_7
noncomputable def n25_12 : Code := cr n25_2
noncomputable def n25_13 : Code := cl n25_12
noncomputable def q25_13 : List Oper := opsOf n25_13
noncomputable def n25_14 : Code := cr n25_12
noncomputable def n25_15 : Code := cl n25_14
noncomputable def n25_16 : Code := cl n25_15
noncomputable def q25_16 : List Oper := opsOf n25_16
noncomputable def n25_17 : Code := cr n25_15
noncomputable def n25_18 : Code := cl n25_17
noncomputable def n25_19 : Code := cl n25_18
noncomputable def n25_20 : Code := cl n25_19
noncomputable def q25_20 : List Oper := opsOf n25_20
noncomputable def n25_21 : Code := cr n25_19
noncomputable def n25_22 : Code := cl n25_21
noncomputable def n25_23 : Code := cl n25_22
noncomputable def n25_24 : Code := cr n25_22
noncomputable def n25_25 : Code := cr n25_21
noncomputable def n25_26 : Code := cl n25_25
noncomputable def n25_27 : Code := cl n25_26
noncomputable def n25_28 : Code := cl n25_27
noncomputable def q25_28 : List Oper := opsOf n25_28
noncomputable def n25_29 : Code := cr n25_27
noncomputable def n25_30 : Code := cl n25_29
noncomputable def n25_31 : Code := cl n25_30
noncomputable def n25_32 : Code := cl n25_31
noncomputable def q25_32 : List Oper := opsOf n25_32
noncomputable def n25_33 : Code := cr n25_31
noncomputable def n25_34 : Code := cl n25_33
noncomputable def n25_35 : Code := cl n25_34
noncomputable def q25_35 : List Oper := opsOf n25_35
noncomputable def n25_36 : Code := cr n25_34
noncomputable def n25_37 : Code := cr n25_33
noncomputable def n25_38 : Code := cl n25_37
noncomputable def q25_38 : List Oper := opsOf n25_38
noncomputable def n25_39 : Code := cr n25_37
noncomputable def n25_40 : Code := cl n25_39
noncomputable def n25_41 : Code := cl n25_40
noncomputable def q25_41 : List Oper := opsOf n25_41
noncomputable def n25_42 : Code := cr n25_40
noncomputable def n25_43 : Code := cr n25_39
noncomputable def n25_44 : Code := cl n25_43
noncomputable def q25_44 : List Oper := opsOf n25_44
noncomputable def n25_45 : Code := cr n25_43
noncomputable def n25_46 : Code := cl n25_45
noncomputable def n25_47 : Code := cl n25_46
noncomputable def q25_47 : List Oper := opsOf n25_47
noncomputable def n25_48 : Code := cr n25_46
noncomputable def n25_49 : Code := cr n25_45
noncomputable def n25_50 : Code := cr n25_29
noncomputable def q25_50 : List Oper := opsOf n25_50
noncomputable def n25_51 : Code := cr n25_25
noncomputable def q25_51 : List Oper := opsOf n25_51
noncomputable def n25_52 : Code := cr n25_14
noncomputable def n25_53 : Code := cl n25_52
noncomputable def q25_53 : List Oper := opsOf n25_53
noncomputable def n25_54 : Code := cr n25_52
theorem body25 : Try.f25.body = some n25_0 := by kernel_rfl
theorem run25 (E : Ev) (args : List Value) (h : List Blk) (hl : args.length ≤ 69) : runB Try.prog E 25 args h = endS Try.prog [.tmp 4] h.length (codeB Try.prog E ⟨25, 69, h.length, none⟩ n25_0 ⟨enumT 0 args, h, []⟩) := GE.run_step Try.func25 body25 (by kernel_rfl) (by decide) (by kernel_rfl) hl
theorem n25_1s : codeB Try.prog E ⟨f, 69, b, ro⟩ n25_1 st = plainS (runOps Try.prog E b q25_1 (ops [false] Try.f25) st) := GE.region_step (id := 0) (GE.reg_of (by kernel_rfl)) (by kernel_rfl)
theorem n25_4s : codeB Try.prog E ⟨f, 69, b, ro⟩ n25_4 st = plainS (runOps Try.prog E b q25_4 (ops [true, false, false] Try.f25) st) := GE.region_step (id := 1) (GE.reg_of (by kernel_rfl)) (by kernel_rfl)
theorem n25_6s : codeB Try.prog E ⟨f, 69, b, ro⟩ n25_6 st = plainS (runOps Try.prog E b q25_6 (ops [true, false, true, false] Try.f25) st) := GE.region_step (id := 2) (GE.reg_of (by kernel_rfl)) (by kernel_rfl)
theorem n25_9s : codeB Try.prog E ⟨f, 69, b, ro⟩ n25_9 st = plainS (runOps Try.prog E b q25_9 (ops [true, false, true, true, false, false] Try.f25) st) := GE.region_step (id := 3) (GE.reg_of (by kernel_rfl)) (by kernel_rfl)
theorem n25_10s : codeB Try.prog LL ⟨25, 69, b, ro⟩ n25_10 st = normS b ⟨[4], []⟩ .ret st := GE.ret_step (by kernel_rfl) (by kernel_rfl)
theorem n25_8s : codeB Try.prog E cx n25_8 st = thenS (codeB Try.prog E cx n25_9 st) (codeB Try.prog E cx n25_10) := GE.seq_step (by kernel_rfl)
theorem n25_11s : codeB Try.prog E cx n25_11 st = some (.normal, st) := GE.skip_step (by kernel_rfl)
theorem n25_7s : codeB Try.prog E cx n25_7 st = condS (codeB Try.prog E cx n25_8) (codeB Try.prog E cx n25_11) (lk st.σ 13) st := GE.cond_step (c := .tmp 13) (by kernel_rfl)
theorem n25_5s : codeB Try.prog E cx n25_5 st = thenS (codeB Try.prog E cx n25_6 st) (codeB Try.prog E cx n25_7) := GE.seq_step (by kernel_rfl)
theorem n25_3s : codeB Try.prog E cx n25_3 st = thenS (codeB Try.prog E cx n25_4 st) (codeB Try.prog E cx n25_5) := GE.seq_step (by kernel_rfl)
theorem n25_13s : codeB Try.prog E ⟨f, 69, b, ro⟩ n25_13 st = drawS [0, 1, 3, 7, 0, 31] (runOpsF Try.prog E b q25_13 (ops [true, true, false] Try.f25) st) := GE.draw_step (id := 4) (GE.reg_of (by kernel_rfl)) (by kernel_rfl) (by kernel_rfl) (by kernel_rfl)
theorem n25_16s : codeB Try.prog E ⟨f, 69, b, ro⟩ n25_16 st = plainS (runOps Try.prog E b q25_16 (ops [true, true, true, false, false] Try.f25) st) := GE.region_step (id := 5) (GE.reg_of (by kernel_rfl)) (by kernel_rfl)
theorem n25_20s : codeB Try.prog E ⟨f, 69, b, ro⟩ n25_20 st = plainS (runOps Try.prog E b q25_20 (ops [true, true, true, false, true, false, false, false] Try.f25) st) := GE.region_step (id := 6) (GE.reg_of (by kernel_rfl)) (by kernel_rfl)
theorem n25_23s : codeB Try.prog E cx n25_23 st = some (.normal, st) := GE.skip_step (by kernel_rfl)
theorem n25_24s : codeB Try.prog LL ⟨25, 69, b, ro⟩ n25_24 st = normS b ⟨[], []⟩ (.exit 0) st := GE.exit_step (by kernel_rfl) (by kernel_rfl)
theorem n25_22s : codeB Try.prog E cx n25_22 st = condS (codeB Try.prog E cx n25_23) (codeB Try.prog E cx n25_24) (lk st.σ 22) st := GE.cond_step (c := .tmp 22) (by kernel_rfl)
theorem n25_28s : codeB Try.prog E ⟨f, 69, b, ro⟩ n25_28 st = plainS (runOps Try.prog E b q25_28 (ops [true, true, true, false, true, false, false, true, true, false, false, false] Try.f25) st) := GE.region_step (id := 7) (GE.reg_of (by kernel_rfl)) (by kernel_rfl)
theorem q25_32g5 : gd q25_32 5 = some 31 := by kernel_rfl
theorem n25_32s : codeB Try.prog E ⟨f, 69, b, ro⟩ n25_32 st = plainS (runOps Try.prog E b q25_32 (ops [true, true, true, false, true, false, false, true, true, false, false, true, false, false, false] Try.f25) st) := GE.region_step (id := 8) (GE.reg_of (by kernel_rfl)) (by kernel_rfl)
theorem n25_35s : codeB Try.prog E ⟨f, 69, b, ro⟩ n25_35 st = plainS (runOps Try.prog E b q25_35 (ops [true, true, true, false, true, false, false, true, true, false, false, true, false, false, true, false, false] Try.f25) st) := GE.region_step (id := 9) (GE.reg_of (by kernel_rfl)) (by kernel_rfl)
theorem n25_36s : codeB Try.prog LL ⟨25, 69, b, ro⟩ n25_36 st = normS b ⟨[4], []⟩ .ret st := GE.ret_step (by kernel_rfl) (by kernel_rfl)
theorem n25_34s : codeB Try.prog E cx n25_34 st = thenS (codeB Try.prog E cx n25_35 st) (codeB Try.prog E cx n25_36) := GE.seq_step (by kernel_rfl)
theorem q25_38g5 : gd q25_38 5 = some 44 := by kernel_rfl
theorem n25_38s : codeB Try.prog E ⟨f, 69, b, ro⟩ n25_38 st = plainS (runOps Try.prog E b q25_38 (ops [true, true, true, false, true, false, false, true, true, false, false, true, false, false, true, true, false] Try.f25) st) := GE.region_step (id := 10) (GE.reg_of (by kernel_rfl)) (by kernel_rfl)
theorem n25_41s : codeB Try.prog E ⟨f, 69, b, ro⟩ n25_41 st = plainS (runOps Try.prog E b q25_41 (ops [true, true, true, false, true, false, false, true, true, false, false, true, false, false, true, true, true, false, false] Try.f25) st) := GE.region_step (id := 11) (GE.reg_of (by kernel_rfl)) (by kernel_rfl)
theorem n25_42s : codeB Try.prog LL ⟨25, 69, b, ro⟩ n25_42 st = normS b ⟨[4], []⟩ .ret st := GE.ret_step (by kernel_rfl) (by kernel_rfl)
theorem n25_40s : codeB Try.prog E cx n25_40 st = thenS (codeB Try.prog E cx n25_41 st) (codeB Try.prog E cx n25_42) := GE.seq_step (by kernel_rfl)
theorem n25_44s : codeB Try.prog E ⟨f, 69, b, ro⟩ n25_44 st = drawS [0, 0, 2, 0, 8, 30, 62, 0, 128, 0, 512, 1920, 3968, 8191, 16383, 32767] (runOpsF Try.prog E b q25_44 (ops [true, true, true, false, true, false, false, true, true, false, false, true, false, false, true, true, true, true, false] Try.f25) st) := GE.draw_step (id := 12) (GE.reg_of (by kernel_rfl)) (by kernel_rfl) (by kernel_rfl) (by kernel_rfl)
theorem n25_47s : codeB Try.prog E ⟨f, 69, b, ro⟩ n25_47 st = plainS (runOps Try.prog E b q25_47 (ops [true, true, true, false, true, false, false, true, true, false, false, true, false, false, true, true, true, true, true, false, false] Try.f25) st) := GE.region_step (id := 13) (GE.reg_of (by kernel_rfl)) (by kernel_rfl)
theorem n25_48s : codeB Try.prog LL ⟨25, 69, b, ro⟩ n25_48 st = normS b ⟨[4], []⟩ .ret st := GE.ret_step (by kernel_rfl) (by kernel_rfl)
theorem n25_46s : codeB Try.prog E cx n25_46 st = thenS (codeB Try.prog E cx n25_47 st) (codeB Try.prog E cx n25_48) := GE.seq_step (by kernel_rfl)
theorem n25_49s : codeB Try.prog E cx n25_49 st = some (.normal, st) := GE.skip_step (by kernel_rfl)
theorem n25_45s : codeB Try.prog E cx n25_45 st = condS (codeB Try.prog E cx n25_46) (codeB Try.prog E cx n25_49) (lk st.σ 50) st := GE.cond_step (c := .tmp 50) (by kernel_rfl)
theorem n25_43s : codeB Try.prog E cx n25_43 st = thenS (codeB Try.prog E cx n25_44 st) (codeB Try.prog E cx n25_45) := GE.seq_step (by kernel_rfl)
theorem n25_39s : codeB Try.prog E cx n25_39 st = condS (codeB Try.prog E cx n25_40) (codeB Try.prog E cx n25_43) (lk st.σ 38) st := GE.cond_step (c := .tmp 38) (by kernel_rfl)
theorem n25_37s : codeB Try.prog E cx n25_37 st = thenS (codeB Try.prog E cx n25_38 st) (codeB Try.prog E cx n25_39) := GE.seq_step (by kernel_rfl)
theorem n25_33s : codeB Try.prog E cx n25_33 st = condS (codeB Try.prog E cx n25_34) (codeB Try.prog E cx n25_37) (lk st.σ 25) st := GE.cond_step (c := .tmp 25) (by kernel_rfl)
theorem n25_31s : codeB Try.prog E cx n25_31 st = thenS (codeB Try.prog E cx n25_32 st) (codeB Try.prog E cx n25_33) := GE.seq_step (by kernel_rfl)
theorem n25_30s : codeB Try.prog E cx n25_30 st = blockS 2 (codeB Try.prog E cx n25_31 st) st := GE.block_step (by kernel_rfl)
theorem n25_50s : codeB Try.prog E ⟨f, 69, b, ro⟩ n25_50 st = plainS (runOps Try.prog E b q25_50 (ops [true, true, true, false, true, false, false, true, true, false, false, true, true] Try.f25) st) := GE.region_step (id := 14) (GE.reg_of (by kernel_rfl)) (by kernel_rfl)
theorem n25_29s : codeB Try.prog E cx n25_29 st = thenS (codeB Try.prog E cx n25_30 st) (codeB Try.prog E cx n25_50) := GE.seq_step (by kernel_rfl)
theorem n25_27s : codeB Try.prog E cx n25_27 st = thenS (codeB Try.prog E cx n25_28 st) (codeB Try.prog E cx n25_29) := GE.seq_step (by kernel_rfl)
theorem n25_26s : codeB Try.prog E cx n25_26 st = blockS 1 (codeB Try.prog E cx n25_27 st) st := GE.block_step (by kernel_rfl)
theorem n25_51s : codeB Try.prog E ⟨f, 69, b, ro⟩ n25_51 st = plainS (runOps Try.prog E b q25_51 (ops [true, true, true, false, true, false, false, true, true, true] Try.f25) st) := GE.region_step (id := 15) (GE.reg_of (by kernel_rfl)) (by kernel_rfl)
theorem n25_25s : codeB Try.prog E cx n25_25 st = thenS (codeB Try.prog E cx n25_26 st) (codeB Try.prog E cx n25_51) := GE.seq_step (by kernel_rfl)
theorem n25_21s : codeB Try.prog E cx n25_21 st = thenS (codeB Try.prog E cx n25_22 st) (codeB Try.prog E cx n25_25) := GE.seq_step (by kernel_rfl)
theorem n25_19s : codeB Try.prog E cx n25_19 st = thenS (codeB Try.prog E cx n25_20 st) (codeB Try.prog E cx n25_21) := GE.seq_step (by kernel_rfl)
theorem n25_18k : LL.kp (⟨25, 69, b, ro⟩ : Cx).fn (4 * rid n25_19 + 3) = some ⟨[2, 6, 7, 19, 20, 21], [⟨2, 2, 3, true⟩, ⟨19, 0, 2, true⟩]⟩ := by kernel_rfl
theorem n25_18s : codeB Try.prog LL ⟨25, 69, b, ro⟩ n25_18 st = headS b ⟨[2, 6, 7, 19, 20, 21], [⟨2, 2, 3, true⟩, ⟨19, 0, 2, true⟩]⟩ st (lpB Try.prog LL ⟨25, 69, b, ro⟩ n25_18 n25_19) := GE.lpB_step (by kernel_rfl) (n25_18k b ro)
theorem n25_18g : LL.code ⟨25, 69, b, ro⟩ n25_18 st = headS b ⟨[2, 6, 7, 19, 20, 21], [⟨2, 2, 3, true⟩, ⟨19, 0, 2, true⟩]⟩ st (lpB Try.prog LL ⟨25, 69, b, ro⟩ n25_18 n25_19) := GE.lpB_again (by kernel_rfl) (n25_18k b ro)
theorem n25_17s : codeB Try.prog E cx n25_17 st = blockS 0 (codeB Try.prog E cx n25_18 st) st := GE.block_step (by kernel_rfl)
theorem n25_15s : codeB Try.prog E cx n25_15 st = thenS (codeB Try.prog E cx n25_16 st) (codeB Try.prog E cx n25_17) := GE.seq_step (by kernel_rfl)
theorem n25_53s : codeB Try.prog E ⟨f, 69, b, ro⟩ n25_53 st = plainS (runOps Try.prog E b q25_53 (ops [true, true, true, true, false] Try.f25) st) := GE.region_step (id := 16) (GE.reg_of (by kernel_rfl)) (by kernel_rfl)
theorem n25_54s : codeB Try.prog LL ⟨25, 69, b, ro⟩ n25_54 st = normS b ⟨[4], []⟩ .ret st := GE.ret_step (by kernel_rfl) (by kernel_rfl)
theorem n25_52s : codeB Try.prog E cx n25_52 st = thenS (codeB Try.prog E cx n25_53 st) (codeB Try.prog E cx n25_54) := GE.seq_step (by kernel_rfl)
theorem n25_14s : codeB Try.prog E cx n25_14 st = thenS (codeB Try.prog E cx n25_15 st) (codeB Try.prog E cx n25_52) := GE.seq_step (by kernel_rfl)
theorem n25_12s : codeB Try.prog E cx n25_12 st = thenS (codeB Try.prog E cx n25_13 st) (codeB Try.prog E cx n25_14) := GE.seq_step (by kernel_rfl)
theorem n25_2s : codeB Try.prog E cx n25_2 st = thenS (codeB Try.prog E cx n25_3 st) (codeB Try.prog E cx n25_12) := GE.seq_step (by kernel_rfl)
theorem n25_0s : codeB Try.prog E cx n25_0 st = thenS (codeB Try.prog E cx n25_1 st) (codeB Try.prog E cx n25_2) := GE.seq_step (by kernel_rfl)
noncomputable def n38_0 : Code := bodyOf Try.f38
noncomputable def n38_1 : Code := cl n38_0
noncomputable def q38_1 : List Oper := opsOf n38_1
noncomputable def n38_2 : Code := cr n38_0
noncomputable def n38_3 : Code := cl n38_2
noncomputable def q38_3 : List Oper := opsOf n38_3
noncomputable def n38_4 : Code := cr n38_2
noncomputable def n38_5 : Code := cl n38_4
noncomputable def q38_5 : List Oper := opsOf n38_5
noncomputable def n38_6 : Code := cr n38_4
noncomputable def n38_7 : Code := cl n38_6
noncomputable def n38_8 : Code := cl n38_7
noncomputable def q38_8 : List Oper := opsOf n38_8
noncomputable def n38_9 : Code := cr n38_7
noncomputable def n38_10 : Code := cl n38_9
noncomputable def n38_11 : Code := cl n38_10
noncomputable def n38_12 : Code := cl n38_11
noncomputable def n38_13 : Code := cl n38_12
noncomputable def q38_13 : List Oper := opsOf n38_13
noncomputable def n38_14 : Code := cr n38_12
noncomputable def n38_15 : Code := cl n38_14
noncomputable def n38_16 : Code := cr n38_14
noncomputable def n38_17 : Code := cr n38_11
noncomputable def n38_18 : Code := cl n38_17
noncomputable def n38_19 : Code := cl n38_18
noncomputable def n38_20 : Code := cl n38_19
noncomputable def q38_20 : List Oper := opsOf n38_20
noncomputable def n38_21 : Code := cr n38_19
noncomputable def n38_22 : Code := cl n38_21
noncomputable def q38_22 : List Oper := opsOf n38_22
noncomputable def n38_23 : Code := cr n38_21
noncomputable def q38_23 : List Oper := opsOf n38_23
noncomputable def n38_24 : Code := cr n38_17
noncomputable def q38_24 : List Oper := opsOf n38_24
noncomputable def n38_25 : Code := cr n38_6
noncomputable def n38_26 : Code := cl n38_25
noncomputable def n38_27 : Code := cl n38_26
noncomputable def q38_27 : List Oper := opsOf n38_27
noncomputable def n38_28 : Code := cr n38_26
noncomputable def n38_29 : Code := cl n38_28
noncomputable def q38_29 : List Oper := opsOf n38_29
noncomputable def n38_30 : Code := cr n38_28
noncomputable def n38_31 : Code := cr n38_25
noncomputable def n38_32 : Code := cl n38_31
noncomputable def q38_32 : List Oper := opsOf n38_32
noncomputable def n38_33 : Code := cr n38_31
theorem body38 : Try.f38.body = some n38_0 := by kernel_rfl
theorem run38 (E : Ev) (args : List Value) (h : List Blk) (hl : args.length ≤ 79) : runB Try.prog E 38 args h = endS Try.prog [.cell 2 24] h.length (codeB Try.prog E ⟨38, 79, h.length, none⟩ n38_0 ⟨enumT 0 args, h, []⟩) := GE.run_step Try.func38 body38 (by kernel_rfl) (by decide) (by kernel_rfl) hl
theorem n38_1s : codeB Try.prog E ⟨f, 79, b, ro⟩ n38_1 st = plainS (runOps Try.prog E b q38_1 (ops [false] Try.f38) st) := GE.region_step (id := 0) (GE.reg_of (by kernel_rfl)) (by kernel_rfl)
theorem n38_3s : codeB Try.prog E ⟨f, 79, b, ro⟩ n38_3 st = plainS (runOps Try.prog E b q38_3 (ops [true, false] Try.f38) st) := GE.region_step (id := 1) (GE.reg_of (by kernel_rfl)) (by kernel_rfl)
theorem n38_5s : codeB Try.prog E ⟨f, 79, b, ro⟩ n38_5 st = plainS (runOps Try.prog E b q38_5 (ops [true, true, false] Try.f38) st) := GE.region_step (id := 2) (GE.reg_of (by kernel_rfl)) (by kernel_rfl)
theorem n38_8s : codeB Try.prog E ⟨f, 79, b, ro⟩ n38_8 st = plainS (runOps Try.prog E b q38_8 (ops [true, true, true, false, false] Try.f38) st) := GE.region_step (id := 3) (GE.reg_of (by kernel_rfl)) (by kernel_rfl)
theorem q38_13g5 : gd q38_13 5 = some 21 := by kernel_rfl
theorem q38_13g9 : gd q38_13 9 = some 25 := by kernel_rfl
theorem n38_13s : codeB Try.prog E ⟨f, 79, b, ro⟩ n38_13 st = plainS (runOps Try.prog E b q38_13 (ops [true, true, true, false, true, false, false, false, false] Try.f38) st) := GE.region_step (id := 4) (GE.reg_of (by kernel_rfl)) (by kernel_rfl)
theorem n38_15s : codeB Try.prog E cx n38_15 st = some (.normal, st) := GE.skip_step (by kernel_rfl)
theorem n38_16s : codeB Try.prog LL ⟨38, 79, b, ro⟩ n38_16 st = normS b ⟨[2, 3], [⟨2, 2, 3, true⟩, ⟨3, 2, 3, true⟩]⟩ (.exit 0) st := GE.exit_step (by kernel_rfl) (by kernel_rfl)
theorem n38_14s : codeB Try.prog E cx n38_14 st = condS (codeB Try.prog E cx n38_15) (codeB Try.prog E cx n38_16) (lk st.σ 28) st := GE.cond_step (c := .tmp 28) (by kernel_rfl)
theorem n38_12s : codeB Try.prog E cx n38_12 st = thenS (codeB Try.prog E cx n38_13 st) (codeB Try.prog E cx n38_14) := GE.seq_step (by kernel_rfl)
theorem n38_20s : codeB Try.prog E ⟨f, 79, b, ro⟩ n38_20 st = plainS (runOps Try.prog E b q38_20 (ops [true, true, true, false, true, false, false, true, false, false, false] Try.f38) st) := GE.region_step (id := 6) (GE.reg_of (by kernel_rfl)) (by kernel_rfl)
theorem n38_22s : codeB Try.prog E ⟨f, 79, b, ro⟩ n38_22 st = drawS [0, 1, 0, 0, 0, 0, 32, 0, 224, 480, 992, 2016, 4064, 8176, 16380, 32764, 65535, 131071, 262143] (runOpsF Try.prog E b q38_22 (ops [true, true, true, false, true, false, false, true, false, false, true, false] Try.f38) st) := GE.draw_step (id := 7) (GE.reg_of (by kernel_rfl)) (by kernel_rfl) (by kernel_rfl) (by kernel_rfl)
theorem n38_23s : codeB Try.prog E ⟨f, 79, b, ro⟩ n38_23 st = plainS (runOps Try.prog E b q38_23 (ops [true, true, true, false, true, false, false, true, false, false, true, true] Try.f38) st) := GE.region_step (id := 8) (GE.reg_of (by kernel_rfl)) (by kernel_rfl)
theorem n38_21s : codeB Try.prog E cx n38_21 st = thenS (codeB Try.prog E cx n38_22 st) (codeB Try.prog E cx n38_23) := GE.seq_step (by kernel_rfl)
theorem n38_19s : codeB Try.prog E cx n38_19 st = thenS (codeB Try.prog E cx n38_20 st) (codeB Try.prog E cx n38_21) := GE.seq_step (by kernel_rfl)
theorem n38_18s : codeB Try.prog E cx n38_18 st = blockS 1 (codeB Try.prog E cx n38_19 st) st := GE.block_step (by kernel_rfl)
theorem n38_24s : codeB Try.prog E ⟨f, 79, b, ro⟩ n38_24 st = plainS (runOps Try.prog E b q38_24 (ops [true, true, true, false, true, false, false, true, true] Try.f38) st) := GE.region_step (id := 5) (GE.reg_of (by kernel_rfl)) (by kernel_rfl)
theorem n38_17s : codeB Try.prog E cx n38_17 st = thenS (codeB Try.prog E cx n38_18 st) (codeB Try.prog E cx n38_24) := GE.seq_step (by kernel_rfl)
theorem n38_11s : codeB Try.prog E cx n38_11 st = thenS (codeB Try.prog E cx n38_12 st) (codeB Try.prog E cx n38_17) := GE.seq_step (by kernel_rfl)
theorem n38_10k : LL.kp (⟨38, 79, b, ro⟩ : Cx).fn (4 * rid n38_11 + 3) = some ⟨[1, 2, 3, 4, 5], [⟨1, 2, 3, true⟩, ⟨2, 2, 3, true⟩, ⟨3, 2, 3, true⟩]⟩ := by kernel_rfl
theorem n38_10s : codeB Try.prog LL ⟨38, 79, b, ro⟩ n38_10 st = headS b ⟨[1, 2, 3, 4, 5], [⟨1, 2, 3, true⟩, ⟨2, 2, 3, true⟩, ⟨3, 2, 3, true⟩]⟩ st (lpB Try.prog LL ⟨38, 79, b, ro⟩ n38_10 n38_11) := GE.lpB_step (by kernel_rfl) (n38_10k b ro)
theorem n38_10g : LL.code ⟨38, 79, b, ro⟩ n38_10 st = headS b ⟨[1, 2, 3, 4, 5], [⟨1, 2, 3, true⟩, ⟨2, 2, 3, true⟩, ⟨3, 2, 3, true⟩]⟩ st (lpB Try.prog LL ⟨38, 79, b, ro⟩ n38_10 n38_11) := GE.lpB_again (by kernel_rfl) (n38_10k b ro)
theorem n38_9s : codeB Try.prog E cx n38_9 st = blockS 0 (codeB Try.prog E cx n38_10 st) st := GE.block_step (by kernel_rfl)
theorem n38_7s : codeB Try.prog E cx n38_7 st = thenS (codeB Try.prog E cx n38_8 st) (codeB Try.prog E cx n38_9) := GE.seq_step (by kernel_rfl)
theorem n38_27s : codeB Try.prog E ⟨f, 79, b, ro⟩ n38_27 st = plainS (runOps Try.prog E b q38_27 (ops [true, true, true, true, false, false] Try.f38) st) := GE.region_step (id := 9) (GE.reg_of (by kernel_rfl)) (by kernel_rfl)
theorem n38_29s : codeB Try.prog E ⟨f, 79, b, ro⟩ n38_29 st = drawS [0, 1, 0, 4, 15, 31, 63] (runOpsF Try.prog E b q38_29 (ops [true, true, true, true, false, true, false] Try.f38) st) := GE.draw_step (id := 10) (GE.reg_of (by kernel_rfl)) (by kernel_rfl) (by kernel_rfl) (by kernel_rfl)
theorem n38_30s : codeB Try.prog E cx n38_30 st = some (.normal, st) := GE.skip_step (by kernel_rfl)
theorem n38_28s : codeB Try.prog E cx n38_28 st = condS (codeB Try.prog E cx n38_29) (codeB Try.prog E cx n38_30) (lk st.σ 71) st := GE.cond_step (c := .tmp 71) (by kernel_rfl)
theorem n38_26s : codeB Try.prog E cx n38_26 st = thenS (codeB Try.prog E cx n38_27 st) (codeB Try.prog E cx n38_28) := GE.seq_step (by kernel_rfl)
theorem n38_32s : codeB Try.prog E ⟨f, 79, b, ro⟩ n38_32 st = plainS (runOps Try.prog E b q38_32 (ops [true, true, true, true, true, false] Try.f38) st) := GE.region_step (id := 11) (GE.reg_of (by kernel_rfl)) (by kernel_rfl)
theorem n38_33s : codeB Try.prog LL ⟨38, 79, b, ro⟩ n38_33 st = normS b ⟨[2], [⟨2, 2, 3, true⟩]⟩ .ret st := GE.ret_step (by kernel_rfl) (by kernel_rfl)
theorem n38_31s : codeB Try.prog E cx n38_31 st = thenS (codeB Try.prog E cx n38_32 st) (codeB Try.prog E cx n38_33) := GE.seq_step (by kernel_rfl)
theorem n38_25s : codeB Try.prog E cx n38_25 st = thenS (codeB Try.prog E cx n38_26 st) (codeB Try.prog E cx n38_31) := GE.seq_step (by kernel_rfl)
theorem n38_6s : codeB Try.prog E cx n38_6 st = thenS (codeB Try.prog E cx n38_7 st) (codeB Try.prog E cx n38_25) := GE.seq_step (by kernel_rfl)
theorem n38_4s : codeB Try.prog E cx n38_4 st = thenS (codeB Try.prog E cx n38_5 st) (codeB Try.prog E cx n38_6) := GE.seq_step (by kernel_rfl)
theorem n38_2s : codeB Try.prog E cx n38_2 st = thenS (codeB Try.prog E cx n38_3 st) (codeB Try.prog E cx n38_4) := GE.seq_step (by kernel_rfl)
theorem n38_0s : codeB Try.prog E cx n38_0 st = thenS (codeB Try.prog E cx n38_1 st) (codeB Try.prog E cx n38_2) := GE.seq_step (by kernel_rfl)
noncomputable def n39_0 : Code := bodyOf Try.f39
noncomputable def n39_1 : Code := cl n39_0
noncomputable def q39_1 : List Oper := opsOf n39_1
noncomputable def n39_2 : Code := cr n39_0
noncomputable def n39_3 : Code := cl n39_2
noncomputable def q39_3 : List Oper := opsOf n39_3
noncomputable def n39_4 : Code := cr n39_2
noncomputable def n39_5 : Code := cl n39_4
noncomputable def n39_6 : Code := cl n39_5
noncomputable def q39_6 : List Oper := opsOf n39_6
noncomputable def n39_7 : Code := cr n39_5
noncomputable def n39_8 : Code := cl n39_7
noncomputable def n39_9 : Code := cl n39_8
noncomputable def n39_10 : Code := cl n39_9
noncomputable def n39_11 : Code := cl n39_10
noncomputable def q39_11 : List Oper := opsOf n39_11
noncomputable def n39_12 : Code := cr n39_10
noncomputable def n39_13 : Code := cl n39_12
noncomputable def n39_14 : Code := cr n39_12
noncomputable def n39_15 : Code := cr n39_9
noncomputable def n39_16 : Code := cl n39_15
noncomputable def n39_17 : Code := cl n39_16
noncomputable def n39_18 : Code := cl n39_17
noncomputable def q39_18 : List Oper := opsOf n39_18
noncomputable def n39_19 : Code := cr n39_17
noncomputable def n39_20 : Code := cl n39_19
noncomputable def q39_20 : List Oper := opsOf n39_20
noncomputable def n39_21 : Code := cr n39_19
noncomputable def n39_22 : Code := cr n39_15
noncomputable def q39_22 : List Oper := opsOf n39_22
noncomputable def n39_23 : Code := cr n39_4
noncomputable def n39_24 : Code := cl n39_23
noncomputable def q39_24 : List Oper := opsOf n39_24
noncomputable def n39_25 : Code := cr n39_23
theorem body39 : Try.f39.body = some n39_0 := by kernel_rfl
theorem run39 (E : Ev) (args : List Value) (h : List Blk) (hl : args.length ≤ 19) : runB Try.prog E 39 args h = endS Try.prog [.tmp 2] h.length (codeB Try.prog E ⟨39, 19, h.length, none⟩ n39_0 ⟨enumT 0 args, h, []⟩) := GE.run_step Try.func39 body39 (by kernel_rfl) (by decide) (by kernel_rfl) hl
theorem n39_1s : codeB Try.prog E ⟨f, 19, b, ro⟩ n39_1 st = plainS (runOps Try.prog E b q39_1 (ops [false] Try.f39) st) := GE.region_step (id := 0) (GE.reg_of (by kernel_rfl)) (by kernel_rfl)
theorem n39_3s : codeB Try.prog E ⟨f, 19, b, ro⟩ n39_3 st = plainS (runOps Try.prog E b q39_3 (ops [true, false] Try.f39) st) := GE.region_step (id := 1) (GE.reg_of (by kernel_rfl)) (by kernel_rfl)
theorem n39_6s : codeB Try.prog E ⟨f, 19, b, ro⟩ n39_6 st = plainS (runOps Try.prog E b q39_6 (ops [true, true, false, false] Try.f39) st) := GE.region_step (id := 2) (GE.reg_of (by kernel_rfl)) (by kernel_rfl)
theorem n39_11s : codeB Try.prog E ⟨f, 19, b, ro⟩ n39_11 st = plainS (runOps Try.prog E b q39_11 (ops [true, true, false, true, false, false, false, false] Try.f39) st) := GE.region_step (id := 3) (GE.reg_of (by kernel_rfl)) (by kernel_rfl)
theorem n39_13s : codeB Try.prog E cx n39_13 st = some (.normal, st) := GE.skip_step (by kernel_rfl)
theorem n39_14s : codeB Try.prog LL ⟨39, 19, b, ro⟩ n39_14 st = normS b ⟨[3], [⟨3, 0, 1, true⟩]⟩ (.exit 0) st := GE.exit_step (by kernel_rfl) (by kernel_rfl)
theorem n39_12s : codeB Try.prog E cx n39_12 st = condS (codeB Try.prog E cx n39_13) (codeB Try.prog E cx n39_14) (lk st.σ 6) st := GE.cond_step (c := .tmp 6) (by kernel_rfl)
theorem n39_10s : codeB Try.prog E cx n39_10 st = thenS (codeB Try.prog E cx n39_11 st) (codeB Try.prog E cx n39_12) := GE.seq_step (by kernel_rfl)
theorem n39_18s : codeB Try.prog E ⟨f, 19, b, ro⟩ n39_18 st = plainS (runOps Try.prog E b q39_18 (ops [true, true, false, true, false, false, true, false, false, false] Try.f39) st) := GE.region_step (id := 5) (GE.reg_of (by kernel_rfl)) (by kernel_rfl)
theorem n39_20s : codeB Try.prog E ⟨f, 19, b, ro⟩ n39_20 st = plainS (runOps Try.prog E b q39_20 (ops [true, true, false, true, false, false, true, false, false, true, false] Try.f39) st) := GE.region_step (id := 6) (GE.reg_of (by kernel_rfl)) (by kernel_rfl)
theorem n39_21s : codeB Try.prog E cx n39_21 st = some (.normal, st) := GE.skip_step (by kernel_rfl)
theorem n39_19s : codeB Try.prog E cx n39_19 st = condS (codeB Try.prog E cx n39_20) (codeB Try.prog E cx n39_21) (lk st.σ 13) st := GE.cond_step (c := .tmp 13) (by kernel_rfl)
theorem n39_17s : codeB Try.prog E cx n39_17 st = thenS (codeB Try.prog E cx n39_18 st) (codeB Try.prog E cx n39_19) := GE.seq_step (by kernel_rfl)
theorem n39_16s : codeB Try.prog E cx n39_16 st = blockS 1 (codeB Try.prog E cx n39_17 st) st := GE.block_step (by kernel_rfl)
theorem n39_22s : codeB Try.prog E ⟨f, 19, b, ro⟩ n39_22 st = plainS (runOps Try.prog E b q39_22 (ops [true, true, false, true, false, false, true, true] Try.f39) st) := GE.region_step (id := 4) (GE.reg_of (by kernel_rfl)) (by kernel_rfl)
theorem n39_15s : codeB Try.prog E cx n39_15 st = thenS (codeB Try.prog E cx n39_16 st) (codeB Try.prog E cx n39_22) := GE.seq_step (by kernel_rfl)
theorem n39_9s : codeB Try.prog E cx n39_9 st = thenS (codeB Try.prog E cx n39_10 st) (codeB Try.prog E cx n39_15) := GE.seq_step (by kernel_rfl)
theorem n39_8k : LL.kp (⟨39, 19, b, ro⟩ : Cx).fn (4 * rid n39_9 + 3) = some ⟨[0, 3, 4], [⟨3, 0, 1, true⟩]⟩ := by kernel_rfl
theorem n39_8s : codeB Try.prog LL ⟨39, 19, b, ro⟩ n39_8 st = headS b ⟨[0, 3, 4], [⟨3, 0, 1, true⟩]⟩ st (lpB Try.prog LL ⟨39, 19, b, ro⟩ n39_8 n39_9) := GE.lpB_step (by kernel_rfl) (n39_8k b ro)
theorem n39_8g : LL.code ⟨39, 19, b, ro⟩ n39_8 st = headS b ⟨[0, 3, 4], [⟨3, 0, 1, true⟩]⟩ st (lpB Try.prog LL ⟨39, 19, b, ro⟩ n39_8 n39_9) := GE.lpB_again (by kernel_rfl) (n39_8k b ro)
theorem n39_7s : codeB Try.prog E cx n39_7 st = blockS 0 (codeB Try.prog E cx n39_8 st) st := GE.block_step (by kernel_rfl)
theorem n39_5s : codeB Try.prog E cx n39_5 st = thenS (codeB Try.prog E cx n39_6 st) (codeB Try.prog E cx n39_7) := GE.seq_step (by kernel_rfl)
theorem n39_24s : codeB Try.prog E ⟨f, 19, b, ro⟩ n39_24 st = plainS (runOps Try.prog E b q39_24 (ops [true, true, true, false] Try.f39) st) := GE.region_step (id := 7) (GE.reg_of (by kernel_rfl)) (by kernel_rfl)
theorem n39_25s : codeB Try.prog LL ⟨39, 19, b, ro⟩ n39_25 st = normS b ⟨[2], [⟨2, 0, 1, true⟩]⟩ .ret st := GE.ret_step (by kernel_rfl) (by kernel_rfl)
theorem n39_23s : codeB Try.prog E cx n39_23 st = thenS (codeB Try.prog E cx n39_24 st) (codeB Try.prog E cx n39_25) := GE.seq_step (by kernel_rfl)
theorem n39_4s : codeB Try.prog E cx n39_4 st = thenS (codeB Try.prog E cx n39_5 st) (codeB Try.prog E cx n39_23) := GE.seq_step (by kernel_rfl)
theorem n39_2s : codeB Try.prog E cx n39_2 st = thenS (codeB Try.prog E cx n39_3 st) (codeB Try.prog E cx n39_4) := GE.seq_step (by kernel_rfl)
theorem n39_0s : codeB Try.prog E cx n39_0 st = thenS (codeB Try.prog E cx n39_1 st) (codeB Try.prog E cx n39_2) := GE.seq_step (by kernel_rfl)
noncomputable def n40_0 : Code := bodyOf Try.f40
noncomputable def n40_1 : Code := cl n40_0
noncomputable def q40_1 : List Oper := opsOf n40_1
noncomputable def n40_2 : Code := cr n40_0
noncomputable def n40_3 : Code := cl n40_2
noncomputable def n40_4 : Code := cl n40_3
noncomputable def q40_4 : List Oper := opsOf n40_4
noncomputable def n40_5 : Code := cr n40_3
noncomputable def n40_6 : Code := cl n40_5
noncomputable def n40_7 : Code := cl n40_6
noncomputable def n40_8 : Code := cl n40_7
noncomputable def q40_8 : List Oper := opsOf n40_8
noncomputable def n40_9 : Code := cr n40_7
noncomputable def n40_10 : Code := cl n40_9
noncomputable def n40_11 : Code := cl n40_10
noncomputable def n40_12 : Code := cr n40_10
noncomputable def n40_13 : Code := cr n40_9
noncomputable def n40_14 : Code := cl n40_13
noncomputable def n40_15 : Code := cl n40_14
noncomputable def n40_16 : Code := cl n40_15
noncomputable def q40_16 : List Oper := opsOf n40_16
noncomputable def n40_17 : Code := cr n40_15
noncomputable def n40_18 : Code := cl n40_17
noncomputable def q40_18 : List Oper := opsOf n40_18
noncomputable def n40_19 : Code := cr n40_17
noncomputable def n40_20 : Code := cl n40_19
noncomputable def n40_21 : Code := cl n40_20
noncomputable def q40_21 : List Oper := opsOf n40_21
noncomputable def n40_22 : Code := cr n40_20
noncomputable def n40_23 : Code := cr n40_19
noncomputable def n40_24 : Code := cr n40_13
noncomputable def q40_24 : List Oper := opsOf n40_24
noncomputable def n40_25 : Code := cr n40_2
noncomputable def n40_26 : Code := cl n40_25
noncomputable def q40_26 : List Oper := opsOf n40_26
noncomputable def n40_27 : Code := cr n40_25
theorem body40 : Try.f40.body = some n40_0 := by kernel_rfl
theorem run40 (E : Ev) (args : List Value) (h : List Blk) (hl : args.length ≤ 11) : runB Try.prog E 40 args h = endS Try.prog [.tmp 2] h.length (codeB Try.prog E ⟨40, 11, h.length, none⟩ n40_0 ⟨enumT 0 args, h, []⟩) := GE.run_step Try.func40 body40 (by kernel_rfl) (by decide) (by kernel_rfl) hl
theorem n40_1s : codeB Try.prog E ⟨f, 11, b, ro⟩ n40_1 st = plainS (runOps Try.prog E b q40_1 (ops [false] Try.f40) st) := GE.region_step (id := 0) (GE.reg_of (by kernel_rfl)) (by kernel_rfl)
theorem n40_4s : codeB Try.prog E ⟨f, 11, b, ro⟩ n40_4 st = plainS (runOps Try.prog E b q40_4 (ops [true, false, false] Try.f40) st) := GE.region_step (id := 1) (GE.reg_of (by kernel_rfl)) (by kernel_rfl)
theorem n40_8s : codeB Try.prog E ⟨f, 11, b, ro⟩ n40_8 st = plainS (runOps Try.prog E b q40_8 (ops [true, false, true, false, false, false] Try.f40) st) := GE.region_step (id := 2) (GE.reg_of (by kernel_rfl)) (by kernel_rfl)
theorem n40_11s : codeB Try.prog E cx n40_11 st = some (.normal, st) := GE.skip_step (by kernel_rfl)
theorem n40_12s : codeB Try.prog LL ⟨40, 11, b, ro⟩ n40_12 st = normS b ⟨[], []⟩ (.exit 0) st := GE.exit_step (by kernel_rfl) (by kernel_rfl)
theorem n40_10s : codeB Try.prog E cx n40_10 st = condS (codeB Try.prog E cx n40_11) (codeB Try.prog E cx n40_12) (lk st.σ 7) st := GE.cond_step (c := .tmp 7) (by kernel_rfl)
theorem n40_16s : codeB Try.prog E ⟨f, 11, b, ro⟩ n40_16 st = plainS (runOps Try.prog E b q40_16 (ops [true, false, true, false, false, true, true, false, false, false] Try.f40) st) := GE.region_step (id := 3) (GE.reg_of (by kernel_rfl)) (by kernel_rfl)
theorem n40_18s : codeB Try.prog E ⟨f, 11, b, ro⟩ n40_18 st = plainS (runOps Try.prog E b q40_18 (ops [true, false, true, false, false, true, true, false, false, true, false] Try.f40) st) := GE.region_step (id := 4) (GE.reg_of (by kernel_rfl)) (by kernel_rfl)
theorem n40_21s : codeB Try.prog E ⟨f, 11, b, ro⟩ n40_21 st = plainS (runOps Try.prog E b q40_21 (ops [true, false, true, false, false, true, true, false, false, true, true, false, false] Try.f40) st) := GE.region_step (id := 5) (GE.reg_of (by kernel_rfl)) (by kernel_rfl)
theorem n40_22s : codeB Try.prog LL ⟨40, 11, b, ro⟩ n40_22 st = normS b ⟨[2], []⟩ .ret st := GE.ret_step (by kernel_rfl) (by kernel_rfl)
theorem n40_20s : codeB Try.prog E cx n40_20 st = thenS (codeB Try.prog E cx n40_21 st) (codeB Try.prog E cx n40_22) := GE.seq_step (by kernel_rfl)
theorem n40_23s : codeB Try.prog E cx n40_23 st = some (.normal, st) := GE.skip_step (by kernel_rfl)
theorem n40_19s : codeB Try.prog E cx n40_19 st = condS (codeB Try.prog E cx n40_20) (codeB Try.prog E cx n40_23) (lk st.σ 9) st := GE.cond_step (c := .tmp 9) (by kernel_rfl)
theorem n40_17s : codeB Try.prog E cx n40_17 st = thenS (codeB Try.prog E cx n40_18 st) (codeB Try.prog E cx n40_19) := GE.seq_step (by kernel_rfl)
theorem n40_15s : codeB Try.prog E cx n40_15 st = thenS (codeB Try.prog E cx n40_16 st) (codeB Try.prog E cx n40_17) := GE.seq_step (by kernel_rfl)
theorem n40_14s : codeB Try.prog E cx n40_14 st = blockS 1 (codeB Try.prog E cx n40_15 st) st := GE.block_step (by kernel_rfl)
theorem n40_24s : codeB Try.prog E ⟨f, 11, b, ro⟩ n40_24 st = plainS (runOps Try.prog E b q40_24 (ops [true, false, true, false, false, true, true, true] Try.f40) st) := GE.region_step (id := 6) (GE.reg_of (by kernel_rfl)) (by kernel_rfl)
theorem n40_13s : codeB Try.prog E cx n40_13 st = thenS (codeB Try.prog E cx n40_14 st) (codeB Try.prog E cx n40_24) := GE.seq_step (by kernel_rfl)
theorem n40_9s : codeB Try.prog E cx n40_9 st = thenS (codeB Try.prog E cx n40_10 st) (codeB Try.prog E cx n40_13) := GE.seq_step (by kernel_rfl)
theorem n40_7s : codeB Try.prog E cx n40_7 st = thenS (codeB Try.prog E cx n40_8 st) (codeB Try.prog E cx n40_9) := GE.seq_step (by kernel_rfl)
theorem n40_6k : LL.kp (⟨40, 11, b, ro⟩ : Cx).fn (4 * rid n40_7 + 3) = some ⟨[5, 6], []⟩ := by kernel_rfl
theorem n40_6s : codeB Try.prog LL ⟨40, 11, b, ro⟩ n40_6 st = headS b ⟨[5, 6], []⟩ st (lpB Try.prog LL ⟨40, 11, b, ro⟩ n40_6 n40_7) := GE.lpB_step (by kernel_rfl) (n40_6k b ro)
theorem n40_6g : LL.code ⟨40, 11, b, ro⟩ n40_6 st = headS b ⟨[5, 6], []⟩ st (lpB Try.prog LL ⟨40, 11, b, ro⟩ n40_6 n40_7) := GE.lpB_again (by kernel_rfl) (n40_6k b ro)
theorem n40_5s : codeB Try.prog E cx n40_5 st = blockS 0 (codeB Try.prog E cx n40_6 st) st := GE.block_step (by kernel_rfl)
theorem n40_3s : codeB Try.prog E cx n40_3 st = thenS (codeB Try.prog E cx n40_4 st) (codeB Try.prog E cx n40_5) := GE.seq_step (by kernel_rfl)
theorem n40_26s : codeB Try.prog E ⟨f, 11, b, ro⟩ n40_26 st = plainS (runOps Try.prog E b q40_26 (ops [true, true, false] Try.f40) st) := GE.region_step (id := 7) (GE.reg_of (by kernel_rfl)) (by kernel_rfl)
theorem n40_27s : codeB Try.prog LL ⟨40, 11, b, ro⟩ n40_27 st = normS b ⟨[2], []⟩ .ret st := GE.ret_step (by kernel_rfl) (by kernel_rfl)
theorem n40_25s : codeB Try.prog E cx n40_25 st = thenS (codeB Try.prog E cx n40_26 st) (codeB Try.prog E cx n40_27) := GE.seq_step (by kernel_rfl)
theorem n40_2s : codeB Try.prog E cx n40_2 st = thenS (codeB Try.prog E cx n40_3 st) (codeB Try.prog E cx n40_25) := GE.seq_step (by kernel_rfl)
theorem n40_0s : codeB Try.prog E cx n40_0 st = thenS (codeB Try.prog E cx n40_1 st) (codeB Try.prog E cx n40_2) := GE.seq_step (by kernel_rfl)
noncomputable def n41_0 : Code := bodyOf Try.f41
noncomputable def n41_1 : Code := cl n41_0
noncomputable def q41_1 : List Oper := opsOf n41_1
noncomputable def n41_2 : Code := cr n41_0
noncomputable def n41_3 : Code := cl n41_2
noncomputable def q41_3 : List Oper := opsOf n41_3
noncomputable def n41_4 : Code := cr n41_2
noncomputable def n41_5 : Code := cl n41_4
noncomputable def n41_6 : Code := cl n41_5
noncomputable def q41_6 : List Oper := opsOf n41_6
noncomputable def n41_7 : Code := cr n41_5
noncomputable def n41_8 : Code := cl n41_7
noncomputable def n41_9 : Code := cl n41_8
noncomputable def n41_10 : Code := cl n41_9
noncomputable def q41_10 : List Oper := opsOf n41_10
noncomputable def n41_11 : Code := cr n41_9
noncomputable def n41_12 : Code := cl n41_11
noncomputable def n41_13 : Code := cl n41_12
noncomputable def n41_14 : Code := cr n41_12
noncomputable def n41_15 : Code := cr n41_11
noncomputable def n41_16 : Code := cl n41_15
noncomputable def n41_17 : Code := cl n41_16
noncomputable def n41_18 : Code := cl n41_17
noncomputable def q41_18 : List Oper := opsOf n41_18
noncomputable def n41_19 : Code := cr n41_17
noncomputable def n41_20 : Code := cl n41_19
noncomputable def q41_20 : List Oper := opsOf n41_20
noncomputable def n41_21 : Code := cr n41_19
noncomputable def n41_22 : Code := cl n41_21
noncomputable def n41_23 : Code := cl n41_22
noncomputable def n41_24 : Code := cl n41_23
noncomputable def q41_24 : List Oper := opsOf n41_24
noncomputable def n41_25 : Code := cr n41_23
noncomputable def n41_26 : Code := cl n41_25
noncomputable def n41_27 : Code := cl n41_26
noncomputable def n41_28 : Code := cr n41_26
noncomputable def n41_29 : Code := cr n41_25
noncomputable def n41_30 : Code := cl n41_29
noncomputable def n41_31 : Code := cl n41_30
noncomputable def n41_32 : Code := cl n41_31
noncomputable def q41_32 : List Oper := opsOf n41_32
noncomputable def n41_33 : Code := cr n41_31
noncomputable def n41_34 : Code := cl n41_33
noncomputable def q41_34 : List Oper := opsOf n41_34
noncomputable def n41_35 : Code := cr n41_33
noncomputable def n41_36 : Code := cl n41_35
noncomputable def q41_36 : List Oper := opsOf n41_36
noncomputable def n41_37 : Code := cr n41_35
noncomputable def n41_38 : Code := cl n41_37
noncomputable def n41_39 : Code := cl n41_38
noncomputable def n41_40 : Code := cl n41_39
noncomputable def q41_40 : List Oper := opsOf n41_40
noncomputable def n41_41 : Code := cr n41_39
noncomputable def n41_42 : Code := cl n41_41
noncomputable def n41_43 : Code := cl n41_42
noncomputable def n41_44 : Code := cr n41_42
noncomputable def n41_45 : Code := cr n41_41
noncomputable def n41_46 : Code := cl n41_45
noncomputable def n41_47 : Code := cl n41_46
noncomputable def n41_48 : Code := cl n41_47
noncomputable def q41_48 : List Oper := opsOf n41_48
noncomputable def n41_49 : Code := cr n41_47
noncomputable def n41_50 : Code := cl n41_49
noncomputable def q41_50 : List Oper := opsOf n41_50
noncomputable def n41_51 : Code := cr n41_49
noncomputable def n41_52 : Code := cl n41_51
noncomputable def q41_52 : List Oper := opsOf n41_52
noncomputable def n41_53 : Code := cr n41_51
noncomputable def n41_54 : Code := cr n41_45
noncomputable def q41_54 : List Oper := opsOf n41_54
noncomputable def n41_55 : Code := cr n41_29
noncomputable def q41_55 : List Oper := opsOf n41_55
noncomputable def n41_56 : Code := cr n41_15
noncomputable def q41_56 : List Oper := opsOf n41_56
noncomputable def n41_57 : Code := cr n41_4
noncomputable def n41_58 : Code := cl n41_57
noncomputable def n41_59 : Code := cl n41_58
noncomputable def q41_59 : List Oper := opsOf n41_59
noncomputable def n41_60 : Code := cr n41_58
noncomputable def n41_61 : Code := cl n41_60
noncomputable def n41_62 : Code := cl n41_61
noncomputable def n41_63 : Code := cl n41_62
noncomputable def n41_64 : Code := cl n41_63
noncomputable def q41_64 : List Oper := opsOf n41_64
noncomputable def n41_65 : Code := cr n41_63
noncomputable def n41_66 : Code := cl n41_65
noncomputable def n41_67 : Code := cr n41_65
noncomputable def n41_68 : Code := cr n41_62
noncomputable def n41_69 : Code := cl n41_68
noncomputable def n41_70 : Code := cl n41_69
noncomputable def q41_70 : List Oper := opsOf n41_70
noncomputable def n41_71 : Code := cr n41_68
noncomputable def q41_71 : List Oper := opsOf n41_71
noncomputable def n41_72 : Code := cr n41_57
noncomputable def n41_73 : Code := cl n41_72
noncomputable def n41_74 : Code := cl n41_73
noncomputable def q41_74 : List Oper := opsOf n41_74
noncomputable def n41_75 : Code := cr n41_73
noncomputable def n41_76 : Code := cl n41_75
noncomputable def n41_77 : Code := cl n41_76
noncomputable def n41_78 : Code := cl n41_77
noncomputable def n41_79 : Code := cl n41_78
noncomputable def q41_79 : List Oper := opsOf n41_79
noncomputable def n41_80 : Code := cr n41_78
noncomputable def n41_81 : Code := cl n41_80
noncomputable def n41_82 : Code := cr n41_80
noncomputable def n41_83 : Code := cr n41_77
noncomputable def n41_84 : Code := cl n41_83
noncomputable def n41_85 : Code := cl n41_84
noncomputable def q41_85 : List Oper := opsOf n41_85
noncomputable def n41_86 : Code := cr n41_83
noncomputable def q41_86 : List Oper := opsOf n41_86
noncomputable def n41_87 : Code := cr n41_72
noncomputable def n41_88 : Code := cl n41_87
noncomputable def q41_88 : List Oper := opsOf n41_88
noncomputable def n41_89 : Code := cr n41_87
theorem body41 : Try.f41.body = some n41_0 := by kernel_rfl
theorem run41 (E : Ev) (args : List Value) (h : List Blk) (hl : args.length ≤ 96) : runB Try.prog E 41 args h = endS Try.prog [.cell 4 80] h.length (codeB Try.prog E ⟨41, 96, h.length, none⟩ n41_0 ⟨enumT 0 args, h, []⟩) := GE.run_step Try.func41 body41 (by kernel_rfl) (by decide) (by kernel_rfl) hl
theorem n41_1s : codeB Try.prog E ⟨f, 96, b, ro⟩ n41_1 st = plainS (runOps Try.prog E b q41_1 (ops [false] Try.f41) st) := GE.region_step (id := 0) (GE.reg_of (by kernel_rfl)) (by kernel_rfl)
theorem n41_3s : codeB Try.prog E ⟨f, 96, b, ro⟩ n41_3 st = plainS (runOps Try.prog E b q41_3 (ops [true, false] Try.f41) st) := GE.region_step (id := 1) (GE.reg_of (by kernel_rfl)) (by kernel_rfl)
theorem n41_6s : codeB Try.prog E ⟨f, 96, b, ro⟩ n41_6 st = plainS (runOps Try.prog E b q41_6 (ops [true, true, false, false] Try.f41) st) := GE.region_step (id := 2) (GE.reg_of (by kernel_rfl)) (by kernel_rfl)
theorem n41_10s : codeB Try.prog E ⟨f, 96, b, ro⟩ n41_10 st = plainS (runOps Try.prog E b q41_10 (ops [true, true, false, true, false, false, false] Try.f41) st) := GE.region_step (id := 3) (GE.reg_of (by kernel_rfl)) (by kernel_rfl)
theorem n41_13s : codeB Try.prog E cx n41_13 st = some (.normal, st) := GE.skip_step (by kernel_rfl)
theorem n41_14s : codeB Try.prog LL ⟨41, 96, b, ro⟩ n41_14 st = normS b ⟨[1, 2, 4, 5], [⟨2, 2, 3, true⟩]⟩ (.exit 0) st := GE.exit_step (by kernel_rfl) (by kernel_rfl)
theorem n41_12s : codeB Try.prog E cx n41_12 st = condS (codeB Try.prog E cx n41_13) (codeB Try.prog E cx n41_14) (lk st.σ 13) st := GE.cond_step (c := .tmp 13) (by kernel_rfl)
theorem n41_18s : codeB Try.prog E ⟨f, 96, b, ro⟩ n41_18 st = plainS (runOps Try.prog E b q41_18 (ops [true, true, false, true, false, false, true, true, false, false, false] Try.f41) st) := GE.region_step (id := 4) (GE.reg_of (by kernel_rfl)) (by kernel_rfl)
theorem n41_20s : codeB Try.prog E ⟨f, 96, b, ro⟩ n41_20 st = plainS (runOps Try.prog E b q41_20 (ops [true, true, false, true, false, false, true, true, false, false, true, false] Try.f41) st) := GE.region_step (id := 5) (GE.reg_of (by kernel_rfl)) (by kernel_rfl)
theorem n41_24s : codeB Try.prog E ⟨f, 96, b, ro⟩ n41_24 st = plainS (runOps Try.prog E b q41_24 (ops [true, true, false, true, false, false, true, true, false, false, true, true, false, false, false] Try.f41) st) := GE.region_step (id := 6) (GE.reg_of (by kernel_rfl)) (by kernel_rfl)
theorem n41_27s : codeB Try.prog E cx n41_27 st = some (.normal, st) := GE.skip_step (by kernel_rfl)
theorem n41_28s : codeB Try.prog LL ⟨41, 96, b, ro⟩ n41_28 st = normS b ⟨[1, 2, 4, 5, 12], [⟨2, 2, 3, true⟩]⟩ (.exit 2) st := GE.exit_step (by kernel_rfl) (by kernel_rfl)
theorem n41_26s : codeB Try.prog E cx n41_26 st = condS (codeB Try.prog E cx n41_27) (codeB Try.prog E cx n41_28) (lk st.σ 16) st := GE.cond_step (c := .tmp 16) (by kernel_rfl)
theorem n41_32s : codeB Try.prog E ⟨f, 96, b, ro⟩ n41_32 st = plainS (runOps Try.prog E b q41_32 (ops [true, true, false, true, false, false, true, true, false, false, true, true, false, false, true, true, false, false, false] Try.f41) st) := GE.region_step (id := 7) (GE.reg_of (by kernel_rfl)) (by kernel_rfl)
theorem n41_34s : codeB Try.prog E ⟨f, 96, b, ro⟩ n41_34 st = plainS (runOps Try.prog E b q41_34 (ops [true, true, false, true, false, false, true, true, false, false, true, true, false, false, true, true, false, false, true, false] Try.f41) st) := GE.region_step (id := 8) (GE.reg_of (by kernel_rfl)) (by kernel_rfl)
theorem n41_36s : codeB Try.prog E ⟨f, 96, b, ro⟩ n41_36 st = plainS (runOps Try.prog E b q41_36 (ops [true, true, false, true, false, false, true, true, false, false, true, true, false, false, true, true, false, false, true, true, false] Try.f41) st) := GE.region_step (id := 9) (GE.reg_of (by kernel_rfl)) (by kernel_rfl)
theorem n41_40s : codeB Try.prog E ⟨f, 96, b, ro⟩ n41_40 st = plainS (runOps Try.prog E b q41_40 (ops [true, true, false, true, false, false, true, true, false, false, true, true, false, false, true, true, false, false, true, true, true, false, false, false] Try.f41) st) := GE.region_step (id := 10) (GE.reg_of (by kernel_rfl)) (by kernel_rfl)
theorem n41_43s : codeB Try.prog E cx n41_43 st = some (.normal, st) := GE.skip_step (by kernel_rfl)
theorem n41_44s : codeB Try.prog LL ⟨41, 96, b, ro⟩ n41_44 st = normS b ⟨[6, 15, 1, 2, 4, 5, 12], [⟨2, 2, 3, true⟩]⟩ (.exit 4) st := GE.exit_step (by kernel_rfl) (by kernel_rfl)
theorem n41_42s : codeB Try.prog E cx n41_42 st = condS (codeB Try.prog E cx n41_43) (codeB Try.prog E cx n41_44) (lk st.σ 26) st := GE.cond_step (c := .tmp 26) (by kernel_rfl)
theorem n41_48s : codeB Try.prog E ⟨f, 96, b, ro⟩ n41_48 st = plainS (runOps Try.prog E b q41_48 (ops [true, true, false, true, false, false, true, true, false, false, true, true, false, false, true, true, false, false, true, true, true, false, false, true, true, false, false, false] Try.f41) st) := GE.region_step (id := 11) (GE.reg_of (by kernel_rfl)) (by kernel_rfl)
theorem q41_50g4 : gd q41_50 4 = some 33 := by kernel_rfl
theorem q41_50g11 : gd q41_50 11 = some 40 := by kernel_rfl
theorem n41_50s : codeB Try.prog E ⟨f, 96, b, ro⟩ n41_50 st = plainS (runOps Try.prog E b q41_50 (ops [true, true, false, true, false, false, true, true, false, false, true, true, false, false, true, true, false, false, true, true, true, false, false, true, true, false, false, true, false] Try.f41) st) := GE.region_step (id := 12) (GE.reg_of (by kernel_rfl)) (by kernel_rfl)
theorem n41_52s : codeB Try.prog E ⟨f, 96, b, ro⟩ n41_52 st = plainS (runOps Try.prog E b q41_52 (ops [true, true, false, true, false, false, true, true, false, false, true, true, false, false, true, true, false, false, true, true, true, false, false, true, true, false, false, true, true, false] Try.f41) st) := GE.region_step (id := 13) (GE.reg_of (by kernel_rfl)) (by kernel_rfl)
theorem n41_53s : codeB Try.prog E cx n41_53 st = some (.normal, st) := GE.skip_step (by kernel_rfl)
theorem n41_51s : codeB Try.prog E cx n41_51 st = condS (codeB Try.prog E cx n41_52) (codeB Try.prog E cx n41_53) (lk st.σ 48) st := GE.cond_step (c := .tmp 48) (by kernel_rfl)
theorem n41_49s : codeB Try.prog E cx n41_49 st = thenS (codeB Try.prog E cx n41_50 st) (codeB Try.prog E cx n41_51) := GE.seq_step (by kernel_rfl)
theorem n41_47s : codeB Try.prog E cx n41_47 st = thenS (codeB Try.prog E cx n41_48 st) (codeB Try.prog E cx n41_49) := GE.seq_step (by kernel_rfl)
theorem n41_46s : codeB Try.prog E cx n41_46 st = blockS 5 (codeB Try.prog E cx n41_47 st) st := GE.block_step (by kernel_rfl)
theorem n41_54s : codeB Try.prog E ⟨f, 96, b, ro⟩ n41_54 st = plainS (runOps Try.prog E b q41_54 (ops [true, true, false, true, false, false, true, true, false, false, true, true, false, false, true, true, false, false, true, true, true, false, false, true, true, true] Try.f41) st) := GE.region_step (id := 14) (GE.reg_of (by kernel_rfl)) (by kernel_rfl)
theorem n41_45s : codeB Try.prog E cx n41_45 st = thenS (codeB Try.prog E cx n41_46 st) (codeB Try.prog E cx n41_54) := GE.seq_step (by kernel_rfl)
theorem n41_41s : codeB Try.prog E cx n41_41 st = thenS (codeB Try.prog E cx n41_42 st) (codeB Try.prog E cx n41_45) := GE.seq_step (by kernel_rfl)
theorem n41_39s : codeB Try.prog E cx n41_39 st = thenS (codeB Try.prog E cx n41_40 st) (codeB Try.prog E cx n41_41) := GE.seq_step (by kernel_rfl)
theorem n41_38k : LL.kp (⟨41, 96, b, ro⟩ : Cx).fn (4 * rid n41_39 + 3) = some ⟨[7, 23, 24, 25, 6, 15, 1, 2, 4, 5, 12], [⟨23, 0, 3, true⟩, ⟨2, 2, 3, true⟩]⟩ := by kernel_rfl
theorem n41_38s : codeB Try.prog LL ⟨41, 96, b, ro⟩ n41_38 st = headS b ⟨[7, 23, 24, 25, 6, 15, 1, 2, 4, 5, 12], [⟨23, 0, 3, true⟩, ⟨2, 2, 3, true⟩]⟩ st (lpB Try.prog LL ⟨41, 96, b, ro⟩ n41_38 n41_39) := GE.lpB_step (by kernel_rfl) (n41_38k b ro)
theorem n41_38g : LL.code ⟨41, 96, b, ro⟩ n41_38 st = headS b ⟨[7, 23, 24, 25, 6, 15, 1, 2, 4, 5, 12], [⟨23, 0, 3, true⟩, ⟨2, 2, 3, true⟩]⟩ st (lpB Try.prog LL ⟨41, 96, b, ro⟩ n41_38 n41_39) := GE.lpB_again (by kernel_rfl) (n41_38k b ro)
theorem n41_37s : codeB Try.prog E cx n41_37 st = blockS 4 (codeB Try.prog E cx n41_38 st) st := GE.block_step (by kernel_rfl)
theorem n41_35s : codeB Try.prog E cx n41_35 st = thenS (codeB Try.prog E cx n41_36 st) (codeB Try.prog E cx n41_37) := GE.seq_step (by kernel_rfl)
theorem n41_33s : codeB Try.prog E cx n41_33 st = thenS (codeB Try.prog E cx n41_34 st) (codeB Try.prog E cx n41_35) := GE.seq_step (by kernel_rfl)
theorem n41_31s : codeB Try.prog E cx n41_31 st = thenS (codeB Try.prog E cx n41_32 st) (codeB Try.prog E cx n41_33) := GE.seq_step (by kernel_rfl)
theorem n41_30s : codeB Try.prog E cx n41_30 st = blockS 3 (codeB Try.prog E cx n41_31 st) st := GE.block_step (by kernel_rfl)
theorem n41_55s : codeB Try.prog E ⟨f, 96, b, ro⟩ n41_55 st = plainS (runOps Try.prog E b q41_55 (ops [true, true, false, true, false, false, true, true, false, false, true, true, false, false, true, true, true] Try.f41) st) := GE.region_step (id := 15) (GE.reg_of (by kernel_rfl)) (by kernel_rfl)
theorem n41_29s : codeB Try.prog E cx n41_29 st = thenS (codeB Try.prog E cx n41_30 st) (codeB Try.prog E cx n41_55) := GE.seq_step (by kernel_rfl)
theorem n41_25s : codeB Try.prog E cx n41_25 st = thenS (codeB Try.prog E cx n41_26 st) (codeB Try.prog E cx n41_29) := GE.seq_step (by kernel_rfl)
theorem n41_23s : codeB Try.prog E cx n41_23 st = thenS (codeB Try.prog E cx n41_24 st) (codeB Try.prog E cx n41_25) := GE.seq_step (by kernel_rfl)
theorem n41_22k : LL.kp (⟨41, 96, b, ro⟩ : Cx).fn (4 * rid n41_23 + 3) = some ⟨[6, 15, 1, 2, 4, 5, 12], [⟨2, 2, 3, true⟩]⟩ := by kernel_rfl
theorem n41_22s : codeB Try.prog LL ⟨41, 96, b, ro⟩ n41_22 st = headS b ⟨[6, 15, 1, 2, 4, 5, 12], [⟨2, 2, 3, true⟩]⟩ st (lpB Try.prog LL ⟨41, 96, b, ro⟩ n41_22 n41_23) := GE.lpB_step (by kernel_rfl) (n41_22k b ro)
theorem n41_22g : LL.code ⟨41, 96, b, ro⟩ n41_22 st = headS b ⟨[6, 15, 1, 2, 4, 5, 12], [⟨2, 2, 3, true⟩]⟩ st (lpB Try.prog LL ⟨41, 96, b, ro⟩ n41_22 n41_23) := GE.lpB_again (by kernel_rfl) (n41_22k b ro)
theorem n41_21s : codeB Try.prog E cx n41_21 st = blockS 2 (codeB Try.prog E cx n41_22 st) st := GE.block_step (by kernel_rfl)
theorem n41_19s : codeB Try.prog E cx n41_19 st = thenS (codeB Try.prog E cx n41_20 st) (codeB Try.prog E cx n41_21) := GE.seq_step (by kernel_rfl)
theorem n41_17s : codeB Try.prog E cx n41_17 st = thenS (codeB Try.prog E cx n41_18 st) (codeB Try.prog E cx n41_19) := GE.seq_step (by kernel_rfl)
theorem n41_16s : codeB Try.prog E cx n41_16 st = blockS 1 (codeB Try.prog E cx n41_17 st) st := GE.block_step (by kernel_rfl)
theorem n41_56s : codeB Try.prog E ⟨f, 96, b, ro⟩ n41_56 st = plainS (runOps Try.prog E b q41_56 (ops [true, true, false, true, false, false, true, true, true] Try.f41) st) := GE.region_step (id := 16) (GE.reg_of (by kernel_rfl)) (by kernel_rfl)
theorem n41_15s : codeB Try.prog E cx n41_15 st = thenS (codeB Try.prog E cx n41_16 st) (codeB Try.prog E cx n41_56) := GE.seq_step (by kernel_rfl)
theorem n41_11s : codeB Try.prog E cx n41_11 st = thenS (codeB Try.prog E cx n41_12 st) (codeB Try.prog E cx n41_15) := GE.seq_step (by kernel_rfl)
theorem n41_9s : codeB Try.prog E cx n41_9 st = thenS (codeB Try.prog E cx n41_10 st) (codeB Try.prog E cx n41_11) := GE.seq_step (by kernel_rfl)
theorem n41_8k : LL.kp (⟨41, 96, b, ro⟩ : Cx).fn (4 * rid n41_9 + 3) = some ⟨[1, 2, 4, 5, 12], [⟨2, 2, 3, true⟩]⟩ := by kernel_rfl
theorem n41_8s : codeB Try.prog LL ⟨41, 96, b, ro⟩ n41_8 st = headS b ⟨[1, 2, 4, 5, 12], [⟨2, 2, 3, true⟩]⟩ st (lpB Try.prog LL ⟨41, 96, b, ro⟩ n41_8 n41_9) := GE.lpB_step (by kernel_rfl) (n41_8k b ro)
theorem n41_8g : LL.code ⟨41, 96, b, ro⟩ n41_8 st = headS b ⟨[1, 2, 4, 5, 12], [⟨2, 2, 3, true⟩]⟩ st (lpB Try.prog LL ⟨41, 96, b, ro⟩ n41_8 n41_9) := GE.lpB_again (by kernel_rfl) (n41_8k b ro)
theorem n41_7s : codeB Try.prog E cx n41_7 st = blockS 0 (codeB Try.prog E cx n41_8 st) st := GE.block_step (by kernel_rfl)
theorem n41_5s : codeB Try.prog E cx n41_5 st = thenS (codeB Try.prog E cx n41_6 st) (codeB Try.prog E cx n41_7) := GE.seq_step (by kernel_rfl)
theorem n41_59s : codeB Try.prog E ⟨f, 96, b, ro⟩ n41_59 st = plainS (runOps Try.prog E b q41_59 (ops [true, true, true, false, false] Try.f41) st) := GE.region_step (id := 17) (GE.reg_of (by kernel_rfl)) (by kernel_rfl)
theorem n41_64s : codeB Try.prog E ⟨f, 96, b, ro⟩ n41_64 st = plainS (runOps Try.prog E b q41_64 (ops [true, true, true, false, true, false, false, false, false] Try.f41) st) := GE.region_step (id := 18) (GE.reg_of (by kernel_rfl)) (by kernel_rfl)
theorem n41_66s : codeB Try.prog E cx n41_66 st = some (.normal, st) := GE.skip_step (by kernel_rfl)
theorem n41_67s : codeB Try.prog LL ⟨41, 96, b, ro⟩ n41_67 st = normS b ⟨[1, 2, 4, 5], [⟨2, 2, 3, true⟩]⟩ (.exit 6) st := GE.exit_step (by kernel_rfl) (by kernel_rfl)
theorem n41_65s : codeB Try.prog E cx n41_65 st = condS (codeB Try.prog E cx n41_66) (codeB Try.prog E cx n41_67) (lk st.σ 57) st := GE.cond_step (c := .tmp 57) (by kernel_rfl)
theorem n41_63s : codeB Try.prog E cx n41_63 st = thenS (codeB Try.prog E cx n41_64 st) (codeB Try.prog E cx n41_65) := GE.seq_step (by kernel_rfl)
theorem n41_70s : codeB Try.prog E ⟨f, 96, b, ro⟩ n41_70 st = drawS [0, 1, 3, 0, 8, 0, 32, 0, 128, 0, 0, 1024, 3584, 7680, 15872, 32767] (runOpsF Try.prog E b q41_70 (ops [true, true, true, false, true, false, false, true, false, false] Try.f41) st) := GE.draw_step (id := 20) (GE.reg_of (by kernel_rfl)) (by kernel_rfl) (by kernel_rfl) (by kernel_rfl)
theorem n41_69s : codeB Try.prog E cx n41_69 st = blockS 7 (codeB Try.prog E cx n41_70 st) st := GE.block_step (by kernel_rfl)
theorem n41_71s : codeB Try.prog E ⟨f, 96, b, ro⟩ n41_71 st = plainS (runOps Try.prog E b q41_71 (ops [true, true, true, false, true, false, false, true, true] Try.f41) st) := GE.region_step (id := 19) (GE.reg_of (by kernel_rfl)) (by kernel_rfl)
theorem n41_68s : codeB Try.prog E cx n41_68 st = thenS (codeB Try.prog E cx n41_69 st) (codeB Try.prog E cx n41_71) := GE.seq_step (by kernel_rfl)
theorem n41_62s : codeB Try.prog E cx n41_62 st = thenS (codeB Try.prog E cx n41_63 st) (codeB Try.prog E cx n41_68) := GE.seq_step (by kernel_rfl)
theorem n41_61k : LL.kp (⟨41, 96, b, ro⟩ : Cx).fn (4 * rid n41_62 + 3) = some ⟨[1, 2, 4, 5, 10], [⟨2, 2, 3, true⟩]⟩ := by kernel_rfl
theorem n41_61s : codeB Try.prog LL ⟨41, 96, b, ro⟩ n41_61 st = headS b ⟨[1, 2, 4, 5, 10], [⟨2, 2, 3, true⟩]⟩ st (lpB Try.prog LL ⟨41, 96, b, ro⟩ n41_61 n41_62) := GE.lpB_step (by kernel_rfl) (n41_61k b ro)
theorem n41_61g : LL.code ⟨41, 96, b, ro⟩ n41_61 st = headS b ⟨[1, 2, 4, 5, 10], [⟨2, 2, 3, true⟩]⟩ st (lpB Try.prog LL ⟨41, 96, b, ro⟩ n41_61 n41_62) := GE.lpB_again (by kernel_rfl) (n41_61k b ro)
theorem n41_60s : codeB Try.prog E cx n41_60 st = blockS 6 (codeB Try.prog E cx n41_61 st) st := GE.block_step (by kernel_rfl)
theorem n41_58s : codeB Try.prog E cx n41_58 st = thenS (codeB Try.prog E cx n41_59 st) (codeB Try.prog E cx n41_60) := GE.seq_step (by kernel_rfl)
theorem n41_74s : codeB Try.prog E ⟨f, 96, b, ro⟩ n41_74 st = plainS (runOps Try.prog E b q41_74 (ops [true, true, true, true, false, false] Try.f41) st) := GE.region_step (id := 21) (GE.reg_of (by kernel_rfl)) (by kernel_rfl)
theorem n41_79s : codeB Try.prog E ⟨f, 96, b, ro⟩ n41_79 st = plainS (runOps Try.prog E b q41_79 (ops [true, true, true, true, false, true, false, false, false, false] Try.f41) st) := GE.region_step (id := 22) (GE.reg_of (by kernel_rfl)) (by kernel_rfl)
theorem n41_81s : codeB Try.prog E cx n41_81 st = some (.normal, st) := GE.skip_step (by kernel_rfl)
theorem n41_82s : codeB Try.prog LL ⟨41, 96, b, ro⟩ n41_82 st = normS b ⟨[4, 5], []⟩ (.exit 8) st := GE.exit_step (by kernel_rfl) (by kernel_rfl)
theorem n41_80s : codeB Try.prog E cx n41_80 st = condS (codeB Try.prog E cx n41_81) (codeB Try.prog E cx n41_82) (lk st.σ 77) st := GE.cond_step (c := .tmp 77) (by kernel_rfl)
theorem n41_78s : codeB Try.prog E cx n41_78 st = thenS (codeB Try.prog E cx n41_79 st) (codeB Try.prog E cx n41_80) := GE.seq_step (by kernel_rfl)
theorem n41_85s : codeB Try.prog E ⟨f, 96, b, ro⟩ n41_85 st = drawS [0, 1, 3, 0, 8, 0, 32, 0, 128, 0, 0, 1536, 3584, 7680, 16383] (runOpsF Try.prog E b q41_85 (ops [true, true, true, true, false, true, false, false, true, false, false] Try.f41) st) := GE.draw_step (id := 24) (GE.reg_of (by kernel_rfl)) (by kernel_rfl) (by kernel_rfl) (by kernel_rfl)
theorem n41_84s : codeB Try.prog E cx n41_84 st = blockS 9 (codeB Try.prog E cx n41_85 st) st := GE.block_step (by kernel_rfl)
theorem n41_86s : codeB Try.prog E ⟨f, 96, b, ro⟩ n41_86 st = plainS (runOps Try.prog E b q41_86 (ops [true, true, true, true, false, true, false, false, true, true] Try.f41) st) := GE.region_step (id := 23) (GE.reg_of (by kernel_rfl)) (by kernel_rfl)
theorem n41_83s : codeB Try.prog E cx n41_83 st = thenS (codeB Try.prog E cx n41_84 st) (codeB Try.prog E cx n41_86) := GE.seq_step (by kernel_rfl)
theorem n41_77s : codeB Try.prog E cx n41_77 st = thenS (codeB Try.prog E cx n41_78 st) (codeB Try.prog E cx n41_83) := GE.seq_step (by kernel_rfl)
theorem n41_76k : LL.kp (⟨41, 96, b, ro⟩ : Cx).fn (4 * rid n41_77 + 3) = some ⟨[1, 2, 4, 5, 11], [⟨2, 2, 3, true⟩]⟩ := by kernel_rfl
theorem n41_76s : codeB Try.prog LL ⟨41, 96, b, ro⟩ n41_76 st = headS b ⟨[1, 2, 4, 5, 11], [⟨2, 2, 3, true⟩]⟩ st (lpB Try.prog LL ⟨41, 96, b, ro⟩ n41_76 n41_77) := GE.lpB_step (by kernel_rfl) (n41_76k b ro)
theorem n41_76g : LL.code ⟨41, 96, b, ro⟩ n41_76 st = headS b ⟨[1, 2, 4, 5, 11], [⟨2, 2, 3, true⟩]⟩ st (lpB Try.prog LL ⟨41, 96, b, ro⟩ n41_76 n41_77) := GE.lpB_again (by kernel_rfl) (n41_76k b ro)
theorem n41_75s : codeB Try.prog E cx n41_75 st = blockS 8 (codeB Try.prog E cx n41_76 st) st := GE.block_step (by kernel_rfl)
theorem n41_73s : codeB Try.prog E cx n41_73 st = thenS (codeB Try.prog E cx n41_74 st) (codeB Try.prog E cx n41_75) := GE.seq_step (by kernel_rfl)
theorem n41_88s : codeB Try.prog E ⟨f, 96, b, ro⟩ n41_88 st = plainS (runOps Try.prog E b q41_88 (ops [true, true, true, true, true, false] Try.f41) st) := GE.region_step (id := 25) (GE.reg_of (by kernel_rfl)) (by kernel_rfl)
theorem n41_89s : codeB Try.prog LL ⟨41, 96, b, ro⟩ n41_89 st = normS b ⟨[4], []⟩ .ret st := GE.ret_step (by kernel_rfl) (by kernel_rfl)
theorem n41_87s : codeB Try.prog E cx n41_87 st = thenS (codeB Try.prog E cx n41_88 st) (codeB Try.prog E cx n41_89) := GE.seq_step (by kernel_rfl)
theorem n41_72s : codeB Try.prog E cx n41_72 st = thenS (codeB Try.prog E cx n41_73 st) (codeB Try.prog E cx n41_87) := GE.seq_step (by kernel_rfl)
theorem n41_57s : codeB Try.prog E cx n41_57 st = thenS (codeB Try.prog E cx n41_58 st) (codeB Try.prog E cx n41_72) := GE.seq_step (by kernel_rfl)
theorem n41_4s : codeB Try.prog E cx n41_4 st = thenS (codeB Try.prog E cx n41_5 st) (codeB Try.prog E cx n41_57) := GE.seq_step (by kernel_rfl)
theorem n41_2s : codeB Try.prog E cx n41_2 st = thenS (codeB Try.prog E cx n41_3 st) (codeB Try.prog E cx n41_4) := GE.seq_step (by kernel_rfl)
theorem n41_0s : codeB Try.prog E cx n41_0 st = thenS (codeB Try.prog E cx n41_1 st) (codeB Try.prog E cx n41_2) := GE.seq_step (by kernel_rfl)
noncomputable def n42_0 : Code := bodyOf Try.f42
noncomputable def n42_1 : Code := cl n42_0
noncomputable def q42_1 : List Oper := opsOf n42_1
noncomputable def n42_2 : Code := cr n42_0
noncomputable def n42_3 : Code := cl n42_2
noncomputable def n42_4 : Code := cl n42_3
noncomputable def q42_4 : List Oper := opsOf n42_4
noncomputable def n42_5 : Code := cr n42_3
noncomputable def n42_6 : Code := cl n42_5
noncomputable def n42_7 : Code := cl n42_6
noncomputable def n42_8 : Code := cl n42_7
noncomputable def q42_8 : List Oper := opsOf n42_8
noncomputable def n42_9 : Code := cr n42_7
noncomputable def n42_10 : Code := cl n42_9
noncomputable def n42_11 : Code := cl n42_10
noncomputable def n42_12 : Code := cr n42_10
noncomputable def n42_13 : Code := cr n42_9
noncomputable def n42_14 : Code := cl n42_13
noncomputable def n42_15 : Code := cl n42_14
noncomputable def n42_16 : Code := cl n42_15
noncomputable def q42_16 : List Oper := opsOf n42_16
noncomputable def n42_17 : Code := cr n42_15
noncomputable def n42_18 : Code := cl n42_17
noncomputable def q42_18 : List Oper := opsOf n42_18
noncomputable def n42_19 : Code := cr n42_17
noncomputable def n42_20 : Code := cl n42_19
noncomputable def n42_21 : Code := cl n42_20
noncomputable def q42_21 : List Oper := opsOf n42_21
noncomputable def n42_22 : Code := cr n42_20
noncomputable def n42_23 : Code := cr n42_19
noncomputable def n42_24 : Code := cr n42_13
noncomputable def q42_24 : List Oper := opsOf n42_24
noncomputable def n42_25 : Code := cr n42_2
noncomputable def n42_26 : Code := cl n42_25
noncomputable def q42_26 : List Oper := opsOf n42_26
noncomputable def n42_27 : Code := cr n42_25
theorem body42 : Try.f42.body = some n42_0 := by kernel_rfl
theorem run42 (E : Ev) (args : List Value) (h : List Blk) (hl : args.length ≤ 27) : runB Try.prog E 42 args h = endS Try.prog [.tmp 4] h.length (codeB Try.prog E ⟨42, 27, h.length, none⟩ n42_0 ⟨enumT 0 args, h, []⟩) := GE.run_step Try.func42 body42 (by kernel_rfl) (by decide) (by kernel_rfl) hl
theorem n42_1s : codeB Try.prog E ⟨f, 27, b, ro⟩ n42_1 st = plainS (runOps Try.prog E b q42_1 (ops [false] Try.f42) st) := GE.region_step (id := 0) (GE.reg_of (by kernel_rfl)) (by kernel_rfl)
theorem n42_4s : codeB Try.prog E ⟨f, 27, b, ro⟩ n42_4 st = plainS (runOps Try.prog E b q42_4 (ops [true, false, false] Try.f42) st) := GE.region_step (id := 1) (GE.reg_of (by kernel_rfl)) (by kernel_rfl)
theorem n42_8s : codeB Try.prog E ⟨f, 27, b, ro⟩ n42_8 st = plainS (runOps Try.prog E b q42_8 (ops [true, false, true, false, false, false] Try.f42) st) := GE.region_step (id := 2) (GE.reg_of (by kernel_rfl)) (by kernel_rfl)
theorem n42_11s : codeB Try.prog E cx n42_11 st = some (.normal, st) := GE.skip_step (by kernel_rfl)
theorem n42_12s : codeB Try.prog LL ⟨42, 27, b, ro⟩ n42_12 st = normS b ⟨[], []⟩ (.exit 0) st := GE.exit_step (by kernel_rfl) (by kernel_rfl)
theorem n42_10s : codeB Try.prog E cx n42_10 st = condS (codeB Try.prog E cx n42_11) (codeB Try.prog E cx n42_12) (lk st.σ 10) st := GE.cond_step (c := .tmp 10) (by kernel_rfl)
theorem n42_16s : codeB Try.prog E ⟨f, 27, b, ro⟩ n42_16 st = plainS (runOps Try.prog E b q42_16 (ops [true, false, true, false, false, true, true, false, false, false] Try.f42) st) := GE.region_step (id := 3) (GE.reg_of (by kernel_rfl)) (by kernel_rfl)
theorem n42_18s : codeB Try.prog E ⟨f, 27, b, ro⟩ n42_18 st = plainS (runOps Try.prog E b q42_18 (ops [true, false, true, false, false, true, true, false, false, true, false] Try.f42) st) := GE.region_step (id := 4) (GE.reg_of (by kernel_rfl)) (by kernel_rfl)
theorem n42_21s : codeB Try.prog E ⟨f, 27, b, ro⟩ n42_21 st = plainS (runOps Try.prog E b q42_21 (ops [true, false, true, false, false, true, true, false, false, true, true, false, false] Try.f42) st) := GE.region_step (id := 5) (GE.reg_of (by kernel_rfl)) (by kernel_rfl)
theorem n42_22s : codeB Try.prog LL ⟨42, 27, b, ro⟩ n42_22 st = normS b ⟨[4], []⟩ .ret st := GE.ret_step (by kernel_rfl) (by kernel_rfl)
theorem n42_20s : codeB Try.prog E cx n42_20 st = thenS (codeB Try.prog E cx n42_21 st) (codeB Try.prog E cx n42_22) := GE.seq_step (by kernel_rfl)
theorem n42_23s : codeB Try.prog E cx n42_23 st = some (.normal, st) := GE.skip_step (by kernel_rfl)
theorem n42_19s : codeB Try.prog E cx n42_19 st = condS (codeB Try.prog E cx n42_20) (codeB Try.prog E cx n42_23) (lk st.σ 19) st := GE.cond_step (c := .tmp 19) (by kernel_rfl)
theorem n42_17s : codeB Try.prog E cx n42_17 st = thenS (codeB Try.prog E cx n42_18 st) (codeB Try.prog E cx n42_19) := GE.seq_step (by kernel_rfl)
theorem n42_15s : codeB Try.prog E cx n42_15 st = thenS (codeB Try.prog E cx n42_16 st) (codeB Try.prog E cx n42_17) := GE.seq_step (by kernel_rfl)
theorem n42_14s : codeB Try.prog E cx n42_14 st = blockS 1 (codeB Try.prog E cx n42_15 st) st := GE.block_step (by kernel_rfl)
theorem n42_24s : codeB Try.prog E ⟨f, 27, b, ro⟩ n42_24 st = plainS (runOps Try.prog E b q42_24 (ops [true, false, true, false, false, true, true, true] Try.f42) st) := GE.region_step (id := 6) (GE.reg_of (by kernel_rfl)) (by kernel_rfl)
theorem n42_13s : codeB Try.prog E cx n42_13 st = thenS (codeB Try.prog E cx n42_14 st) (codeB Try.prog E cx n42_24) := GE.seq_step (by kernel_rfl)
theorem n42_9s : codeB Try.prog E cx n42_9 st = thenS (codeB Try.prog E cx n42_10 st) (codeB Try.prog E cx n42_13) := GE.seq_step (by kernel_rfl)
theorem n42_7s : codeB Try.prog E cx n42_7 st = thenS (codeB Try.prog E cx n42_8 st) (codeB Try.prog E cx n42_9) := GE.seq_step (by kernel_rfl)
theorem n42_6k : LL.kp (⟨42, 27, b, ro⟩ : Cx).fn (4 * rid n42_7 + 3) = some ⟨[1, 7, 8, 9], [⟨1, 0, 1, true⟩, ⟨7, 0, 1, true⟩]⟩ := by kernel_rfl
theorem n42_6s : codeB Try.prog LL ⟨42, 27, b, ro⟩ n42_6 st = headS b ⟨[1, 7, 8, 9], [⟨1, 0, 1, true⟩, ⟨7, 0, 1, true⟩]⟩ st (lpB Try.prog LL ⟨42, 27, b, ro⟩ n42_6 n42_7) := GE.lpB_step (by kernel_rfl) (n42_6k b ro)
theorem n42_6g : LL.code ⟨42, 27, b, ro⟩ n42_6 st = headS b ⟨[1, 7, 8, 9], [⟨1, 0, 1, true⟩, ⟨7, 0, 1, true⟩]⟩ st (lpB Try.prog LL ⟨42, 27, b, ro⟩ n42_6 n42_7) := GE.lpB_again (by kernel_rfl) (n42_6k b ro)
theorem n42_5s : codeB Try.prog E cx n42_5 st = blockS 0 (codeB Try.prog E cx n42_6 st) st := GE.block_step (by kernel_rfl)
theorem n42_3s : codeB Try.prog E cx n42_3 st = thenS (codeB Try.prog E cx n42_4 st) (codeB Try.prog E cx n42_5) := GE.seq_step (by kernel_rfl)
theorem n42_26s : codeB Try.prog E ⟨f, 27, b, ro⟩ n42_26 st = plainS (runOps Try.prog E b q42_26 (ops [true, true, false] Try.f42) st) := GE.region_step (id := 7) (GE.reg_of (by kernel_rfl)) (by kernel_rfl)
theorem n42_27s : codeB Try.prog LL ⟨42, 27, b, ro⟩ n42_27 st = normS b ⟨[4], []⟩ .ret st := GE.ret_step (by kernel_rfl) (by kernel_rfl)
theorem n42_25s : codeB Try.prog E cx n42_25 st = thenS (codeB Try.prog E cx n42_26 st) (codeB Try.prog E cx n42_27) := GE.seq_step (by kernel_rfl)
theorem n42_2s : codeB Try.prog E cx n42_2 st = thenS (codeB Try.prog E cx n42_3 st) (codeB Try.prog E cx n42_25) := GE.seq_step (by kernel_rfl)
theorem n42_0s : codeB Try.prog E cx n42_0 st = thenS (codeB Try.prog E cx n42_1 st) (codeB Try.prog E cx n42_2) := GE.seq_step (by kernel_rfl)
noncomputable def n43_0 : Code := bodyOf Try.f43
noncomputable def n43_1 : Code := cl n43_0
noncomputable def q43_1 : List Oper := opsOf n43_1
noncomputable def n43_2 : Code := cr n43_0
noncomputable def n43_3 : Code := cl n43_2
noncomputable def q43_3 : List Oper := opsOf n43_3
noncomputable def n43_4 : Code := cr n43_2
theorem body43 : Try.f43.body = some n43_0 := by kernel_rfl
theorem run43 (E : Ev) (args : List Value) (h : List Blk) (hl : args.length ≤ 12) : runB Try.prog E 43 args h = endS Try.prog [.cell 6 59] h.length (codeB Try.prog E ⟨43, 12, h.length, none⟩ n43_0 ⟨enumT 0 args, h, []⟩) := GE.run_step Try.func43 body43 (by kernel_rfl) (by decide) (by kernel_rfl) hl
theorem n43_1s : codeB Try.prog E ⟨f, 12, b, ro⟩ n43_1 st = plainS (runOps Try.prog E b q43_1 (ops [false] Try.f43) st) := GE.region_step (id := 0) (GE.reg_of (by kernel_rfl)) (by kernel_rfl)
theorem n43_3s : codeB Try.prog E ⟨f, 12, b, ro⟩ n43_3 st = plainS (runOps Try.prog E b q43_3 (ops [true, false] Try.f43) st) := GE.region_step (id := 1) (GE.reg_of (by kernel_rfl)) (by kernel_rfl)
theorem n43_4s : codeB Try.prog LL ⟨43, 12, b, ro⟩ n43_4 st = normS b ⟨[6], []⟩ .ret st := GE.ret_step (by kernel_rfl) (by kernel_rfl)
theorem n43_2s : codeB Try.prog E cx n43_2 st = thenS (codeB Try.prog E cx n43_3 st) (codeB Try.prog E cx n43_4) := GE.seq_step (by kernel_rfl)
theorem n43_0s : codeB Try.prog E cx n43_0 st = thenS (codeB Try.prog E cx n43_1 st) (codeB Try.prog E cx n43_2) := GE.seq_step (by kernel_rfl)
noncomputable def n49_0 : Code := bodyOf Try.f49
noncomputable def n49_1 : Code := cl n49_0
noncomputable def q49_1 : List Oper := opsOf n49_1
noncomputable def n49_2 : Code := cr n49_0
noncomputable def n49_3 : Code := cl n49_2
noncomputable def q49_3 : List Oper := opsOf n49_3
noncomputable def n49_4 : Code := cr n49_2
noncomputable def n49_5 : Code := cl n49_4
noncomputable def n49_6 : Code := cl n49_5
noncomputable def q49_6 : List Oper := opsOf n49_6
noncomputable def n49_7 : Code := cr n49_5
noncomputable def n49_8 : Code := cl n49_7
noncomputable def n49_9 : Code := cl n49_8
noncomputable def n49_10 : Code := cl n49_9
noncomputable def q49_10 : List Oper := opsOf n49_10
noncomputable def n49_11 : Code := cr n49_9
noncomputable def n49_12 : Code := cl n49_11
noncomputable def n49_13 : Code := cl n49_12
noncomputable def n49_14 : Code := cr n49_12
noncomputable def n49_15 : Code := cr n49_11
noncomputable def n49_16 : Code := cl n49_15
noncomputable def n49_17 : Code := cl n49_16
noncomputable def n49_18 : Code := cl n49_17
noncomputable def q49_18 : List Oper := opsOf n49_18
noncomputable def n49_19 : Code := cr n49_17
noncomputable def q49_19 : List Oper := opsOf n49_19
noncomputable def n49_20 : Code := cr n49_15
noncomputable def q49_20 : List Oper := opsOf n49_20
noncomputable def n49_21 : Code := cr n49_4
noncomputable def n49_22 : Code := cl n49_21
noncomputable def q49_22 : List Oper := opsOf n49_22
noncomputable def n49_23 : Code := cr n49_21
theorem body49 : Try.f49.body = some n49_0 := by kernel_rfl
theorem run49 (E : Ev) (args : List Value) (h : List Blk) (hl : args.length ≤ 22) : runB Try.prog E 49 args h = endS Try.prog [.tmp 4] h.length (codeB Try.prog E ⟨49, 22, h.length, none⟩ n49_0 ⟨enumT 0 args, h, []⟩) := GE.run_step Try.func49 body49 (by kernel_rfl) (by decide) (by kernel_rfl) hl
theorem n49_1s : codeB Try.prog E ⟨f, 22, b, ro⟩ n49_1 st = plainS (runOps Try.prog E b q49_1 (ops [false] Try.f49) st) := GE.region_step (id := 0) (GE.reg_of (by kernel_rfl)) (by kernel_rfl)
theorem n49_3s : codeB Try.prog E ⟨f, 22, b, ro⟩ n49_3 st = plainS (runOps Try.prog E b q49_3 (ops [true, false] Try.f49) st) := GE.region_step (id := 1) (GE.reg_of (by kernel_rfl)) (by kernel_rfl)
theorem n49_6s : codeB Try.prog E ⟨f, 22, b, ro⟩ n49_6 st = plainS (runOps Try.prog E b q49_6 (ops [true, true, false, false] Try.f49) st) := GE.region_step (id := 2) (GE.reg_of (by kernel_rfl)) (by kernel_rfl)
theorem n49_10s : codeB Try.prog E ⟨f, 22, b, ro⟩ n49_10 st = plainS (runOps Try.prog E b q49_10 (ops [true, true, false, true, false, false, false] Try.f49) st) := GE.region_step (id := 3) (GE.reg_of (by kernel_rfl)) (by kernel_rfl)
theorem n49_13s : codeB Try.prog E cx n49_13 st = some (.normal, st) := GE.skip_step (by kernel_rfl)
theorem n49_14s : codeB Try.prog LL ⟨49, 22, b, ro⟩ n49_14 st = normS b ⟨[5], [⟨5, 0, 1, true⟩]⟩ (.exit 0) st := GE.exit_step (by kernel_rfl) (by kernel_rfl)
theorem n49_12s : codeB Try.prog E cx n49_12 st = condS (codeB Try.prog E cx n49_13) (codeB Try.prog E cx n49_14) (lk st.σ 11) st := GE.cond_step (c := .tmp 11) (by kernel_rfl)
theorem n49_18s : codeB Try.prog E ⟨f, 22, b, ro⟩ n49_18 st = plainS (runOps Try.prog E b q49_18 (ops [true, true, false, true, false, false, true, true, false, false, false] Try.f49) st) := GE.region_step (id := 4) (GE.reg_of (by kernel_rfl)) (by kernel_rfl)
theorem n49_19s : codeB Try.prog E ⟨f, 22, b, ro⟩ n49_19 st = plainS (runOps Try.prog E b q49_19 (ops [true, true, false, true, false, false, true, true, false, false, true] Try.f49) st) := GE.region_step (id := 5) (GE.reg_of (by kernel_rfl)) (by kernel_rfl)
theorem n49_17s : codeB Try.prog E cx n49_17 st = thenS (codeB Try.prog E cx n49_18 st) (codeB Try.prog E cx n49_19) := GE.seq_step (by kernel_rfl)
theorem n49_16s : codeB Try.prog E cx n49_16 st = blockS 1 (codeB Try.prog E cx n49_17 st) st := GE.block_step (by kernel_rfl)
theorem n49_20s : codeB Try.prog E ⟨f, 22, b, ro⟩ n49_20 st = plainS (runOps Try.prog E b q49_20 (ops [true, true, false, true, false, false, true, true, true] Try.f49) st) := GE.region_step (id := 6) (GE.reg_of (by kernel_rfl)) (by kernel_rfl)
theorem n49_15s : codeB Try.prog E cx n49_15 st = thenS (codeB Try.prog E cx n49_16 st) (codeB Try.prog E cx n49_20) := GE.seq_step (by kernel_rfl)
theorem n49_11s : codeB Try.prog E cx n49_11 st = thenS (codeB Try.prog E cx n49_12 st) (codeB Try.prog E cx n49_15) := GE.seq_step (by kernel_rfl)
theorem n49_9s : codeB Try.prog E cx n49_9 st = thenS (codeB Try.prog E cx n49_10 st) (codeB Try.prog E cx n49_11) := GE.seq_step (by kernel_rfl)
theorem n49_8k : LL.kp (⟨49, 22, b, ro⟩ : Cx).fn (4 * rid n49_9 + 3) = some ⟨[1, 5, 8, 9, 10], [⟨5, 0, 1, true⟩, ⟨8, 0, 2, true⟩]⟩ := by kernel_rfl
theorem n49_8s : codeB Try.prog LL ⟨49, 22, b, ro⟩ n49_8 st = headS b ⟨[1, 5, 8, 9, 10], [⟨5, 0, 1, true⟩, ⟨8, 0, 2, true⟩]⟩ st (lpB Try.prog LL ⟨49, 22, b, ro⟩ n49_8 n49_9) := GE.lpB_step (by kernel_rfl) (n49_8k b ro)
theorem n49_8g : LL.code ⟨49, 22, b, ro⟩ n49_8 st = headS b ⟨[1, 5, 8, 9, 10], [⟨5, 0, 1, true⟩, ⟨8, 0, 2, true⟩]⟩ st (lpB Try.prog LL ⟨49, 22, b, ro⟩ n49_8 n49_9) := GE.lpB_again (by kernel_rfl) (n49_8k b ro)
theorem n49_7s : codeB Try.prog E cx n49_7 st = blockS 0 (codeB Try.prog E cx n49_8 st) st := GE.block_step (by kernel_rfl)
theorem n49_5s : codeB Try.prog E cx n49_5 st = thenS (codeB Try.prog E cx n49_6 st) (codeB Try.prog E cx n49_7) := GE.seq_step (by kernel_rfl)
theorem n49_22s : codeB Try.prog E ⟨f, 22, b, ro⟩ n49_22 st = plainS (runOps Try.prog E b q49_22 (ops [true, true, true, false] Try.f49) st) := GE.region_step (id := 7) (GE.reg_of (by kernel_rfl)) (by kernel_rfl)
theorem n49_23s : codeB Try.prog LL ⟨49, 22, b, ro⟩ n49_23 st = normS b ⟨[4], [⟨4, 0, 1, true⟩]⟩ .ret st := GE.ret_step (by kernel_rfl) (by kernel_rfl)
theorem n49_21s : codeB Try.prog E cx n49_21 st = thenS (codeB Try.prog E cx n49_22 st) (codeB Try.prog E cx n49_23) := GE.seq_step (by kernel_rfl)
theorem n49_4s : codeB Try.prog E cx n49_4 st = thenS (codeB Try.prog E cx n49_5 st) (codeB Try.prog E cx n49_21) := GE.seq_step (by kernel_rfl)
theorem n49_2s : codeB Try.prog E cx n49_2 st = thenS (codeB Try.prog E cx n49_3 st) (codeB Try.prog E cx n49_4) := GE.seq_step (by kernel_rfl)
theorem n49_0s : codeB Try.prog E cx n49_0 st = thenS (codeB Try.prog E cx n49_1 st) (codeB Try.prog E cx n49_2) := GE.seq_step (by kernel_rfl)
noncomputable def n50_0 : Code := bodyOf Try.f50
noncomputable def n50_1 : Code := cl n50_0
noncomputable def q50_1 : List Oper := opsOf n50_1
noncomputable def n50_2 : Code := cr n50_0
noncomputable def n50_3 : Code := cl n50_2
noncomputable def n50_4 : Code := cl n50_3
noncomputable def q50_4 : List Oper := opsOf n50_4
noncomputable def n50_5 : Code := cr n50_3
noncomputable def n50_6 : Code := cl n50_5
noncomputable def q50_6 : List Oper := opsOf n50_6
noncomputable def n50_7 : Code := cr n50_5
noncomputable def n50_8 : Code := cl n50_7
noncomputable def n50_9 : Code := cr n50_7
noncomputable def n50_10 : Code := cl n50_9
noncomputable def n50_11 : Code := cl n50_10
noncomputable def q50_11 : List Oper := opsOf n50_11
noncomputable def n50_12 : Code := cr n50_10
noncomputable def n50_13 : Code := cl n50_12
noncomputable def n50_14 : Code := cl n50_13
noncomputable def q50_14 : List Oper := opsOf n50_14
noncomputable def n50_15 : Code := cr n50_13
noncomputable def n50_16 : Code := cr n50_12
noncomputable def n50_17 : Code := cr n50_9
noncomputable def n50_18 : Code := cl n50_17
noncomputable def n50_19 : Code := cl n50_18
noncomputable def q50_19 : List Oper := opsOf n50_19
noncomputable def n50_20 : Code := cr n50_18
noncomputable def n50_21 : Code := cl n50_20
noncomputable def q50_21 : List Oper := opsOf n50_21
noncomputable def n50_22 : Code := cr n50_20
noncomputable def n50_23 : Code := cl n50_22
noncomputable def n50_24 : Code := cl n50_23
noncomputable def q50_24 : List Oper := opsOf n50_24
noncomputable def n50_25 : Code := cr n50_23
noncomputable def q50_25 : List Oper := opsOf n50_25
noncomputable def n50_26 : Code := cr n50_22
noncomputable def n50_27 : Code := cr n50_17
noncomputable def n50_28 : Code := cl n50_27
noncomputable def q50_28 : List Oper := opsOf n50_28
noncomputable def n50_29 : Code := cr n50_27
noncomputable def r50_0 : Code := .seq .skip n50_9
theorem body50 : Try.f50.body = some n50_0 := by kernel_rfl
theorem run50 (E : Ev) (args : List Value) (h : List Blk) (hl : args.length ≤ 33) : runB Try.prog E 50 args h = endS Try.prog [.tmp 2] h.length (codeB Try.prog E ⟨50, 33, h.length, none⟩ n50_0 ⟨enumT 0 args, h, []⟩) := GE.run_step Try.func50 body50 (by kernel_rfl) (by decide) (by kernel_rfl) hl
theorem n50_1s : codeB Try.prog E ⟨f, 33, b, ro⟩ n50_1 st = plainS (runOps Try.prog E b q50_1 (ops [false] Try.f50) st) := GE.region_step (id := 0) (GE.reg_of (by kernel_rfl)) (by kernel_rfl)
theorem n50_4s : codeB Try.prog E ⟨f, 33, b, ro⟩ n50_4 st = plainS (runOps Try.prog E b q50_4 (ops [true, false, false] Try.f50) st) := GE.region_step (id := 1) (GE.reg_of (by kernel_rfl)) (by kernel_rfl)
theorem n50_6s : codeB Try.prog E ⟨f, 33, b, ro⟩ n50_6 st = plainS (runOps Try.prog E b q50_6 (ops [true, false, true, false] Try.f50) st) := GE.region_step (id := 2) (GE.reg_of (by kernel_rfl)) (by kernel_rfl)
theorem n50_8s : codeB Try.prog LL ⟨50, 33, b, ro⟩ n50_8 st = normS b ⟨[1, 3, 4, 5], [⟨1, 2, 3, true⟩, ⟨3, 0, 2, true⟩]⟩ .normal st := GE.label_step (n := 0) (by kernel_rfl) (by kernel_rfl)
theorem n50_11s : codeB Try.prog E ⟨f, 33, b, ro⟩ n50_11 st = plainS (runOps Try.prog E b q50_11 (ops [true, false, true, true, true, false, false] Try.f50) st) := GE.region_step (id := 3) (GE.reg_of (by kernel_rfl)) (by kernel_rfl)
theorem n50_14s : codeB Try.prog E ⟨f, 33, b, ro⟩ n50_14 st = plainS (runOps Try.prog E b q50_14 (ops [true, false, true, true, true, false, true, false, false] Try.f50) st) := GE.region_step (id := 4) (GE.reg_of (by kernel_rfl)) (by kernel_rfl)
theorem n50_15s : codeB Try.prog LL ⟨50, 33, b, ro⟩ n50_15 st = normS b ⟨[2], [⟨2, 0, 2, true⟩]⟩ .ret st := GE.ret_step (by kernel_rfl) (by kernel_rfl)
theorem n50_13s : codeB Try.prog E cx n50_13 st = thenS (codeB Try.prog E cx n50_14 st) (codeB Try.prog E cx n50_15) := GE.seq_step (by kernel_rfl)
theorem n50_16s : codeB Try.prog E cx n50_16 st = some (.normal, st) := GE.skip_step (by kernel_rfl)
theorem n50_12s : codeB Try.prog E cx n50_12 st = condS (codeB Try.prog E cx n50_13) (codeB Try.prog E cx n50_16) (lk st.σ 11) st := GE.cond_step (c := .tmp 11) (by kernel_rfl)
theorem n50_10s : codeB Try.prog E cx n50_10 st = thenS (codeB Try.prog E cx n50_11 st) (codeB Try.prog E cx n50_12) := GE.seq_step (by kernel_rfl)
theorem n50_19s : codeB Try.prog E ⟨f, 33, b, ro⟩ n50_19 st = plainS (runOps Try.prog E b q50_19 (ops [true, false, true, true, true, true, false, false] Try.f50) st) := GE.region_step (id := 5) (GE.reg_of (by kernel_rfl)) (by kernel_rfl)
theorem n50_21s : codeB Try.prog E ⟨f, 33, b, ro⟩ n50_21 st = plainS (runOps Try.prog E b q50_21 (ops [true, false, true, true, true, true, false, true, false] Try.f50) st) := GE.region_step (id := 6) (GE.reg_of (by kernel_rfl)) (by kernel_rfl)
theorem n50_24s : codeB Try.prog E ⟨f, 33, b, ro⟩ n50_24 st = plainS (runOps Try.prog E b q50_24 (ops [true, false, true, true, true, true, false, true, true, false, false] Try.f50) st) := GE.region_step (id := 7) (GE.reg_of (by kernel_rfl)) (by kernel_rfl)
theorem n50_25s : codeB Try.prog E ⟨f, 33, b, ro⟩ n50_25 st = plainS (runOps Try.prog E b q50_25 (ops [true, false, true, true, true, true, false, true, true, false, true] Try.f50) st) := GE.region_step (id := 8) (GE.reg_of (by kernel_rfl)) (by kernel_rfl)
theorem n50_23s : codeB Try.prog E cx n50_23 st = thenS (codeB Try.prog E cx n50_24 st) (codeB Try.prog E cx n50_25) := GE.seq_step (by kernel_rfl)
theorem n50_26s : codeB Try.prog E cx n50_26 st = some (.normal, st) := GE.skip_step (by kernel_rfl)
theorem n50_22s : codeB Try.prog E cx n50_22 st = condS (codeB Try.prog E cx n50_23) (codeB Try.prog E cx n50_26) (lk st.σ 21) st := GE.cond_step (c := .tmp 21) (by kernel_rfl)
theorem n50_20s : codeB Try.prog E cx n50_20 st = thenS (codeB Try.prog E cx n50_21 st) (codeB Try.prog E cx n50_22) := GE.seq_step (by kernel_rfl)
theorem n50_18s : codeB Try.prog E cx n50_18 st = thenS (codeB Try.prog E cx n50_19 st) (codeB Try.prog E cx n50_20) := GE.seq_step (by kernel_rfl)
theorem n50_28s : codeB Try.prog E ⟨f, 33, b, ro⟩ n50_28 st = plainS (runOps Try.prog E b q50_28 (ops [true, false, true, true, true, true, true, false] Try.f50) st) := GE.region_step (id := 9) (GE.reg_of (by kernel_rfl)) (by kernel_rfl)
theorem n50_29s : codeB Try.prog E cx n50_29 st = some (.goto 0, st) := GE.goto_step (by kernel_rfl)
theorem n50_27s : codeB Try.prog E cx n50_27 st = thenS (codeB Try.prog E cx n50_28 st) (codeB Try.prog E cx n50_29) := GE.seq_step (by kernel_rfl)
theorem n50_17s : codeB Try.prog E cx n50_17 st = thenS (codeB Try.prog E cx n50_18 st) (codeB Try.prog E cx n50_27) := GE.seq_step (by kernel_rfl)
theorem n50_9s : codeB Try.prog E cx n50_9 st = thenS (codeB Try.prog E cx n50_10 st) (codeB Try.prog E cx n50_17) := GE.seq_step (by kernel_rfl)
theorem n50_7s : codeB Try.prog E cx n50_7 st = thenS (codeB Try.prog E cx n50_8 st) (codeB Try.prog E cx n50_9) := GE.seq_step (by kernel_rfl)
theorem n50_5s : codeB Try.prog E cx n50_5 st = thenS (codeB Try.prog E cx n50_6 st) (codeB Try.prog E cx n50_7) := GE.seq_step (by kernel_rfl)
theorem n50_3s : codeB Try.prog E cx n50_3 st = thenS (codeB Try.prog E cx n50_4 st) (codeB Try.prog E cx n50_5) := GE.seq_step (by kernel_rfl)
theorem n50_2s : codeB Try.prog E cx n50_2 st = gotoS Try.prog E cx n50_3 (codeB Try.prog E cx n50_3 st) := GE.scopeK_step (by kernel_rfl)
theorem n50_2j0 : gotoL Try.prog LL ⟨50, 33, b, ro⟩ n50_3 0 st = headS b ⟨[1, 3, 4, 5], [⟨1, 2, 3, true⟩, ⟨3, 0, 2, true⟩]⟩ st (scpL Try.prog LL ⟨50, 33, b, ro⟩ n50_3 r50_0) := GE.gotoL_step (by kernel_rfl) (by kernel_rfl)
theorem n50_2i0 : codeB Try.prog LL ⟨f, nt, b, ro⟩ r50_0 st = codeB Try.prog LL ⟨f, nt, b, ro⟩ n50_9 st := rfl
theorem n50_0s : codeB Try.prog E cx n50_0 st = thenS (codeB Try.prog E cx n50_1 st) (codeB Try.prog E cx n50_2) := GE.seq_step (by kernel_rfl)
noncomputable def n51_0 : Code := bodyOf Try.f51
noncomputable def n51_1 : Code := cl n51_0
noncomputable def q51_1 : List Oper := opsOf n51_1
noncomputable def n51_2 : Code := cr n51_0
noncomputable def n51_3 : Code := cl n51_2
noncomputable def q51_3 : List Oper := opsOf n51_3
noncomputable def n51_4 : Code := cr n51_2
theorem body51 : Try.f51.body = some n51_0 := by kernel_rfl
theorem run51 (E : Ev) (args : List Value) (h : List Blk) (hl : args.length ≤ 12) : runB Try.prog E 51 args h = endS Try.prog [.tmp 3] h.length (codeB Try.prog E ⟨51, 12, h.length, none⟩ n51_0 ⟨enumT 0 args, h, []⟩) := GE.run_step Try.func51 body51 (by kernel_rfl) (by decide) (by kernel_rfl) hl
theorem n51_1s : codeB Try.prog E ⟨f, 12, b, ro⟩ n51_1 st = plainS (runOps Try.prog E b q51_1 (ops [false] Try.f51) st) := GE.region_step (id := 0) (GE.reg_of (by kernel_rfl)) (by kernel_rfl)
theorem n51_3s : codeB Try.prog E ⟨f, 12, b, ro⟩ n51_3 st = plainS (runOps Try.prog E b q51_3 (ops [true, false] Try.f51) st) := GE.region_step (id := 1) (GE.reg_of (by kernel_rfl)) (by kernel_rfl)
theorem n51_4s : codeB Try.prog LL ⟨51, 12, b, ro⟩ n51_4 st = normS b ⟨[3], []⟩ .ret st := GE.ret_step (by kernel_rfl) (by kernel_rfl)
theorem n51_2s : codeB Try.prog E cx n51_2 st = thenS (codeB Try.prog E cx n51_3 st) (codeB Try.prog E cx n51_4) := GE.seq_step (by kernel_rfl)
theorem n51_0s : codeB Try.prog E cx n51_0 st = thenS (codeB Try.prog E cx n51_1 st) (codeB Try.prog E cx n51_2) := GE.seq_step (by kernel_rfl)
noncomputable def n53_0 : Code := bodyOf Try.f53
noncomputable def n53_1 : Code := cl n53_0
noncomputable def q53_1 : List Oper := opsOf n53_1
noncomputable def n53_2 : Code := cr n53_0
noncomputable def n53_3 : Code := cl n53_2
noncomputable def q53_3 : List Oper := opsOf n53_3
noncomputable def n53_4 : Code := cr n53_2
noncomputable def n53_5 : Code := cl n53_4
noncomputable def n53_6 : Code := cl n53_5
noncomputable def q53_6 : List Oper := opsOf n53_6
noncomputable def n53_7 : Code := cr n53_5
noncomputable def n53_8 : Code := cl n53_7
noncomputable def n53_9 : Code := cl n53_8
noncomputable def q53_9 : List Oper := opsOf n53_9
noncomputable def n53_10 : Code := cr n53_8
noncomputable def n53_11 : Code := cr n53_7
noncomputable def n53_12 : Code := cr n53_4
noncomputable def n53_13 : Code := cl n53_12
noncomputable def q53_13 : List Oper := opsOf n53_13
noncomputable def n53_14 : Code := cr n53_12
theorem body53 : Try.f53.body = some n53_0 := by kernel_rfl
theorem run53 (E : Ev) (args : List Value) (h : List Blk) (hl : args.length ≤ 24) : runB Try.prog E 53 args h = endS Try.prog [.cell 4 115, .tmp 5] h.length (codeB Try.prog E ⟨53, 24, h.length, none⟩ n53_0 ⟨enumT 0 args, h, []⟩) := GE.run_step Try.func53 body53 (by kernel_rfl) (by decide) (by kernel_rfl) hl
theorem n53_1s : codeB Try.prog E ⟨f, 24, b, ro⟩ n53_1 st = plainS (runOps Try.prog E b q53_1 (ops [false] Try.f53) st) := GE.region_step (id := 0) (GE.reg_of (by kernel_rfl)) (by kernel_rfl)
theorem n53_3s : codeB Try.prog E ⟨f, 24, b, ro⟩ n53_3 st = plainS (runOps Try.prog E b q53_3 (ops [true, false] Try.f53) st) := GE.region_step (id := 1) (GE.reg_of (by kernel_rfl)) (by kernel_rfl)
theorem q53_6g2 : gd q53_6 2 = some 16 := by kernel_rfl
theorem n53_6s : codeB Try.prog E ⟨f, 24, b, ro⟩ n53_6 st = plainS (runOps Try.prog E b q53_6 (ops [true, true, false, false] Try.f53) st) := GE.region_step (id := 2) (GE.reg_of (by kernel_rfl)) (by kernel_rfl)
theorem n53_9s : codeB Try.prog E ⟨f, 24, b, ro⟩ n53_9 st = plainS (runOps Try.prog E b q53_9 (ops [true, true, false, true, false, false] Try.f53) st) := GE.region_step (id := 3) (GE.reg_of (by kernel_rfl)) (by kernel_rfl)
theorem n53_10s : codeB Try.prog LL ⟨53, 24, b, ro⟩ n53_10 st = normS b ⟨[4, 5], [⟨4, 2, 3, true⟩, ⟨4, 3, 1, true⟩]⟩ .ret st := GE.ret_step (by kernel_rfl) (by kernel_rfl)
theorem n53_8s : codeB Try.prog E cx n53_8 st = thenS (codeB Try.prog E cx n53_9 st) (codeB Try.prog E cx n53_10) := GE.seq_step (by kernel_rfl)
theorem n53_11s : codeB Try.prog E cx n53_11 st = some (.normal, st) := GE.skip_step (by kernel_rfl)
theorem n53_7s : codeB Try.prog E cx n53_7 st = condS (codeB Try.prog E cx n53_8) (codeB Try.prog E cx n53_11) (lk st.σ 20) st := GE.cond_step (c := .tmp 20) (by kernel_rfl)
theorem n53_5s : codeB Try.prog E cx n53_5 st = thenS (codeB Try.prog E cx n53_6 st) (codeB Try.prog E cx n53_7) := GE.seq_step (by kernel_rfl)
theorem n53_13s : codeB Try.prog E ⟨f, 24, b, ro⟩ n53_13 st = plainS (runOps Try.prog E b q53_13 (ops [true, true, true, false] Try.f53) st) := GE.region_step (id := 4) (GE.reg_of (by kernel_rfl)) (by kernel_rfl)
theorem n53_14s : codeB Try.prog LL ⟨53, 24, b, ro⟩ n53_14 st = normS b ⟨[4, 5], [⟨4, 2, 3, true⟩, ⟨4, 3, 1, true⟩]⟩ .ret st := GE.ret_step (by kernel_rfl) (by kernel_rfl)
theorem n53_12s : codeB Try.prog E cx n53_12 st = thenS (codeB Try.prog E cx n53_13 st) (codeB Try.prog E cx n53_14) := GE.seq_step (by kernel_rfl)
theorem n53_4s : codeB Try.prog E cx n53_4 st = thenS (codeB Try.prog E cx n53_5 st) (codeB Try.prog E cx n53_12) := GE.seq_step (by kernel_rfl)
theorem n53_2s : codeB Try.prog E cx n53_2 st = thenS (codeB Try.prog E cx n53_3 st) (codeB Try.prog E cx n53_4) := GE.seq_step (by kernel_rfl)
theorem n53_0s : codeB Try.prog E cx n53_0 st = thenS (codeB Try.prog E cx n53_1 st) (codeB Try.prog E cx n53_2) := GE.seq_step (by kernel_rfl)
noncomputable def n56_0 : Code := bodyOf Try.f56
noncomputable def n56_1 : Code := cl n56_0
noncomputable def q56_1 : List Oper := opsOf n56_1
noncomputable def n56_2 : Code := cr n56_0
noncomputable def n56_3 : Code := cl n56_2
noncomputable def q56_3 : List Oper := opsOf n56_3
noncomputable def n56_4 : Code := cr n56_2
theorem body56 : Try.f56.body = some n56_0 := by kernel_rfl
theorem run56 (E : Ev) (args : List Value) (h : List Blk) (hl : args.length ≤ 15) : runB Try.prog E 56 args h = endS Try.prog [.tmp 6] h.length (codeB Try.prog E ⟨56, 15, h.length, none⟩ n56_0 ⟨enumT 0 args, h, []⟩) := GE.run_step Try.func56 body56 (by kernel_rfl) (by decide) (by kernel_rfl) hl
theorem n56_1s : codeB Try.prog E ⟨f, 15, b, ro⟩ n56_1 st = plainS (runOps Try.prog E b q56_1 (ops [false] Try.f56) st) := GE.region_step (id := 0) (GE.reg_of (by kernel_rfl)) (by kernel_rfl)
theorem q56_3g3 : gd q56_3 3 = some 10 := by kernel_rfl
theorem n56_3s : codeB Try.prog E ⟨f, 15, b, ro⟩ n56_3 st = plainS (runOps Try.prog E b q56_3 (ops [true, false] Try.f56) st) := GE.region_step (id := 1) (GE.reg_of (by kernel_rfl)) (by kernel_rfl)
theorem n56_4s : codeB Try.prog LL ⟨56, 15, b, ro⟩ n56_4 st = normS b ⟨[6], []⟩ .ret st := GE.ret_step (by kernel_rfl) (by kernel_rfl)
theorem n56_2s : codeB Try.prog E cx n56_2 st = thenS (codeB Try.prog E cx n56_3 st) (codeB Try.prog E cx n56_4) := GE.seq_step (by kernel_rfl)
theorem n56_0s : codeB Try.prog E cx n56_0 st = thenS (codeB Try.prog E cx n56_1 st) (codeB Try.prog E cx n56_2) := GE.seq_step (by kernel_rfl)
noncomputable def n57_0 : Code := bodyOf Try.f57
noncomputable def n57_1 : Code := cl n57_0
noncomputable def q57_1 : List Oper := opsOf n57_1
noncomputable def n57_2 : Code := cr n57_0
noncomputable def n57_3 : Code := cl n57_2
noncomputable def q57_3 : List Oper := opsOf n57_3
noncomputable def n57_4 : Code := cr n57_2
theorem body57 : Try.f57.body = some n57_0 := by kernel_rfl
theorem run57 (E : Ev) (args : List Value) (h : List Blk) (hl : args.length ≤ 21) : runB Try.prog E 57 args h = endS Try.prog [.tmp 2] h.length (codeB Try.prog E ⟨57, 21, h.length, none⟩ n57_0 ⟨enumT 0 args, h, []⟩) := GE.run_step Try.func57 body57 (by kernel_rfl) (by decide) (by kernel_rfl) hl
theorem n57_1s : codeB Try.prog E ⟨f, 21, b, ro⟩ n57_1 st = plainS (runOps Try.prog E b q57_1 (ops [false] Try.f57) st) := GE.region_step (id := 0) (GE.reg_of (by kernel_rfl)) (by kernel_rfl)
theorem q57_3g3 : gd q57_3 3 = some 6 := by kernel_rfl
theorem q57_3g12 : gd q57_3 12 = some 15 := by kernel_rfl
theorem n57_3s : codeB Try.prog E ⟨f, 21, b, ro⟩ n57_3 st = plainS (runOps Try.prog E b q57_3 (ops [true, false] Try.f57) st) := GE.region_step (id := 1) (GE.reg_of (by kernel_rfl)) (by kernel_rfl)
theorem n57_4s : codeB Try.prog LL ⟨57, 21, b, ro⟩ n57_4 st = normS b ⟨[2], []⟩ .ret st := GE.ret_step (by kernel_rfl) (by kernel_rfl)
theorem n57_2s : codeB Try.prog E cx n57_2 st = thenS (codeB Try.prog E cx n57_3 st) (codeB Try.prog E cx n57_4) := GE.seq_step (by kernel_rfl)
theorem n57_0s : codeB Try.prog E cx n57_0 st = thenS (codeB Try.prog E cx n57_1 st) (codeB Try.prog E cx n57_2) := GE.seq_step (by kernel_rfl)
noncomputable def n58_0 : Code := bodyOf Try.f58
noncomputable def n58_1 : Code := cl n58_0
noncomputable def q58_1 : List Oper := opsOf n58_1
noncomputable def n58_2 : Code := cr n58_0
noncomputable def n58_3 : Code := cl n58_2
noncomputable def q58_3 : List Oper := opsOf n58_3
noncomputable def n58_4 : Code := cr n58_2
noncomputable def n58_5 : Code := cl n58_4
noncomputable def q58_5 : List Oper := opsOf n58_5
noncomputable def n58_6 : Code := cr n58_4
theorem body58 : Try.f58.body = some n58_0 := by kernel_rfl
theorem run58 (E : Ev) (args : List Value) (h : List Blk) (hl : args.length ≤ 27) : runB Try.prog E 58 args h = endS Try.prog [.tmp 6] h.length (codeB Try.prog E ⟨58, 27, h.length, none⟩ n58_0 ⟨enumT 0 args, h, []⟩) := GE.run_step Try.func58 body58 (by kernel_rfl) (by decide) (by kernel_rfl) hl
theorem n58_1s : codeB Try.prog E ⟨f, 27, b, ro⟩ n58_1 st = plainS (runOps Try.prog E b q58_1 (ops [false] Try.f58) st) := GE.region_step (id := 0) (GE.reg_of (by kernel_rfl)) (by kernel_rfl)
theorem n58_3s : codeB Try.prog E ⟨f, 27, b, ro⟩ n58_3 st = plainS (runOps Try.prog E b q58_3 (ops [true, false] Try.f58) st) := GE.region_step (id := 1) (GE.reg_of (by kernel_rfl)) (by kernel_rfl)
theorem q58_5g6 : gd q58_5 6 = some 19 := by kernel_rfl
theorem n58_5s : codeB Try.prog E ⟨f, 27, b, ro⟩ n58_5 st = plainS (runOps Try.prog E b q58_5 (ops [true, true, false] Try.f58) st) := GE.region_step (id := 2) (GE.reg_of (by kernel_rfl)) (by kernel_rfl)
theorem n58_6s : codeB Try.prog LL ⟨58, 27, b, ro⟩ n58_6 st = normS b ⟨[6], []⟩ .ret st := GE.ret_step (by kernel_rfl) (by kernel_rfl)
theorem n58_4s : codeB Try.prog E cx n58_4 st = thenS (codeB Try.prog E cx n58_5 st) (codeB Try.prog E cx n58_6) := GE.seq_step (by kernel_rfl)
theorem n58_2s : codeB Try.prog E cx n58_2 st = thenS (codeB Try.prog E cx n58_3 st) (codeB Try.prog E cx n58_4) := GE.seq_step (by kernel_rfl)
theorem n58_0s : codeB Try.prog E cx n58_0 st = thenS (codeB Try.prog E cx n58_1 st) (codeB Try.prog E cx n58_2) := GE.seq_step (by kernel_rfl)
noncomputable def n72_0 : Code := bodyOf Try.f72
noncomputable def n72_1 : Code := cl n72_0
noncomputable def q72_1 : List Oper := opsOf n72_1
noncomputable def n72_2 : Code := cr n72_0
noncomputable def n72_3 : Code := cl n72_2
noncomputable def n72_4 : Code := cl n72_3
noncomputable def q72_4 : List Oper := opsOf n72_4
noncomputable def n72_5 : Code := cr n72_3
noncomputable def n72_6 : Code := cl n72_5
noncomputable def q72_6 : List Oper := opsOf n72_6
noncomputable def n72_7 : Code := cr n72_5
noncomputable def n72_8 : Code := cl n72_7
noncomputable def n72_9 : Code := cl n72_8
noncomputable def q72_9 : List Oper := opsOf n72_9
noncomputable def n72_10 : Code := cr n72_8
noncomputable def n72_11 : Code := cr n72_7
noncomputable def n72_12 : Code := cr n72_2
noncomputable def n72_13 : Code := cl n72_12
noncomputable def n72_14 : Code := cl n72_13
noncomputable def q72_14 : List Oper := opsOf n72_14
noncomputable def n72_15 : Code := cr n72_13
noncomputable def n72_16 : Code := cl n72_15
noncomputable def n72_17 : Code := cl n72_16
noncomputable def q72_17 : List Oper := opsOf n72_17
noncomputable def n72_18 : Code := cr n72_16
noncomputable def n72_19 : Code := cr n72_15
noncomputable def n72_20 : Code := cr n72_12
noncomputable def n72_21 : Code := cl n72_20
noncomputable def q72_21 : List Oper := opsOf n72_21
noncomputable def n72_22 : Code := cr n72_20
noncomputable def n72_23 : Code := cl n72_22
noncomputable def n72_24 : Code := cl n72_23
noncomputable def q72_24 : List Oper := opsOf n72_24
noncomputable def n72_25 : Code := cr n72_23
noncomputable def n72_26 : Code := cl n72_25
noncomputable def n72_27 : Code := cl n72_26
noncomputable def n72_28 : Code := cl n72_27
noncomputable def q72_28 : List Oper := opsOf n72_28
noncomputable def n72_29 : Code := cr n72_27
noncomputable def n72_30 : Code := cl n72_29
noncomputable def n72_31 : Code := cl n72_30
noncomputable def n72_32 : Code := cr n72_30
noncomputable def n72_33 : Code := cr n72_29
noncomputable def n72_34 : Code := cl n72_33
noncomputable def n72_35 : Code := cl n72_34
noncomputable def n72_36 : Code := cl n72_35
noncomputable def q72_36 : List Oper := opsOf n72_36
noncomputable def n72_37 : Code := cr n72_35
noncomputable def n72_38 : Code := cl n72_37
noncomputable def n72_39 : Code := cl n72_38
noncomputable def n72_40 : Code := cl n72_39
noncomputable def q72_40 : List Oper := opsOf n72_40
noncomputable def n72_41 : Code := cr n72_39
noncomputable def n72_42 : Code := cl n72_41
noncomputable def n72_43 : Code := cl n72_42
noncomputable def q72_43 : List Oper := opsOf n72_43
noncomputable def n72_44 : Code := cr n72_42
noncomputable def n72_45 : Code := cr n72_41
noncomputable def n72_46 : Code := cl n72_45
noncomputable def q72_46 : List Oper := opsOf n72_46
noncomputable def n72_47 : Code := cr n72_45
noncomputable def n72_48 : Code := cl n72_47
noncomputable def n72_49 : Code := cl n72_48
noncomputable def q72_49 : List Oper := opsOf n72_49
noncomputable def n72_50 : Code := cr n72_48
noncomputable def n72_51 : Code := cr n72_47
noncomputable def n72_52 : Code := cr n72_37
noncomputable def q72_52 : List Oper := opsOf n72_52
noncomputable def n72_53 : Code := cr n72_33
noncomputable def q72_53 : List Oper := opsOf n72_53
noncomputable def n72_54 : Code := cr n72_22
noncomputable def n72_55 : Code := cl n72_54
noncomputable def q72_55 : List Oper := opsOf n72_55
noncomputable def n72_56 : Code := cr n72_54
theorem body72 : Try.f72.body = some n72_0 := by kernel_rfl
theorem run72 (E : Ev) (args : List Value) (h : List Blk) (hl : args.length ≤ 41) : runB Try.prog E 72 args h = endS Try.prog [.cell 4 115, .tmp 5] h.length (codeB Try.prog E ⟨72, 41, h.length, none⟩ n72_0 ⟨enumT 0 args, h, []⟩) := GE.run_step Try.func72 body72 (by kernel_rfl) (by decide) (by kernel_rfl) hl
theorem n72_1s : codeB Try.prog E ⟨f, 41, b, ro⟩ n72_1 st = plainS (runOps Try.prog E b q72_1 (ops [false] Try.f72) st) := GE.region_step (id := 0) (GE.reg_of (by kernel_rfl)) (by kernel_rfl)
theorem n72_4s : codeB Try.prog E ⟨f, 41, b, ro⟩ n72_4 st = plainS (runOps Try.prog E b q72_4 (ops [true, false, false] Try.f72) st) := GE.region_step (id := 1) (GE.reg_of (by kernel_rfl)) (by kernel_rfl)
theorem n72_6s : codeB Try.prog E ⟨f, 41, b, ro⟩ n72_6 st = plainS (runOps Try.prog E b q72_6 (ops [true, false, true, false] Try.f72) st) := GE.region_step (id := 2) (GE.reg_of (by kernel_rfl)) (by kernel_rfl)
theorem n72_9s : codeB Try.prog E ⟨f, 41, b, ro⟩ n72_9 st = plainS (runOps Try.prog E b q72_9 (ops [true, false, true, true, false, false] Try.f72) st) := GE.region_step (id := 3) (GE.reg_of (by kernel_rfl)) (by kernel_rfl)
theorem n72_10s : codeB Try.prog LL ⟨72, 41, b, ro⟩ n72_10 st = normS b ⟨[4, 5], [⟨4, 2, 3, true⟩, ⟨4, 3, 1, true⟩]⟩ .ret st := GE.ret_step (by kernel_rfl) (by kernel_rfl)
theorem n72_8s : codeB Try.prog E cx n72_8 st = thenS (codeB Try.prog E cx n72_9 st) (codeB Try.prog E cx n72_10) := GE.seq_step (by kernel_rfl)
theorem n72_11s : codeB Try.prog E cx n72_11 st = some (.normal, st) := GE.skip_step (by kernel_rfl)
theorem n72_7s : codeB Try.prog E cx n72_7 st = condS (codeB Try.prog E cx n72_8) (codeB Try.prog E cx n72_11) (lk st.σ 13) st := GE.cond_step (c := .tmp 13) (by kernel_rfl)
theorem n72_5s : codeB Try.prog E cx n72_5 st = thenS (codeB Try.prog E cx n72_6 st) (codeB Try.prog E cx n72_7) := GE.seq_step (by kernel_rfl)
theorem n72_3s : codeB Try.prog E cx n72_3 st = thenS (codeB Try.prog E cx n72_4 st) (codeB Try.prog E cx n72_5) := GE.seq_step (by kernel_rfl)
theorem n72_14s : codeB Try.prog E ⟨f, 41, b, ro⟩ n72_14 st = plainS (runOps Try.prog E b q72_14 (ops [true, true, false, false] Try.f72) st) := GE.region_step (id := 4) (GE.reg_of (by kernel_rfl)) (by kernel_rfl)
theorem n72_17s : codeB Try.prog E ⟨f, 41, b, ro⟩ n72_17 st = plainS (runOps Try.prog E b q72_17 (ops [true, true, false, true, false, false] Try.f72) st) := GE.region_step (id := 5) (GE.reg_of (by kernel_rfl)) (by kernel_rfl)
theorem n72_18s : codeB Try.prog LL ⟨72, 41, b, ro⟩ n72_18 st = normS b ⟨[4, 5], [⟨4, 2, 3, true⟩, ⟨4, 3, 1, true⟩]⟩ .ret st := GE.ret_step (by kernel_rfl) (by kernel_rfl)
theorem n72_16s : codeB Try.prog E cx n72_16 st = thenS (codeB Try.prog E cx n72_17 st) (codeB Try.prog E cx n72_18) := GE.seq_step (by kernel_rfl)
theorem n72_19s : codeB Try.prog E cx n72_19 st = some (.normal, st) := GE.skip_step (by kernel_rfl)
theorem n72_15s : codeB Try.prog E cx n72_15 st = condS (codeB Try.prog E cx n72_16) (codeB Try.prog E cx n72_19) (lk st.σ 18) st := GE.cond_step (c := .tmp 18) (by kernel_rfl)
theorem n72_13s : codeB Try.prog E cx n72_13 st = thenS (codeB Try.prog E cx n72_14 st) (codeB Try.prog E cx n72_15) := GE.seq_step (by kernel_rfl)
theorem n72_21s : codeB Try.prog E ⟨f, 41, b, ro⟩ n72_21 st = plainS (runOps Try.prog E b q72_21 (ops [true, true, true, false] Try.f72) st) := GE.region_step (id := 6) (GE.reg_of (by kernel_rfl)) (by kernel_rfl)
theorem n72_24s : codeB Try.prog E ⟨f, 41, b, ro⟩ n72_24 st = plainS (runOps Try.prog E b q72_24 (ops [true, true, true, true, false, false] Try.f72) st) := GE.region_step (id := 7) (GE.reg_of (by kernel_rfl)) (by kernel_rfl)
theorem n72_28s : codeB Try.prog E ⟨f, 41, b, ro⟩ n72_28 st = plainS (runOps Try.prog E b q72_28 (ops [true, true, true, true, false, true, false, false, false] Try.f72) st) := GE.region_step (id := 8) (GE.reg_of (by kernel_rfl)) (by kernel_rfl)
theorem n72_31s : codeB Try.prog E cx n72_31 st = some (.normal, st) := GE.skip_step (by kernel_rfl)
theorem n72_32s : codeB Try.prog LL ⟨72, 41, b, ro⟩ n72_32 st = normS b ⟨[1, 2, 4], [⟨1, 0, 1, true⟩, ⟨2, 2, 3, true⟩, ⟨4, 2, 3, true⟩, ⟨4, 3, 1, true⟩]⟩ (.exit 0) st := GE.exit_step (by kernel_rfl) (by kernel_rfl)
theorem n72_30s : codeB Try.prog E cx n72_30 st = condS (codeB Try.prog E cx n72_31) (codeB Try.prog E cx n72_32) (lk st.σ 23) st := GE.cond_step (c := .tmp 23) (by kernel_rfl)
theorem n72_36s : codeB Try.prog E ⟨f, 41, b, ro⟩ n72_36 st = plainS (runOps Try.prog E b q72_36 (ops [true, true, true, true, false, true, false, false, true, true, false, false, false] Try.f72) st) := GE.region_step (id := 9) (GE.reg_of (by kernel_rfl)) (by kernel_rfl)
theorem n72_40s : codeB Try.prog E ⟨f, 41, b, ro⟩ n72_40 st = plainS (runOps Try.prog E b q72_40 (ops [true, true, true, true, false, true, false, false, true, true, false, false, true, false, false, false] Try.f72) st) := GE.region_step (id := 10) (GE.reg_of (by kernel_rfl)) (by kernel_rfl)
theorem n72_43s : codeB Try.prog E ⟨f, 41, b, ro⟩ n72_43 st = plainS (runOps Try.prog E b q72_43 (ops [true, true, true, true, false, true, false, false, true, true, false, false, true, false, false, true, false, false] Try.f72) st) := GE.region_step (id := 11) (GE.reg_of (by kernel_rfl)) (by kernel_rfl)
theorem n72_44s : codeB Try.prog LL ⟨72, 41, b, ro⟩ n72_44 st = normS b ⟨[4, 5], [⟨4, 2, 3, true⟩, ⟨4, 3, 1, true⟩]⟩ .ret st := GE.ret_step (by kernel_rfl) (by kernel_rfl)
theorem n72_42s : codeB Try.prog E cx n72_42 st = thenS (codeB Try.prog E cx n72_43 st) (codeB Try.prog E cx n72_44) := GE.seq_step (by kernel_rfl)
theorem n72_46s : codeB Try.prog E ⟨f, 41, b, ro⟩ n72_46 st = plainS (runOps Try.prog E b q72_46 (ops [true, true, true, true, false, true, false, false, true, true, false, false, true, false, false, true, true, false] Try.f72) st) := GE.region_step (id := 12) (GE.reg_of (by kernel_rfl)) (by kernel_rfl)
theorem n72_49s : codeB Try.prog E ⟨f, 41, b, ro⟩ n72_49 st = plainS (runOps Try.prog E b q72_49 (ops [true, true, true, true, false, true, false, false, true, true, false, false, true, false, false, true, true, true, false, false] Try.f72) st) := GE.region_step (id := 13) (GE.reg_of (by kernel_rfl)) (by kernel_rfl)
theorem n72_50s : codeB Try.prog LL ⟨72, 41, b, ro⟩ n72_50 st = normS b ⟨[4, 5], [⟨4, 2, 3, true⟩, ⟨4, 3, 1, true⟩]⟩ .ret st := GE.ret_step (by kernel_rfl) (by kernel_rfl)
theorem n72_48s : codeB Try.prog E cx n72_48 st = thenS (codeB Try.prog E cx n72_49 st) (codeB Try.prog E cx n72_50) := GE.seq_step (by kernel_rfl)
theorem n72_51s : codeB Try.prog E cx n72_51 st = some (.normal, st) := GE.skip_step (by kernel_rfl)
theorem n72_47s : codeB Try.prog E cx n72_47 st = condS (codeB Try.prog E cx n72_48) (codeB Try.prog E cx n72_51) (lk st.σ 31) st := GE.cond_step (c := .tmp 31) (by kernel_rfl)
theorem n72_45s : codeB Try.prog E cx n72_45 st = thenS (codeB Try.prog E cx n72_46 st) (codeB Try.prog E cx n72_47) := GE.seq_step (by kernel_rfl)
theorem n72_41s : codeB Try.prog E cx n72_41 st = condS (codeB Try.prog E cx n72_42) (codeB Try.prog E cx n72_45) (lk st.σ 26) st := GE.cond_step (c := .tmp 26) (by kernel_rfl)
theorem n72_39s : codeB Try.prog E cx n72_39 st = thenS (codeB Try.prog E cx n72_40 st) (codeB Try.prog E cx n72_41) := GE.seq_step (by kernel_rfl)
theorem n72_38s : codeB Try.prog E cx n72_38 st = blockS 2 (codeB Try.prog E cx n72_39 st) st := GE.block_step (by kernel_rfl)
theorem n72_52s : codeB Try.prog E ⟨f, 41, b, ro⟩ n72_52 st = plainS (runOps Try.prog E b q72_52 (ops [true, true, true, true, false, true, false, false, true, true, false, false, true, true] Try.f72) st) := GE.region_step (id := 14) (GE.reg_of (by kernel_rfl)) (by kernel_rfl)
theorem n72_37s : codeB Try.prog E cx n72_37 st = thenS (codeB Try.prog E cx n72_38 st) (codeB Try.prog E cx n72_52) := GE.seq_step (by kernel_rfl)
theorem n72_35s : codeB Try.prog E cx n72_35 st = thenS (codeB Try.prog E cx n72_36 st) (codeB Try.prog E cx n72_37) := GE.seq_step (by kernel_rfl)
theorem n72_34s : codeB Try.prog E cx n72_34 st = blockS 1 (codeB Try.prog E cx n72_35 st) st := GE.block_step (by kernel_rfl)
theorem n72_53s : codeB Try.prog E ⟨f, 41, b, ro⟩ n72_53 st = plainS (runOps Try.prog E b q72_53 (ops [true, true, true, true, false, true, false, false, true, true, true] Try.f72) st) := GE.region_step (id := 15) (GE.reg_of (by kernel_rfl)) (by kernel_rfl)
theorem n72_33s : codeB Try.prog E cx n72_33 st = thenS (codeB Try.prog E cx n72_34 st) (codeB Try.prog E cx n72_53) := GE.seq_step (by kernel_rfl)
theorem n72_29s : codeB Try.prog E cx n72_29 st = thenS (codeB Try.prog E cx n72_30 st) (codeB Try.prog E cx n72_33) := GE.seq_step (by kernel_rfl)
theorem n72_27s : codeB Try.prog E cx n72_27 st = thenS (codeB Try.prog E cx n72_28 st) (codeB Try.prog E cx n72_29) := GE.seq_step (by kernel_rfl)
theorem n72_26k : LL.kp (⟨72, 41, b, ro⟩ : Cx).fn (4 * rid n72_27 + 3) = some ⟨[1, 2, 4, 7, 20, 21, 22], [⟨1, 0, 1, true⟩, ⟨2, 2, 3, true⟩, ⟨4, 2, 3, true⟩, ⟨4, 3, 1, true⟩, ⟨20, 0, 1, true⟩]⟩ := by kernel_rfl
theorem n72_26s : codeB Try.prog LL ⟨72, 41, b, ro⟩ n72_26 st = headS b ⟨[1, 2, 4, 7, 20, 21, 22], [⟨1, 0, 1, true⟩, ⟨2, 2, 3, true⟩, ⟨4, 2, 3, true⟩, ⟨4, 3, 1, true⟩, ⟨20, 0, 1, true⟩]⟩ st (lpB Try.prog LL ⟨72, 41, b, ro⟩ n72_26 n72_27) := GE.lpB_step (by kernel_rfl) (n72_26k b ro)
theorem n72_26g : LL.code ⟨72, 41, b, ro⟩ n72_26 st = headS b ⟨[1, 2, 4, 7, 20, 21, 22], [⟨1, 0, 1, true⟩, ⟨2, 2, 3, true⟩, ⟨4, 2, 3, true⟩, ⟨4, 3, 1, true⟩, ⟨20, 0, 1, true⟩]⟩ st (lpB Try.prog LL ⟨72, 41, b, ro⟩ n72_26 n72_27) := GE.lpB_again (by kernel_rfl) (n72_26k b ro)
theorem n72_25s : codeB Try.prog E cx n72_25 st = blockS 0 (codeB Try.prog E cx n72_26 st) st := GE.block_step (by kernel_rfl)
theorem n72_23s : codeB Try.prog E cx n72_23 st = thenS (codeB Try.prog E cx n72_24 st) (codeB Try.prog E cx n72_25) := GE.seq_step (by kernel_rfl)
theorem n72_55s : codeB Try.prog E ⟨f, 41, b, ro⟩ n72_55 st = plainS (runOps Try.prog E b q72_55 (ops [true, true, true, true, true, false] Try.f72) st) := GE.region_step (id := 16) (GE.reg_of (by kernel_rfl)) (by kernel_rfl)
theorem n72_56s : codeB Try.prog LL ⟨72, 41, b, ro⟩ n72_56 st = normS b ⟨[4, 5], [⟨4, 2, 3, true⟩, ⟨4, 3, 1, true⟩]⟩ .ret st := GE.ret_step (by kernel_rfl) (by kernel_rfl)
theorem n72_54s : codeB Try.prog E cx n72_54 st = thenS (codeB Try.prog E cx n72_55 st) (codeB Try.prog E cx n72_56) := GE.seq_step (by kernel_rfl)
theorem n72_22s : codeB Try.prog E cx n72_22 st = thenS (codeB Try.prog E cx n72_23 st) (codeB Try.prog E cx n72_54) := GE.seq_step (by kernel_rfl)
theorem n72_20s : codeB Try.prog E cx n72_20 st = thenS (codeB Try.prog E cx n72_21 st) (codeB Try.prog E cx n72_22) := GE.seq_step (by kernel_rfl)
theorem n72_12s : codeB Try.prog E cx n72_12 st = thenS (codeB Try.prog E cx n72_13 st) (codeB Try.prog E cx n72_20) := GE.seq_step (by kernel_rfl)
theorem n72_2s : codeB Try.prog E cx n72_2 st = thenS (codeB Try.prog E cx n72_3 st) (codeB Try.prog E cx n72_12) := GE.seq_step (by kernel_rfl)
theorem n72_0s : codeB Try.prog E cx n72_0 st = thenS (codeB Try.prog E cx n72_1 st) (codeB Try.prog E cx n72_2) := GE.seq_step (by kernel_rfl)
noncomputable def n73_0 : Code := bodyOf Try.f73
noncomputable def n73_1 : Code := cl n73_0
noncomputable def q73_1 : List Oper := opsOf n73_1
noncomputable def n73_2 : Code := cr n73_0
noncomputable def n73_3 : Code := cl n73_2
noncomputable def n73_4 : Code := cl n73_3
noncomputable def q73_4 : List Oper := opsOf n73_4
noncomputable def n73_5 : Code := cr n73_3
noncomputable def n73_6 : Code := cl n73_5
noncomputable def n73_7 : Code := cl n73_6
noncomputable def n73_8 : Code := cl n73_7
noncomputable def q73_8 : List Oper := opsOf n73_8
noncomputable def n73_9 : Code := cr n73_7
noncomputable def n73_10 : Code := cl n73_9
noncomputable def n73_11 : Code := cl n73_10
noncomputable def n73_12 : Code := cr n73_10
noncomputable def n73_13 : Code := cr n73_9
noncomputable def n73_14 : Code := cl n73_13
noncomputable def n73_15 : Code := cl n73_14
noncomputable def n73_16 : Code := cl n73_15
noncomputable def q73_16 : List Oper := opsOf n73_16
noncomputable def n73_17 : Code := cr n73_15
noncomputable def n73_18 : Code := cl n73_17
noncomputable def q73_18 : List Oper := opsOf n73_18
noncomputable def n73_19 : Code := cr n73_17
noncomputable def n73_20 : Code := cl n73_19
noncomputable def n73_21 : Code := cl n73_20
noncomputable def n73_22 : Code := cl n73_21
noncomputable def q73_22 : List Oper := opsOf n73_22
noncomputable def n73_23 : Code := cr n73_21
noncomputable def q73_23 : List Oper := opsOf n73_23
noncomputable def n73_24 : Code := cr n73_20
noncomputable def n73_25 : Code := cl n73_24
noncomputable def n73_26 : Code := cl n73_25
noncomputable def q73_26 : List Oper := opsOf n73_26
noncomputable def n73_27 : Code := cr n73_25
noncomputable def n73_28 : Code := cl n73_27
noncomputable def n73_29 : Code := cl n73_28
noncomputable def q73_29 : List Oper := opsOf n73_29
noncomputable def n73_30 : Code := cr n73_28
noncomputable def n73_31 : Code := cr n73_27
noncomputable def n73_32 : Code := cr n73_13
noncomputable def q73_32 : List Oper := opsOf n73_32
noncomputable def n73_33 : Code := cr n73_2
noncomputable def n73_34 : Code := cl n73_33
noncomputable def q73_34 : List Oper := opsOf n73_34
noncomputable def n73_35 : Code := cr n73_33
theorem body73 : Try.f73.body = some n73_0 := by kernel_rfl
theorem run73 (E : Ev) (args : List Value) (h : List Blk) (hl : args.length ≤ 47) : runB Try.prog E 73 args h = endS Try.prog [.cell 4 4] h.length (codeB Try.prog E ⟨73, 47, h.length, none⟩ n73_0 ⟨enumT 0 args, h, []⟩) := GE.run_step Try.func73 body73 (by kernel_rfl) (by decide) (by kernel_rfl) hl
theorem n73_1s : codeB Try.prog E ⟨f, 47, b, ro⟩ n73_1 st = plainS (runOps Try.prog E b q73_1 (ops [false] Try.f73) st) := GE.region_step (id := 0) (GE.reg_of (by kernel_rfl)) (by kernel_rfl)
theorem n73_4s : codeB Try.prog E ⟨f, 47, b, ro⟩ n73_4 st = plainS (runOps Try.prog E b q73_4 (ops [true, false, false] Try.f73) st) := GE.region_step (id := 1) (GE.reg_of (by kernel_rfl)) (by kernel_rfl)
theorem n73_8s : codeB Try.prog E ⟨f, 47, b, ro⟩ n73_8 st = plainS (runOps Try.prog E b q73_8 (ops [true, false, true, false, false, false] Try.f73) st) := GE.region_step (id := 2) (GE.reg_of (by kernel_rfl)) (by kernel_rfl)
theorem n73_11s : codeB Try.prog E cx n73_11 st = some (.normal, st) := GE.skip_step (by kernel_rfl)
theorem n73_12s : codeB Try.prog LL ⟨73, 47, b, ro⟩ n73_12 st = normS b ⟨[4], []⟩ (.exit 0) st := GE.exit_step (by kernel_rfl) (by kernel_rfl)
theorem n73_10s : codeB Try.prog E cx n73_10 st = condS (codeB Try.prog E cx n73_11) (codeB Try.prog E cx n73_12) (lk st.σ 14) st := GE.cond_step (c := .tmp 14) (by kernel_rfl)
theorem n73_16s : codeB Try.prog E ⟨f, 47, b, ro⟩ n73_16 st = plainS (runOps Try.prog E b q73_16 (ops [true, false, true, false, false, true, true, false, false, false] Try.f73) st) := GE.region_step (id := 3) (GE.reg_of (by kernel_rfl)) (by kernel_rfl)
theorem n73_18s : codeB Try.prog E ⟨f, 47, b, ro⟩ n73_18 st = drawS [0, 0, 0, 4, 14, 31] (runOpsF Try.prog E b q73_18 (ops [true, false, true, false, false, true, true, false, false, true, false] Try.f73) st) := GE.draw_step (id := 4) (GE.reg_of (by kernel_rfl)) (by kernel_rfl) (by kernel_rfl) (by kernel_rfl)
theorem n73_22s : codeB Try.prog E ⟨f, 47, b, ro⟩ n73_22 st = plainS (runOps Try.prog E b q73_22 (ops [true, false, true, false, false, true, true, false, false, true, true, false, false, false] Try.f73) st) := GE.region_step (id := 5) (GE.reg_of (by kernel_rfl)) (by kernel_rfl)
theorem n73_23s : codeB Try.prog E ⟨f, 47, b, ro⟩ n73_23 st = plainS (runOps Try.prog E b q73_23 (ops [true, false, true, false, false, true, true, false, false, true, true, false, false, true] Try.f73) st) := GE.region_step (id := 6) (GE.reg_of (by kernel_rfl)) (by kernel_rfl)
theorem n73_21s : codeB Try.prog E cx n73_21 st = thenS (codeB Try.prog E cx n73_22 st) (codeB Try.prog E cx n73_23) := GE.seq_step (by kernel_rfl)
theorem q73_26g3 : gd q73_26 3 = some 29 := by kernel_rfl
theorem q73_26g8 : gd q73_26 8 = some 34 := by kernel_rfl
theorem q73_26g13 : gd q73_26 13 = some 39 := by kernel_rfl
theorem n73_26s : codeB Try.prog E ⟨f, 47, b, ro⟩ n73_26 st = plainS (runOps Try.prog E b q73_26 (ops [true, false, true, false, false, true, true, false, false, true, true, false, true, false, false] Try.f73) st) := GE.region_step (id := 7) (GE.reg_of (by kernel_rfl)) (by kernel_rfl)
theorem n73_29s : codeB Try.prog E ⟨f, 47, b, ro⟩ n73_29 st = plainS (runOps Try.prog E b q73_29 (ops [true, false, true, false, false, true, true, false, false, true, true, false, true, false, true, false, false] Try.f73) st) := GE.region_step (id := 8) (GE.reg_of (by kernel_rfl)) (by kernel_rfl)
theorem n73_30s : codeB Try.prog LL ⟨73, 47, b, ro⟩ n73_30 st = normS b ⟨[4], []⟩ .ret st := GE.ret_step (by kernel_rfl) (by kernel_rfl)
theorem n73_28s : codeB Try.prog E cx n73_28 st = thenS (codeB Try.prog E cx n73_29 st) (codeB Try.prog E cx n73_30) := GE.seq_step (by kernel_rfl)
theorem n73_31s : codeB Try.prog E cx n73_31 st = some (.normal, st) := GE.skip_step (by kernel_rfl)
theorem n73_27s : codeB Try.prog E cx n73_27 st = condS (codeB Try.prog E cx n73_28) (codeB Try.prog E cx n73_31) (lk st.σ 45) st := GE.cond_step (c := .tmp 45) (by kernel_rfl)
theorem n73_25s : codeB Try.prog E cx n73_25 st = thenS (codeB Try.prog E cx n73_26 st) (codeB Try.prog E cx n73_27) := GE.seq_step (by kernel_rfl)
theorem n73_24s : codeB Try.prog E cx n73_24 st = blockS 3 (codeB Try.prog E cx n73_25 st) st := GE.block_step (by kernel_rfl)
theorem n73_20e : n73_20 = .rangeFunc (.tmp 23) #[24, 25] n73_21 n73_24 := by kernel_rfl
theorem n73_20k : (ue n73_21).1 ++ (ue n73_24).1 = [24, 25, 7, 5, 3, 2, 8, 6, 4] := by kernel_rfl
theorem n73_19s : codeB Try.prog E cx n73_19 st = blockS 2 (codeB Try.prog E cx n73_20 st) st := GE.block_step (by kernel_rfl)
theorem n73_17s : codeB Try.prog E cx n73_17 st = thenS (codeB Try.prog E cx n73_18 st) (codeB Try.prog E cx n73_19) := GE.seq_step (by kernel_rfl)
theorem n73_15s : codeB Try.prog E cx n73_15 st = thenS (codeB Try.prog E cx n73_16 st) (codeB Try.prog E cx n73_17) := GE.seq_step (by kernel_rfl)
theorem n73_14s : codeB Try.prog E cx n73_14 st = blockS 1 (codeB Try.prog E cx n73_15 st) st := GE.block_step (by kernel_rfl)
theorem n73_32s : codeB Try.prog E ⟨f, 47, b, ro⟩ n73_32 st = plainS (runOps Try.prog E b q73_32 (ops [true, false, true, false, false, true, true, true] Try.f73) st) := GE.region_step (id := 9) (GE.reg_of (by kernel_rfl)) (by kernel_rfl)
theorem n73_13s : codeB Try.prog E cx n73_13 st = thenS (codeB Try.prog E cx n73_14 st) (codeB Try.prog E cx n73_32) := GE.seq_step (by kernel_rfl)
theorem n73_9s : codeB Try.prog E cx n73_9 st = thenS (codeB Try.prog E cx n73_10 st) (codeB Try.prog E cx n73_13) := GE.seq_step (by kernel_rfl)
theorem n73_7s : codeB Try.prog E cx n73_7 st = thenS (codeB Try.prog E cx n73_8 st) (codeB Try.prog E cx n73_9) := GE.seq_step (by kernel_rfl)
theorem n73_6k : LL.kp (⟨73, 47, b, ro⟩ : Cx).fn (4 * rid n73_7 + 3) = some ⟨[2, 3, 4, 7, 8, 11, 12, 13, 24, 25], [⟨2, 2, 3, true⟩, ⟨2, 3, 1, true⟩, ⟨11, 0, 3, true⟩]⟩ := by kernel_rfl
theorem n73_6s : codeB Try.prog LL ⟨73, 47, b, ro⟩ n73_6 st = headS b ⟨[2, 3, 4, 7, 8, 11, 12, 13, 24, 25], [⟨2, 2, 3, true⟩, ⟨2, 3, 1, true⟩, ⟨11, 0, 3, true⟩]⟩ st (lpB Try.prog LL ⟨73, 47, b, ro⟩ n73_6 n73_7) := GE.lpB_step (by kernel_rfl) (n73_6k b ro)
theorem n73_6g : LL.code ⟨73, 47, b, ro⟩ n73_6 st = headS b ⟨[2, 3, 4, 7, 8, 11, 12, 13, 24, 25], [⟨2, 2, 3, true⟩, ⟨2, 3, 1, true⟩, ⟨11, 0, 3, true⟩]⟩ st (lpB Try.prog LL ⟨73, 47, b, ro⟩ n73_6 n73_7) := GE.lpB_again (by kernel_rfl) (n73_6k b ro)
theorem n73_5s : codeB Try.prog E cx n73_5 st = blockS 0 (codeB Try.prog E cx n73_6 st) st := GE.block_step (by kernel_rfl)
theorem n73_3s : codeB Try.prog E cx n73_3 st = thenS (codeB Try.prog E cx n73_4 st) (codeB Try.prog E cx n73_5) := GE.seq_step (by kernel_rfl)
theorem n73_34s : codeB Try.prog E ⟨f, 47, b, ro⟩ n73_34 st = plainS (runOps Try.prog E b q73_34 (ops [true, true, false] Try.f73) st) := GE.region_step (id := 10) (GE.reg_of (by kernel_rfl)) (by kernel_rfl)
theorem n73_35s : codeB Try.prog LL ⟨73, 47, b, ro⟩ n73_35 st = normS b ⟨[4], []⟩ .ret st := GE.ret_step (by kernel_rfl) (by kernel_rfl)
theorem n73_33s : codeB Try.prog E cx n73_33 st = thenS (codeB Try.prog E cx n73_34 st) (codeB Try.prog E cx n73_35) := GE.seq_step (by kernel_rfl)
theorem n73_2s : codeB Try.prog E cx n73_2 st = thenS (codeB Try.prog E cx n73_3 st) (codeB Try.prog E cx n73_33) := GE.seq_step (by kernel_rfl)
theorem n73_0s : codeB Try.prog E cx n73_0 st = thenS (codeB Try.prog E cx n73_1 st) (codeB Try.prog E cx n73_2) := GE.seq_step (by kernel_rfl)
noncomputable def n74_0 : Code := bodyOf Try.f74
noncomputable def n74_1 : Code := cl n74_0
noncomputable def q74_1 : List Oper := opsOf n74_1
noncomputable def n74_2 : Code := cr n74_0
noncomputable def n74_3 : Code := cl n74_2
noncomputable def n74_4 : Code := cl n74_3
noncomputable def n74_5 : Code := cl n74_4
noncomputable def q74_5 : List Oper := opsOf n74_5
noncomputable def n74_6 : Code := cr n74_4
noncomputable def n74_7 : Code := cl n74_6
noncomputable def n74_8 : Code := cl n74_7
noncomputable def n74_9 : Code := cr n74_7
noncomputable def n74_10 : Code := cr n74_6
noncomputable def n74_11 : Code := cl n74_10
noncomputable def n74_12 : Code := cl n74_11
noncomputable def n74_13 : Code := cl n74_12
noncomputable def q74_13 : List Oper := opsOf n74_13
noncomputable def n74_14 : Code := cr n74_12
noncomputable def n74_15 : Code := cl n74_14
noncomputable def q74_15 : List Oper := opsOf n74_15
noncomputable def n74_16 : Code := cr n74_14
noncomputable def n74_17 : Code := cl n74_16
noncomputable def n74_18 : Code := cl n74_17
noncomputable def q74_18 : List Oper := opsOf n74_18
noncomputable def n74_19 : Code := cr n74_17
noncomputable def n74_20 : Code := cl n74_19
noncomputable def n74_21 : Code := cl n74_20
noncomputable def n74_22 : Code := cl n74_21
noncomputable def q74_22 : List Oper := opsOf n74_22
noncomputable def n74_23 : Code := cr n74_21
noncomputable def n74_24 : Code := cl n74_23
noncomputable def n74_25 : Code := cl n74_24
noncomputable def n74_26 : Code := cr n74_24
noncomputable def n74_27 : Code := cr n74_23
noncomputable def n74_28 : Code := cl n74_27
noncomputable def n74_29 : Code := cl n74_28
noncomputable def n74_30 : Code := cl n74_29
noncomputable def q74_30 : List Oper := opsOf n74_30
noncomputable def n74_31 : Code := cr n74_29
noncomputable def q74_31 : List Oper := opsOf n74_31
noncomputable def n74_32 : Code := cr n74_27
noncomputable def q74_32 : List Oper := opsOf n74_32
noncomputable def n74_33 : Code := cr n74_16
noncomputable def q74_33 : List Oper := opsOf n74_33
noncomputable def n74_34 : Code := cr n74_10
noncomputable def q74_34 : List Oper := opsOf n74_34
theorem body74 : Try.f74.body = some n74_0 := by kernel_rfl
theorem run74 (E : Ev) (args : List Value) (h : List Blk) (hl : args.length ≤ 58) : runB Try.prog E 74 args h = endS Try.prog [] h.length (codeB Try.prog E ⟨74, 58, h.length, none⟩ n74_0 ⟨enumT 0 args, h, []⟩) := GE.run_step Try.func74 body74 (by kernel_rfl) (by decide) (by kernel_rfl) hl
theorem n74_1s : codeB Try.prog E ⟨f, 58, b, ro⟩ n74_1 st = plainS (runOps Try.prog E b q74_1 (ops [false] Try.f74) st) := GE.region_step (id := 0) (GE.reg_of (by kernel_rfl)) (by kernel_rfl)
theorem n74_5s : codeB Try.prog E ⟨f, 58, b, ro⟩ n74_5 st = plainS (runOps Try.prog E b q74_5 (ops [true, false, false, false] Try.f74) st) := GE.region_step (id := 1) (GE.reg_of (by kernel_rfl)) (by kernel_rfl)
theorem n74_8s : codeB Try.prog E cx n74_8 st = some (.normal, st) := GE.skip_step (by kernel_rfl)
theorem n74_9s : codeB Try.prog LL ⟨74, 58, b, ro⟩ n74_9 st = normS b ⟨[], []⟩ (.exit 0) st := GE.exit_step (by kernel_rfl) (by kernel_rfl)
theorem n74_7s : codeB Try.prog E cx n74_7 st = condS (codeB Try.prog E cx n74_8) (codeB Try.prog E cx n74_9) (lk st.σ 14) st := GE.cond_step (c := .tmp 14) (by kernel_rfl)
theorem n74_13s : codeB Try.prog E ⟨f, 58, b, ro⟩ n74_13 st = plainS (runOps Try.prog E b q74_13 (ops [true, false, false, true, true, false, false, false] Try.f74) st) := GE.region_step (id := 2) (GE.reg_of (by kernel_rfl)) (by kernel_rfl)
theorem n74_15s : codeB Try.prog E ⟨f, 58, b, ro⟩ n74_15 st = plainS (runOps Try.prog E b q74_15 (ops [true, false, false, true, true, false, false, true, false] Try.f74) st) := GE.region_step (id := 3) (GE.reg_of (by kernel_rfl)) (by kernel_rfl)
theorem n74_18s : codeB Try.prog E ⟨f, 58, b, ro⟩ n74_18 st = plainS (runOps Try.prog E b q74_18 (ops [true, false, false, true, true, false, false, true, true, false, false] Try.f74) st) := GE.region_step (id := 4) (GE.reg_of (by kernel_rfl)) (by kernel_rfl)
theorem n74_22s : codeB Try.prog E ⟨f, 58, b, ro⟩ n74_22 st = plainS (runOps Try.prog E b q74_22 (ops [true, false, false, true, true, false, false, true, true, false, true, false, false, false] Try.f74) st) := GE.region_step (id := 5) (GE.reg_of (by kernel_rfl)) (by kernel_rfl)
theorem n74_25s : codeB Try.prog E cx n74_25 st = some (.normal, st) := GE.skip_step (by kernel_rfl)
theorem n74_26s : codeB Try.prog LL ⟨74, 58, b, ro⟩ n74_26 st = normS b ⟨[10, 11, 0, 1, 2, 3, 4, 13], []⟩ (.exit 2) st := GE.exit_step (by kernel_rfl) (by kernel_rfl)
theorem n74_24s : codeB Try.prog E cx n74_24 st = condS (codeB Try.prog E cx n74_25) (codeB Try.prog E cx n74_26) (lk st.σ 17) st := GE.cond_step (c := .tmp 17) (by kernel_rfl)
theorem n74_30s : codeB Try.prog E ⟨f, 58, b, ro⟩ n74_30 st = plainS (runOps Try.prog E b q74_30 (ops [true, false, false, true, true, false, false, true, true, false, true, false, false, true, true, false, false, false] Try.f74) st) := GE.region_step (id := 6) (GE.reg_of (by kernel_rfl)) (by kernel_rfl)
theorem q74_31g1 : gd q74_31 1 = some 20 := by kernel_rfl
theorem q74_31g7 : gd q74_31 7 = some 26 := by kernel_rfl
theorem q74_31g9 : gd q74_31 9 = some 28 := by kernel_rfl
theorem q74_31g15 : gd q74_31 15 = some 34 := by kernel_rfl
theorem n74_31s : codeB Try.prog E ⟨f, 58, b, ro⟩ n74_31 st = plainS (runOps Try.prog E b q74_31 (ops [true, false, false, true, true, false, false, true, true, false, true, false, false, true, true, false, false, true] Try.f74) st) := GE.region_step (id := 7) (GE.reg_of (by kernel_rfl)) (by kernel_rfl)
theorem n74_29s : codeB Try.prog E cx n74_29 st = thenS (codeB Try.prog E cx n74_30 st) (codeB Try.prog E cx n74_31) := GE.seq_step (by kernel_rfl)
theorem n74_28s : codeB Try.prog E cx n74_28 st = blockS 3 (codeB Try.prog E cx n74_29 st) st := GE.block_step (by kernel_rfl)
theorem n74_32s : codeB Try.prog E ⟨f, 58, b, ro⟩ n74_32 st = plainS (runOps Try.prog E b q74_32 (ops [true, false, false, true, true, false, false, true, true, false, true, false, false, true, true, true] Try.f74) st) := GE.region_step (id := 8) (GE.reg_of (by kernel_rfl)) (by kernel_rfl)
theorem n74_27s : codeB Try.prog E cx n74_27 st = thenS (codeB Try.prog E cx n74_28 st) (codeB Try.prog E cx n74_32) := GE.seq_step (by kernel_rfl)
theorem n74_23s : codeB Try.prog E cx n74_23 st = thenS (codeB Try.prog E cx n74_24 st) (codeB Try.prog E cx n74_27) := GE.seq_step (by kernel_rfl)
theorem n74_21s : codeB Try.prog E cx n74_21 st = thenS (codeB Try.prog E cx n74_22 st) (codeB Try.prog E cx n74_23) := GE.seq_step (by kernel_rfl)
theorem n74_20k : LL.kp (⟨74, 58, b, ro⟩ : Cx).fn (4 * rid n74_21 + 3) = some ⟨[10, 11, 16, 0, 1, 2, 3, 4, 13], []⟩ := by kernel_rfl
theorem n74_20s : codeB Try.prog LL ⟨74, 58, b, ro⟩ n74_20 st = headS b ⟨[10, 11, 16, 0, 1, 2, 3, 4, 13], []⟩ st (lpB Try.prog LL ⟨74, 58, b, ro⟩ n74_20 n74_21) := GE.lpB_step (by kernel_rfl) (n74_20k b ro)
theorem n74_20g : LL.code ⟨74, 58, b, ro⟩ n74_20 st = headS b ⟨[10, 11, 16, 0, 1, 2, 3, 4, 13], []⟩ st (lpB Try.prog LL ⟨74, 58, b, ro⟩ n74_20 n74_21) := GE.lpB_again (by kernel_rfl) (n74_20k b ro)
theorem n74_19s : codeB Try.prog E cx n74_19 st = blockS 2 (codeB Try.prog E cx n74_20 st) st := GE.block_step (by kernel_rfl)
theorem n74_17s : codeB Try.prog E cx n74_17 st = thenS (codeB Try.prog E cx n74_18 st) (codeB Try.prog E cx n74_19) := GE.seq_step (by kernel_rfl)
theorem q74_33g7 : gd q74_33 7 = some 52 := by kernel_rfl
theorem n74_33s : codeB Try.prog E ⟨f, 58, b, ro⟩ n74_33 st = drawS [0, 0, 0, 0, 4, 28, 60, 124, 252, 508, 1, 2047, 4095] (runOpsF Try.prog E b q74_33 (ops [true, false, false, true, true, false, false, true, true, true] Try.f74) st) := GE.draw_step (id := 9) (GE.reg_of (by kernel_rfl)) (by kernel_rfl) (by kernel_rfl) (by kernel_rfl)
theorem n74_16s : codeB Try.prog E cx n74_16 st = thenS (codeB Try.prog E cx n74_17 st) (codeB Try.prog E cx n74_33) := GE.seq_step (by kernel_rfl)
theorem n74_14s : codeB Try.prog E cx n74_14 st = thenS (codeB Try.prog E cx n74_15 st) (codeB Try.prog E cx n74_16) := GE.seq_step (by kernel_rfl)
theorem n74_12s : codeB Try.prog E cx n74_12 st = thenS (codeB Try.prog E cx n74_13 st) (codeB Try.prog E cx n74_14) := GE.seq_step (by kernel_rfl)
theorem n74_11s : codeB Try.prog E cx n74_11 st = blockS 1 (codeB Try.prog E cx n74_12 st) st := GE.block_step (by kernel_rfl)
theorem n74_34s : codeB Try.prog E ⟨f, 58, b, ro⟩ n74_34 st = plainS (runOps Try.prog E b q74_34 (ops [true, false, false, true, true, true] Try.f74) st) := GE.region_step (id := 10) (GE.reg_of (by kernel_rfl)) (by kernel_rfl)
theorem n74_10s : codeB Try.prog E cx n74_10 st = thenS (codeB Try.prog E cx n74_11 st) (codeB Try.prog E cx n74_34) := GE.seq_step (by kernel_rfl)
theorem n74_6s : codeB Try.prog E cx n74_6 st = thenS (codeB Try.prog E cx n74_7 st) (codeB Try.prog E cx n74_10) := GE.seq_step (by kernel_rfl)
theorem n74_4s : codeB Try.prog E cx n74_4 st = thenS (codeB Try.prog E cx n74_5 st) (codeB Try.prog E cx n74_6) := GE.seq_step (by kernel_rfl)
theorem n74_3k : LL.kp (⟨74, 58, b, ro⟩ : Cx).fn (4 * rid n74_4 + 3) = some ⟨[0, 1, 2, 3, 4, 13], []⟩ := by kernel_rfl
theorem n74_3s : codeB Try.prog LL ⟨74, 58, b, ro⟩ n74_3 st = headS b ⟨[0, 1, 2, 3, 4, 13], []⟩ st (lpB Try.prog LL ⟨74, 58, b, ro⟩ n74_3 n74_4) := GE.lpB_step (by kernel_rfl) (n74_3k b ro)
theorem n74_3g : LL.code ⟨74, 58, b, ro⟩ n74_3 st = headS b ⟨[0, 1, 2, 3, 4, 13], []⟩ st (lpB Try.prog LL ⟨74, 58, b, ro⟩ n74_3 n74_4) := GE.lpB_again (by kernel_rfl) (n74_3k b ro)
theorem n74_2s : codeB Try.prog E cx n74_2 st = blockS 0 (codeB Try.prog E cx n74_3 st) st := GE.block_step (by kernel_rfl)
theorem n74_0s : codeB Try.prog E cx n74_0 st = thenS (codeB Try.prog E cx n74_1 st) (codeB Try.prog E cx n74_2) := GE.seq_step (by kernel_rfl)
noncomputable def n82_0 : Code := bodyOf Try.f82
noncomputable def n82_1 : Code := cl n82_0
noncomputable def q82_1 : List Oper := opsOf n82_1
noncomputable def n82_2 : Code := cr n82_0
noncomputable def n82_3 : Code := cl n82_2
noncomputable def n82_4 : Code := cl n82_3
noncomputable def q82_4 : List Oper := opsOf n82_4
noncomputable def n82_5 : Code := cr n82_3
noncomputable def n82_6 : Code := cl n82_5
noncomputable def n82_7 : Code := cl n82_6
noncomputable def n82_8 : Code := cl n82_7
noncomputable def q82_8 : List Oper := opsOf n82_8
noncomputable def n82_9 : Code := cr n82_7
noncomputable def n82_10 : Code := cl n82_9
noncomputable def n82_11 : Code := cl n82_10
noncomputable def n82_12 : Code := cr n82_10
noncomputable def n82_13 : Code := cr n82_9
noncomputable def n82_14 : Code := cl n82_13
noncomputable def n82_15 : Code := cl n82_14
noncomputable def n82_16 : Code := cl n82_15
noncomputable def q82_16 : List Oper := opsOf n82_16
noncomputable def n82_17 : Code := cr n82_15
noncomputable def n82_18 : Code := cl n82_17
noncomputable def q82_18 : List Oper := opsOf n82_18
noncomputable def n82_19 : Code := cr n82_17
noncomputable def n82_20 : Code := cl n82_19
noncomputable def n82_21 : Code := cl n82_20
noncomputable def q82_21 : List Oper := opsOf n82_21
noncomputable def n82_22 : Code := cr n82_20
noncomputable def n82_23 : Code := cr n82_19
noncomputable def n82_24 : Code := cr n82_13
noncomputable def q82_24 : List Oper := opsOf n82_24
noncomputable def n82_25 : Code := cr n82_2
noncomputable def n82_26 : Code := cl n82_25
noncomputable def q82_26 : List Oper := opsOf n82_26
noncomputable def n82_27 : Code := cr n82_25
theorem body82 : Try.f82.body = some n82_0 := by kernel_rfl
theorem run82 (E : Ev) (args : List Value) (h : List Blk) (hl : args.length ≤ 19) : runB Try.prog E 82 args h = endS Try.prog [.tmp 4] h.length (codeB Try.prog E ⟨82, 19, h.length, none⟩ n82_0 ⟨enumT 0 args, h, []⟩) := GE.run_step Try.func82 body82 (by kernel_rfl) (by decide) (by kernel_rfl) hl
theorem n82_1s : codeB Try.prog E ⟨f, 19, b, ro⟩ n82_1 st = plainS (runOps Try.prog E b q82_1 (ops [false] Try.f82) st) := GE.region_step (id := 0) (GE.reg_of (by kernel_rfl)) (by kernel_rfl)
theorem n82_4s : codeB Try.prog E ⟨f, 19, b, ro⟩ n82_4 st = plainS (runOps Try.prog E b q82_4 (ops [true, false, false] Try.f82) st) := GE.region_step (id := 1) (GE.reg_of (by kernel_rfl)) (by kernel_rfl)
theorem n82_8s : codeB Try.prog E ⟨f, 19, b, ro⟩ n82_8 st = plainS (runOps Try.prog E b q82_8 (ops [true, false, true, false, false, false] Try.f82) st) := GE.region_step (id := 2) (GE.reg_of (by kernel_rfl)) (by kernel_rfl)
theorem n82_11s : codeB Try.prog E cx n82_11 st = some (.normal, st) := GE.skip_step (by kernel_rfl)
theorem n82_12s : codeB Try.prog LL ⟨82, 19, b, ro⟩ n82_12 st = normS b ⟨[], []⟩ (.exit 0) st := GE.exit_step (by kernel_rfl) (by kernel_rfl)
theorem n82_10s : codeB Try.prog E cx n82_10 st = condS (codeB Try.prog E cx n82_11) (codeB Try.prog E cx n82_12) (lk st.σ 9) st := GE.cond_step (c := .tmp 9) (by kernel_rfl)
theorem n82_16s : codeB Try.prog E ⟨f, 19, b, ro⟩ n82_16 st = plainS (runOps Try.prog E b q82_16 (ops [true, false, true, false, false, true, true, false, false, false] Try.f82) st) := GE.region_step (id := 3) (GE.reg_of (by kernel_rfl)) (by kernel_rfl)
theorem n82_18s : codeB Try.prog E ⟨f, 19, b, ro⟩ n82_18 st = plainS (runOps Try.prog E b q82_18 (ops [true, false, true, false, false, true, true, false, false, true, false] Try.f82) st) := GE.region_step (id := 4) (GE.reg_of (by kernel_rfl)) (by kernel_rfl)
theorem n82_21s : codeB Try.prog E ⟨f, 19, b, ro⟩ n82_21 st = plainS (runOps Try.prog E b q82_21 (ops [true, false, true, false, false, true, true, false, false, true, true, false, false] Try.f82) st) := GE.region_step (id := 5) (GE.reg_of (by kernel_rfl)) (by kernel_rfl)
theorem n82_22s : codeB Try.prog LL ⟨82, 19, b, ro⟩ n82_22 st = normS b ⟨[4], []⟩ .ret st := GE.ret_step (by kernel_rfl) (by kernel_rfl)
theorem n82_20s : codeB Try.prog E cx n82_20 st = thenS (codeB Try.prog E cx n82_21 st) (codeB Try.prog E cx n82_22) := GE.seq_step (by kernel_rfl)
theorem n82_23s : codeB Try.prog E cx n82_23 st = some (.normal, st) := GE.skip_step (by kernel_rfl)
theorem n82_19s : codeB Try.prog E cx n82_19 st = condS (codeB Try.prog E cx n82_20) (codeB Try.prog E cx n82_23) (lk st.σ 16) st := GE.cond_step (c := .tmp 16) (by kernel_rfl)
theorem n82_17s : codeB Try.prog E cx n82_17 st = thenS (codeB Try.prog E cx n82_18 st) (codeB Try.prog E cx n82_19) := GE.seq_step (by kernel_rfl)
theorem n82_15s : codeB Try.prog E cx n82_15 st = thenS (codeB Try.prog E cx n82_16 st) (codeB Try.prog E cx n82_17) := GE.seq_step (by kernel_rfl)
theorem n82_14s : codeB Try.prog E cx n82_14 st = blockS 1 (codeB Try.prog E cx n82_15 st) st := GE.block_step (by kernel_rfl)
theorem n82_24s : codeB Try.prog E ⟨f, 19, b, ro⟩ n82_24 st = plainS (runOps Try.prog E b q82_24 (ops [true, false, true, false, false, true, true, true] Try.f82) st) := GE.region_step (id := 6) (GE.reg_of (by kernel_rfl)) (by kernel_rfl)
theorem n82_13s : codeB Try.prog E cx n82_13 st = thenS (codeB Try.prog E cx n82_14 st) (codeB Try.prog E cx n82_24) := GE.seq_step (by kernel_rfl)
theorem n82_9s : codeB Try.prog E cx n82_9 st = thenS (codeB Try.prog E cx n82_10 st) (codeB Try.prog E cx n82_13) := GE.seq_step (by kernel_rfl)
theorem n82_7s : codeB Try.prog E cx n82_7 st = thenS (codeB Try.prog E cx n82_8 st) (codeB Try.prog E cx n82_9) := GE.seq_step (by kernel_rfl)
theorem n82_6k : LL.kp (⟨82, 19, b, ro⟩ : Cx).fn (4 * rid n82_7 + 3) = some ⟨[0, 1, 7, 8], [⟨0, 0, 3, true⟩]⟩ := by kernel_rfl
theorem n82_6s : codeB Try.prog LL ⟨82, 19, b, ro⟩ n82_6 st = headS b ⟨[0, 1, 7, 8], [⟨0, 0, 3, true⟩]⟩ st (lpB Try.prog LL ⟨82, 19, b, ro⟩ n82_6 n82_7) := GE.lpB_step (by kernel_rfl) (n82_6k b ro)
theorem n82_6g : LL.code ⟨82, 19, b, ro⟩ n82_6 st = headS b ⟨[0, 1, 7, 8], [⟨0, 0, 3, true⟩]⟩ st (lpB Try.prog LL ⟨82, 19, b, ro⟩ n82_6 n82_7) := GE.lpB_again (by kernel_rfl) (n82_6k b ro)
theorem n82_5s : codeB Try.prog E cx n82_5 st = blockS 0 (codeB Try.prog E cx n82_6 st) st := GE.block_step (by kernel_rfl)
theorem n82_3s : codeB Try.prog E cx n82_3 st = thenS (codeB Try.prog E cx n82_4 st) (codeB Try.prog E cx n82_5) := GE.seq_step (by kernel_rfl)
theorem n82_26s : codeB Try.prog E ⟨f, 19, b, ro⟩ n82_26 st = plainS (runOps Try.prog E b q82_26 (ops [true, true, false] Try.f82) st) := GE.region_step (id := 7) (GE.reg_of (by kernel_rfl)) (by kernel_rfl)
theorem n82_27s : codeB Try.prog LL ⟨82, 19, b, ro⟩ n82_27 st = normS b ⟨[4], []⟩ .ret st := GE.ret_step (by kernel_rfl) (by kernel_rfl)
theorem n82_25s : codeB Try.prog E cx n82_25 st = thenS (codeB Try.prog E cx n82_26 st) (codeB Try.prog E cx n82_27) := GE.seq_step (by kernel_rfl)
theorem n82_2s : codeB Try.prog E cx n82_2 st = thenS (codeB Try.prog E cx n82_3 st) (codeB Try.prog E cx n82_25) := GE.seq_step (by kernel_rfl)
theorem n82_0s : codeB Try.prog E cx n82_0 st = thenS (codeB Try.prog E cx n82_1 st) (codeB Try.prog E cx n82_2) := GE.seq_step (by kernel_rfl)
noncomputable def n83_0 : Code := bodyOf Try.f83
noncomputable def n83_1 : Code := cl n83_0
noncomputable def q83_1 : List Oper := opsOf n83_1
noncomputable def n83_2 : Code := cr n83_0
noncomputable def n83_3 : Code := cl n83_2
noncomputable def q83_3 : List Oper := opsOf n83_3
noncomputable def n83_4 : Code := cr n83_2
theorem body83 : Try.f83.body = some n83_0 := by kernel_rfl
theorem run83 (E : Ev) (args : List Value) (h : List Blk) (hl : args.length ≤ 13) : runB Try.prog E 83 args h = endS Try.prog [.tmp 4] h.length (codeB Try.prog E ⟨83, 13, h.length, none⟩ n83_0 ⟨enumT 0 args, h, []⟩) := GE.run_step Try.func83 body83 (by kernel_rfl) (by decide) (by kernel_rfl) hl
theorem n83_1s : codeB Try.prog E ⟨f, 13, b, ro⟩ n83_1 st = plainS (runOps Try.prog E b q83_1 (ops [false] Try.f83) st) := GE.region_step (id := 0) (GE.reg_of (by kernel_rfl)) (by kernel_rfl)
theorem n83_3s : codeB Try.prog E ⟨f, 13, b, ro⟩ n83_3 st = drawS [0, 0, 0, 4, 0, 28, 60, 127, 255] (runOpsF Try.prog E b q83_3 (ops [true, false] Try.f83) st) := GE.draw_step (id := 1) (GE.reg_of (by kernel_rfl)) (by kernel_rfl) (by kernel_rfl) (by kernel_rfl)
theorem n83_4s : codeB Try.prog LL ⟨83, 13, b, ro⟩ n83_4 st = normS b ⟨[4], []⟩ .ret st := GE.ret_step (by kernel_rfl) (by kernel_rfl)
theorem n83_2s : codeB Try.prog E cx n83_2 st = thenS (codeB Try.prog E cx n83_3 st) (codeB Try.prog E cx n83_4) := GE.seq_step (by kernel_rfl)
theorem n83_0s : codeB Try.prog E cx n83_0 st = thenS (codeB Try.prog E cx n83_1 st) (codeB Try.prog E cx n83_2) := GE.seq_step (by kernel_rfl)
noncomputable def n85_0 : Code := bodyOf Try.f85
noncomputable def n85_1 : Code := cl n85_0
noncomputable def q85_1 : List Oper := opsOf n85_1
noncomputable def n85_2 : Code := cr n85_0
noncomputable def n85_3 : Code := cl n85_2
noncomputable def n85_4 : Code := cl n85_3
noncomputable def q85_4 : List Oper := opsOf n85_4
noncomputable def n85_5 : Code := cr n85_3
noncomputable def n85_6 : Code := cl n85_5
noncomputable def q85_6 : List Oper := opsOf n85_6
noncomputable def n85_7 : Code := cr n85_5
noncomputable def n85_8 : Code := cl n85_7
noncomputable def n85_9 : Code := cl n85_8
noncomputable def q85_9 : List Oper := opsOf n85_9
noncomputable def n85_10 : Code := cr n85_8
noncomputable def n85_11 : Code := cr n85_7
noncomputable def n85_12 : Code := cr n85_2
noncomputable def n85_13 : Code := cl n85_12
noncomputable def q85_13 : List Oper := opsOf n85_13
noncomputable def n85_14 : Code := cr n85_12
noncomputable def n85_15 : Code := cl n85_14
noncomputable def q85_15 : List Oper := opsOf n85_15
noncomputable def n85_16 : Code := cr n85_14
theorem body85 : Try.f85.body = some n85_0 := by kernel_rfl
theorem run85 (E : Ev) (args : List Value) (h : List Blk) (hl : args.length ≤ 53) : runB Try.prog E 85 args h = endS Try.prog [.cell 6 57] h.length (codeB Try.prog E ⟨85, 53, h.length, none⟩ n85_0 ⟨enumT 0 args, h, []⟩) := GE.run_step Try.func85 body85 (by kernel_rfl) (by decide) (by kernel_rfl) hl
theorem n85_1s : codeB Try.prog E ⟨f, 53, b, ro⟩ n85_1 st = plainS (runOps Try.prog E b q85_1 (ops [false] Try.f85) st) := GE.region_step (id := 0) (GE.reg_of (by kernel_rfl)) (by kernel_rfl)
theorem n85_4s : codeB Try.prog E ⟨f, 53, b, ro⟩ n85_4 st = plainS (runOps Try.prog E b q85_4 (ops [true, false, false] Try.f85) st) := GE.region_step (id := 1) (GE.reg_of (by kernel_rfl)) (by kernel_rfl)
theorem n85_6s : codeB Try.prog E ⟨f, 53, b, ro⟩ n85_6 st = plainS (runOps Try.prog E b q85_6 (ops [true, false, true, false] Try.f85) st) := GE.region_step (id := 2) (GE.reg_of (by kernel_rfl)) (by kernel_rfl)
theorem n85_9s : codeB Try.prog E ⟨f, 53, b, ro⟩ n85_9 st = plainS (runOps Try.prog E b q85_9 (ops [true, false, true, true, false, false] Try.f85) st) := GE.region_step (id := 3) (GE.reg_of (by kernel_rfl)) (by kernel_rfl)
theorem n85_10s : codeB Try.prog LL ⟨85, 53, b, ro⟩ n85_10 st = normS b ⟨[6], []⟩ .ret st := GE.ret_step (by kernel_rfl) (by kernel_rfl)
theorem n85_8s : codeB Try.prog E cx n85_8 st = thenS (codeB Try.prog E cx n85_9 st) (codeB Try.prog E cx n85_10) := GE.seq_step (by kernel_rfl)
theorem n85_11s : codeB Try.prog E cx n85_11 st = some (.normal, st) := GE.skip_step (by kernel_rfl)
theorem n85_7s : codeB Try.prog E cx n85_7 st = condS (codeB Try.prog E cx n85_8) (codeB Try.prog E cx n85_11) (lk st.σ 14) st := GE.cond_step (c := .tmp 14) (by kernel_rfl)
theorem n85_5s : codeB Try.prog E cx n85_5 st = thenS (codeB Try.prog E cx n85_6 st) (codeB Try.prog E cx n85_7) := GE.seq_step (by kernel_rfl)
theorem n85_3s : codeB Try.prog E cx n85_3 st = thenS (codeB Try.prog E cx n85_4 st) (codeB Try.prog E cx n85_5) := GE.seq_step (by kernel_rfl)
theorem n85_13s : codeB Try.prog E ⟨f, 53, b, ro⟩ n85_13 st = plainS (runOps Try.prog E b q85_13 (ops [true, true, false] Try.f85) st) := GE.region_step (id := 4) (GE.reg_of (by kernel_rfl)) (by kernel_rfl)
theorem n85_15s : codeB Try.prog E ⟨f, 53, b, ro⟩ n85_15 st = plainS (runOps Try.prog E b q85_15 (ops [true, true, true, false] Try.f85) st) := GE.region_step (id := 5) (GE.reg_of (by kernel_rfl)) (by kernel_rfl)
theorem n85_16s : codeB Try.prog LL ⟨85, 53, b, ro⟩ n85_16 st = normS b ⟨[6], []⟩ .ret st := GE.ret_step (by kernel_rfl) (by kernel_rfl)
theorem n85_14s : codeB Try.prog E cx n85_14 st = thenS (codeB Try.prog E cx n85_15 st) (codeB Try.prog E cx n85_16) := GE.seq_step (by kernel_rfl)
theorem n85_12s : codeB Try.prog E cx n85_12 st = thenS (codeB Try.prog E cx n85_13 st) (codeB Try.prog E cx n85_14) := GE.seq_step (by kernel_rfl)
theorem n85_2s : codeB Try.prog E cx n85_2 st = thenS (codeB Try.prog E cx n85_3 st) (codeB Try.prog E cx n85_12) := GE.seq_step (by kernel_rfl)
theorem n85_0s : codeB Try.prog E cx n85_0 st = thenS (codeB Try.prog E cx n85_1 st) (codeB Try.prog E cx n85_2) := GE.seq_step (by kernel_rfl)
noncomputable def n87_0 : Code := bodyOf Try.f87
noncomputable def n87_1 : Code := cl n87_0
noncomputable def q87_1 : List Oper := opsOf n87_1
noncomputable def n87_2 : Code := cr n87_0
noncomputable def n87_3 : Code := cl n87_2
noncomputable def q87_3 : List Oper := opsOf n87_3
noncomputable def n87_4 : Code := cr n87_2
theorem body87 : Try.f87.body = some n87_0 := by kernel_rfl
theorem run87 (E : Ev) (args : List Value) (h : List Blk) (hl : args.length ≤ 6) : runB Try.prog E 87 args h = endS Try.prog [.tmp 4] h.length (codeB Try.prog E ⟨87, 6, h.length, none⟩ n87_0 ⟨enumT 0 args, h, []⟩) := GE.run_step Try.func87 body87 (by kernel_rfl) (by decide) (by kernel_rfl) hl
theorem n87_1s : codeB Try.prog E ⟨f, 6, b, ro⟩ n87_1 st = plainS (runOps Try.prog E b q87_1 (ops [false] Try.f87) st) := GE.region_step (id := 0) (GE.reg_of (by kernel_rfl)) (by kernel_rfl)
theorem n87_3s : codeB Try.prog E ⟨f, 6, b, ro⟩ n87_3 st = plainS (runOps Try.prog E b q87_3 (ops [true, false] Try.f87) st) := GE.region_step (id := 1) (GE.reg_of (by kernel_rfl)) (by kernel_rfl)
theorem n87_4s : codeB Try.prog LL ⟨87, 6, b, ro⟩ n87_4 st = normS b ⟨[4], []⟩ .ret st := GE.ret_step (by kernel_rfl) (by kernel_rfl)
theorem n87_2s : codeB Try.prog E cx n87_2 st = thenS (codeB Try.prog E cx n87_3 st) (codeB Try.prog E cx n87_4) := GE.seq_step (by kernel_rfl)
theorem n87_0s : codeB Try.prog E cx n87_0 st = thenS (codeB Try.prog E cx n87_1 st) (codeB Try.prog E cx n87_2) := GE.seq_step (by kernel_rfl)
noncomputable def n88_0 : Code := bodyOf Try.f88
noncomputable def n88_1 : Code := cl n88_0
noncomputable def q88_1 : List Oper := opsOf n88_1
noncomputable def n88_2 : Code := cr n88_0
noncomputable def n88_3 : Code := cl n88_2
noncomputable def q88_3 : List Oper := opsOf n88_3
noncomputable def n88_4 : Code := cr n88_2
noncomputable def n88_5 : Code := cl n88_4
noncomputable def q88_5 : List Oper := opsOf n88_5
noncomputable def n88_6 : Code := cr n88_4
theorem body88 : Try.f88.body = some n88_0 := by kernel_rfl
theorem run88 (E : Ev) (args : List Value) (h : List Blk) (hl : args.length ≤ 15) : runB Try.prog E 88 args h = endS Try.prog [.tmp 4] h.length (codeB Try.prog E ⟨88, 15, h.length, none⟩ n88_0 ⟨enumT 0 args, h, []⟩) := GE.run_step Try.func88 body88 (by kernel_rfl) (by decide) (by kernel_rfl) hl
theorem n88_1s : codeB Try.prog E ⟨f, 15, b, ro⟩ n88_1 st = plainS (runOps Try.prog E b q88_1 (ops [false] Try.f88) st) := GE.region_step (id := 0) (GE.reg_of (by kernel_rfl)) (by kernel_rfl)
theorem n88_3s : codeB Try.prog E ⟨f, 15, b, ro⟩ n88_3 st = plainS (runOps Try.prog E b q88_3 (ops [true, false] Try.f88) st) := GE.region_step (id := 1) (GE.reg_of (by kernel_rfl)) (by kernel_rfl)
theorem n88_5s : codeB Try.prog E ⟨f, 15, b, ro⟩ n88_5 st = plainS (runOps Try.prog E b q88_5 (ops [true, true, false] Try.f88) st) := GE.region_step (id := 2) (GE.reg_of (by kernel_rfl)) (by kernel_rfl)
theorem n88_6s : codeB Try.prog LL ⟨88, 15, b, ro⟩ n88_6 st = normS b ⟨[4], []⟩ .ret st := GE.ret_step (by kernel_rfl) (by kernel_rfl)
theorem n88_4s : codeB Try.prog E cx n88_4 st = thenS (codeB Try.prog E cx n88_5 st) (codeB Try.prog E cx n88_6) := GE.seq_step (by kernel_rfl)
theorem n88_2s : codeB Try.prog E cx n88_2 st = thenS (codeB Try.prog E cx n88_3 st) (codeB Try.prog E cx n88_4) := GE.seq_step (by kernel_rfl)
theorem n88_0s : codeB Try.prog E cx n88_0 st = thenS (codeB Try.prog E cx n88_1 st) (codeB Try.prog E cx n88_2) := GE.seq_step (by kernel_rfl)
noncomputable def n103_0 : Code := bodyOf Try.f103
noncomputable def n103_1 : Code := cl n103_0
noncomputable def q103_1 : List Oper := opsOf n103_1
noncomputable def n103_2 : Code := cr n103_0
noncomputable def n103_3 : Code := cl n103_2
noncomputable def n103_4 : Code := cl n103_3
noncomputable def n103_5 : Code := cl n103_4
noncomputable def q103_5 : List Oper := opsOf n103_5
noncomputable def n103_6 : Code := cr n103_4
noncomputable def n103_7 : Code := cl n103_6
noncomputable def n103_8 : Code := cl n103_7
noncomputable def n103_9 : Code := cr n103_7
noncomputable def n103_10 : Code := cr n103_6
noncomputable def n103_11 : Code := cl n103_10
noncomputable def n103_12 : Code := cl n103_11
noncomputable def n103_13 : Code := cl n103_12
noncomputable def q103_13 : List Oper := opsOf n103_13
noncomputable def n103_14 : Code := cr n103_12
noncomputable def n103_15 : Code := cl n103_14
noncomputable def q103_15 : List Oper := opsOf n103_15
noncomputable def n103_16 : Code := cr n103_14
noncomputable def n103_17 : Code := cl n103_16
noncomputable def n103_18 : Code := cr n103_16
noncomputable def n103_19 : Code := cr n103_10
noncomputable def q103_19 : List Oper := opsOf n103_19
theorem body103 : Try.f103.body = some n103_0 := by kernel_rfl
theorem run103 (E : Ev) (args : List Value) (h : List Blk) (hl : args.length ≤ 29) : runB Try.prog E 103 args h = endS Try.prog [] h.length (codeB Try.prog E ⟨103, 29, h.length, none⟩ n103_0 ⟨enumT 0 args, h, []⟩) := GE.run_step Try.func103 body103 (by kernel_rfl) (by decide) (by kernel_rfl) hl
theorem n103_1s : codeB Try.prog E ⟨f, 29, b, ro⟩ n103_1 st = plainS (runOps Try.prog E b q103_1 (ops [false] Try.f103) st) := GE.region_step (id := 0) (GE.reg_of (by kernel_rfl)) (by kernel_rfl)
theorem n103_5s : codeB Try.prog E ⟨f, 29, b, ro⟩ n103_5 st = plainS (runOps Try.prog E b q103_5 (ops [true, false, false, false] Try.f103) st) := GE.region_step (id := 1) (GE.reg_of (by kernel_rfl)) (by kernel_rfl)
theorem n103_8s : codeB Try.prog E cx n103_8 st = some (.normal, st) := GE.skip_step (by kernel_rfl)
theorem n103_9s : codeB Try.prog LL ⟨103, 29, b, ro⟩ n103_9 st = normS b ⟨[], []⟩ (.exit 0) st := GE.exit_step (by kernel_rfl) (by kernel_rfl)
theorem n103_7s : codeB Try.prog E cx n103_7 st = condS (codeB Try.prog E cx n103_8) (codeB Try.prog E cx n103_9) (lk st.σ 11) st := GE.cond_step (c := .tmp 11) (by kernel_rfl)
theorem n103_13s : codeB Try.prog E ⟨f, 29, b, ro⟩ n103_13 st = plainS (runOps Try.prog E b q103_13 (ops [true, false, false, true, true, false, false, false] Try.f103) st) := GE.region_step (id := 2) (GE.reg_of (by kernel_rfl)) (by kernel_rfl)
theorem q103_15g6 : gd q103_15 6 = some 21 := by kernel_rfl
theorem n103_15s : codeB Try.prog E ⟨f, 29, b, ro⟩ n103_15 st = drawS [0, 0, 2, 7, 0, 31, 63, 127, 127, 127, 1023, 2047, 4095] (runOpsF Try.prog E b q103_15 (ops [true, false, false, true, true, false, false, true, false] Try.f103) st) := GE.draw_step (id := 3) (GE.reg_of (by kernel_rfl)) (by kernel_rfl) (by kernel_rfl) (by kernel_rfl)
theorem n103_17s : codeB Try.prog LL ⟨103, 29, b, ro⟩ n103_17 st = normS b ⟨[], []⟩ .ret st := GE.ret_step (by kernel_rfl) (by kernel_rfl)
theorem n103_18s : codeB Try.prog E cx n103_18 st = some (.normal, st) := GE.skip_step (by kernel_rfl)
theorem n103_16s : codeB Try.prog E cx n103_16 st = condS (codeB Try.prog E cx n103_17) (codeB Try.prog E cx n103_18) (lk st.σ 27) st := GE.cond_step (c := .tmp 27) (by kernel_rfl)
theorem n103_14s : codeB Try.prog E cx n103_14 st = thenS (codeB Try.prog E cx n103_15 st) (codeB Try.prog E cx n103_16) := GE.seq_step (by kernel_rfl)
theorem n103_12s : codeB Try.prog E cx n103_12 st = thenS (codeB Try.prog E cx n103_13 st) (codeB Try.prog E cx n103_14) := GE.seq_step (by kernel_rfl)
theorem n103_11s : codeB Try.prog E cx n103_11 st = blockS 1 (codeB Try.prog E cx n103_12 st) st := GE.block_step (by kernel_rfl)
theorem n103_19s : codeB Try.prog E ⟨f, 29, b, ro⟩ n103_19 st = plainS (runOps Try.prog E b q103_19 (ops [true, false, false, true, true, true] Try.f103) st) := GE.region_step (id := 4) (GE.reg_of (by kernel_rfl)) (by kernel_rfl)
theorem n103_10s : codeB Try.prog E cx n103_10 st = thenS (codeB Try.prog E cx n103_11 st) (codeB Try.prog E cx n103_19) := GE.seq_step (by kernel_rfl)
theorem n103_6s : codeB Try.prog E cx n103_6 st = thenS (codeB Try.prog E cx n103_7 st) (codeB Try.prog E cx n103_10) := GE.seq_step (by kernel_rfl)
theorem n103_4s : codeB Try.prog E cx n103_4 st = thenS (codeB Try.prog E cx n103_5 st) (codeB Try.prog E cx n103_6) := GE.seq_step (by kernel_rfl)
theorem n103_3k : LL.kp (⟨103, 29, b, ro⟩ : Cx).fn (4 * rid n103_4 + 3) = some ⟨[0, 1, 2, 8, 9, 10], [⟨8, 0, 3, true⟩]⟩ := by kernel_rfl
theorem n103_3s : codeB Try.prog LL ⟨103, 29, b, ro⟩ n103_3 st = headS b ⟨[0, 1, 2, 8, 9, 10], [⟨8, 0, 3, true⟩]⟩ st (lpB Try.prog LL ⟨103, 29, b, ro⟩ n103_3 n103_4) := GE.lpB_step (by kernel_rfl) (n103_3k b ro)
theorem n103_3g : LL.code ⟨103, 29, b, ro⟩ n103_3 st = headS b ⟨[0, 1, 2, 8, 9, 10], [⟨8, 0, 3, true⟩]⟩ st (lpB Try.prog LL ⟨103, 29, b, ro⟩ n103_3 n103_4) := GE.lpB_again (by kernel_rfl) (n103_3k b ro)
theorem n103_2s : codeB Try.prog E cx n103_2 st = blockS 0 (codeB Try.prog E cx n103_3 st) st := GE.block_step (by kernel_rfl)
theorem n103_0s : codeB Try.prog E cx n103_0 st = thenS (codeB Try.prog E cx n103_1 st) (codeB Try.prog E cx n103_2) := GE.seq_step (by kernel_rfl)
noncomputable def n104_0 : Code := bodyOf Try.f104
noncomputable def n104_1 : Code := cl n104_0
noncomputable def q104_1 : List Oper := opsOf n104_1
noncomputable def n104_2 : Code := cr n104_0
noncomputable def n104_3 : Code := cl n104_2
noncomputable def q104_3 : List Oper := opsOf n104_3
noncomputable def n104_4 : Code := cr n104_2
noncomputable def n104_5 : Code := cl n104_4
noncomputable def q104_5 : List Oper := opsOf n104_5
noncomputable def n104_6 : Code := cr n104_4
noncomputable def n104_7 : Code := cl n104_6
noncomputable def n104_8 : Code := cl n104_7
noncomputable def n104_9 : Code := cl n104_8
noncomputable def n104_10 : Code := cl n104_9
noncomputable def n104_11 : Code := cl n104_10
noncomputable def q104_11 : List Oper := opsOf n104_11
noncomputable def n104_12 : Code := cr n104_10
noncomputable def n104_13 : Code := cl n104_12
noncomputable def n104_14 : Code := cr n104_12
noncomputable def n104_15 : Code := cr n104_9
noncomputable def n104_16 : Code := cl n104_15
noncomputable def n104_17 : Code := cl n104_16
noncomputable def q104_17 : List Oper := opsOf n104_17
noncomputable def n104_18 : Code := cr n104_16
noncomputable def n104_19 : Code := cl n104_18
noncomputable def q104_19 : List Oper := opsOf n104_19
noncomputable def n104_20 : Code := cr n104_18
noncomputable def n104_21 : Code := cl n104_20
noncomputable def q104_21 : List Oper := opsOf n104_21
noncomputable def n104_22 : Code := cr n104_20
noncomputable def q104_22 : List Oper := opsOf n104_22
noncomputable def n104_23 : Code := cr n104_6
noncomputable def n104_24 : Code := cl n104_23
noncomputable def q104_24 : List Oper := opsOf n104_24
noncomputable def n104_25 : Code := cr n104_23
theorem body104 : Try.f104.body = some n104_0 := by kernel_rfl
theorem run104 (E : Ev) (args : List Value) (h : List Blk) (hl : args.length ≤ 54) : runB Try.prog E 104 args h = endS Try.prog [.tmp 4, .tmp 5] h.length (codeB Try.prog E ⟨104, 54, h.length, none⟩ n104_0 ⟨enumT 0 args, h, []⟩) := GE.run_step Try.func104 body104 (by kernel_rfl) (by decide) (by kernel_rfl) hl
theorem n104_1s : codeB Try.prog E ⟨f, 54, b, ro⟩ n104_1 st = plainS (runOps Try.prog E b q104_1 (ops [false] Try.f104) st) := GE.region_step (id := 0) (GE.reg_of (by kernel_rfl)) (by kernel_rfl)
theorem n104_3s : codeB Try.prog E ⟨f, 54, b, ro⟩ n104_3 st = plainS (runOps Try.prog E b q104_3 (ops [true, false] Try.f104) st) := GE.region_step (id := 1) (GE.reg_of (by kernel_rfl)) (by kernel_rfl)
theorem n104_5s : codeB Try.prog E ⟨f, 54, b, ro⟩ n104_5 st = plainS (runOps Try.prog E b q104_5 (ops [true, true, false] Try.f104) st) := GE.region_step (id := 2) (GE.reg_of (by kernel_rfl)) (by kernel_rfl)
theorem n104_11s : codeB Try.prog E ⟨f, 54, b, ro⟩ n104_11 st = plainS (runOps Try.prog E b q104_11 (ops [true, true, true, false, false, false, false, false] Try.f104) st) := GE.region_step (id := 3) (GE.reg_of (by kernel_rfl)) (by kernel_rfl)
theorem n104_13s : codeB Try.prog E cx n104_13 st = some (.normal, st) := GE.skip_step (by kernel_rfl)
theorem n104_14s : codeB Try.prog LL ⟨104, 54, b, ro⟩ n104_14 st = normS b ⟨[0, 1, 6, 7], [⟨0, 0, 1, true⟩]⟩ (.exit 0) st := GE.exit_step (by kernel_rfl) (by kernel_rfl)
theorem n104_12s : codeB Try.prog E cx n104_12 st = condS (codeB Try.prog E cx n104_13) (codeB Try.prog E cx n104_14) (lk st.σ 15) st := GE.cond_step (c := .tmp 15) (by kernel_rfl)
theorem n104_10s : codeB Try.prog E cx n104_10 st = thenS (codeB Try.prog E cx n104_11 st) (codeB Try.prog E cx n104_12) := GE.seq_step (by kernel_rfl)
theorem n104_17s : codeB Try.prog E ⟨f, 54, b, ro⟩ n104_17 st = plainS (runOps Try.prog E b q104_17 (ops [true, true, true, false, false, false, true, false, false] Try.f104) st) := GE.region_step (id := 4) (GE.reg_of (by kernel_rfl)) (by kernel_rfl)
theorem n104_19s : codeB Try.prog E ⟨f, 54, b, ro⟩ n104_19 st = plainS (runOps Try.prog E b q104_19 (ops [true, true, true, false, false, false, true, false, true, false] Try.f104) st) := GE.region_step (id := 5) (GE.reg_of (by kernel_rfl)) (by kernel_rfl)
theorem n104_21s : codeB Try.prog E ⟨f, 54, b, ro⟩ n104_21 st = plainS (runOps Try.prog E b q104_21 (ops [true, true, true, false, false, false, true, false, true, true, false] Try.f104) st) := GE.region_step (id := 6) (GE.reg_of (by kernel_rfl)) (by kernel_rfl)
theorem n104_22s : codeB Try.prog E ⟨f, 54, b, ro⟩ n104_22 st = plainS (runOps Try.prog E b q104_22 (ops [true, true, true, false, false, false, true, false, true, true, true] Try.f104) st) := GE.region_step (id := 7) (GE.reg_of (by kernel_rfl)) (by kernel_rfl)
theorem n104_20s : codeB Try.prog E cx n104_20 st = condS (codeB Try.prog E cx n104_21) (codeB Try.prog E cx n104_22) (lk st.σ 27) st := GE.cond_step (c := .tmp 27) (by kernel_rfl)
theorem n104_18s : codeB Try.prog E cx n104_18 st = thenS (codeB Try.prog E cx n104_19 st) (codeB Try.prog E cx n104_20) := GE.seq_step (by kernel_rfl)
theorem n104_16s : codeB Try.prog E cx n104_16 st = thenS (codeB Try.prog E cx n104_17 st) (codeB Try.prog E cx n104_18) := GE.seq_step (by kernel_rfl)
theorem n104_15s : codeB Try.prog E cx n104_15 st = blockS 1 (codeB Try.prog E cx n104_16 st) st := GE.block_step (by kernel_rfl)
theorem n104_9s : codeB Try.prog E cx n104_9 st = thenS (codeB Try.prog E cx n104_10 st) (codeB Try.prog E cx n104_15) := GE.seq_step (by kernel_rfl)
theorem n104_8k : LL.kp (⟨104, 54, b, ro⟩ : Cx).fn (4 * rid n104_9 + 3) = some ⟨[0, 1, 6, 7, 8], [⟨0, 0, 1, true⟩]⟩ := by kernel_rfl
theorem n104_8s : codeB Try.prog LL ⟨104, 54, b, ro⟩ n104_8 st = headS b ⟨[0, 1, 6, 7, 8], [⟨0, 0, 1, true⟩]⟩ st (lpB Try.prog LL ⟨104, 54, b, ro⟩ n104_8 n104_9) := GE.lpB_step (by kernel_rfl) (n104_8k b ro)
theorem n104_8g : LL.code ⟨104, 54, b, ro⟩ n104_8 st = headS b ⟨[0, 1, 6, 7, 8], [⟨0, 0, 1, true⟩]⟩ st (lpB Try.prog LL ⟨104, 54, b, ro⟩ n104_8 n104_9) := GE.lpB_again (by kernel_rfl) (n104_8k b ro)
theorem n104_7s : codeB Try.prog E cx n104_7 st = blockS 0 (codeB Try.prog E cx n104_8 st) st := GE.block_step (by kernel_rfl)
theorem q104_24g4 : gd q104_24 4 = some 35 := by kernel_rfl
theorem q104_24g11 : gd q104_24 11 = some 42 := by kernel_rfl
theorem q104_24g17 : gd q104_24 17 = some 48 := by kernel_rfl
theorem n104_24s : codeB Try.prog E ⟨f, 54, b, ro⟩ n104_24 st = plainS (runOps Try.prog E b q104_24 (ops [true, true, true, true, false] Try.f104) st) := GE.region_step (id := 8) (GE.reg_of (by kernel_rfl)) (by kernel_rfl)
theorem n104_25s : codeB Try.prog LL ⟨104, 54, b, ro⟩ n104_25 st = normS b ⟨[4, 5], []⟩ .ret st := GE.ret_step (by kernel_rfl) (by kernel_rfl)
theorem n104_23s : codeB Try.prog E cx n104_23 st = thenS (codeB Try.prog E cx n104_24 st) (codeB Try.prog E cx n104_25) := GE.seq_step (by kernel_rfl)
theorem n104_6s : codeB Try.prog E cx n104_6 st = thenS (codeB Try.prog E cx n104_7 st) (codeB Try.prog E cx n104_23) := GE.seq_step (by kernel_rfl)
theorem n104_4s : codeB Try.prog E cx n104_4 st = thenS (codeB Try.prog E cx n104_5 st) (codeB Try.prog E cx n104_6) := GE.seq_step (by kernel_rfl)
theorem n104_2s : codeB Try.prog E cx n104_2 st = thenS (codeB Try.prog E cx n104_3 st) (codeB Try.prog E cx n104_4) := GE.seq_step (by kernel_rfl)
theorem n104_0s : codeB Try.prog E cx n104_0 st = thenS (codeB Try.prog E cx n104_1 st) (codeB Try.prog E cx n104_2) := GE.seq_step (by kernel_rfl)
noncomputable def n108_0 : Code := bodyOf Try.f108
noncomputable def n108_1 : Code := cl n108_0
noncomputable def q108_1 : List Oper := opsOf n108_1
noncomputable def n108_2 : Code := cr n108_0
noncomputable def n108_3 : Code := cl n108_2
noncomputable def q108_3 : List Oper := opsOf n108_3
noncomputable def n108_4 : Code := cr n108_2
theorem body108 : Try.f108.body = some n108_0 := by kernel_rfl
theorem run108 (E : Ev) (args : List Value) (h : List Blk) (hl : args.length ≤ 17) : runB Try.prog E 108 args h = endS Try.prog [.tmp 4] h.length (codeB Try.prog E ⟨108, 17, h.length, none⟩ n108_0 ⟨enumT 0 args, h, []⟩) := GE.run_step Try.func108 body108 (by kernel_rfl) (by decide) (by kernel_rfl) hl
theorem n108_1s : codeB Try.prog E ⟨f, 17, b, ro⟩ n108_1 st = plainS (runOps Try.prog E b q108_1 (ops [false] Try.f108) st) := GE.region_step (id := 0) (GE.reg_of (by kernel_rfl)) (by kernel_rfl)
theorem q108_3g2 : gd q108_3 2 = some 7 := by kernel_rfl
theorem q108_3g7 : gd q108_3 7 = some 12 := by kernel_rfl
theorem n108_3s : codeB Try.prog E ⟨f, 17, b, ro⟩ n108_3 st = plainS (runOps Try.prog E b q108_3 (ops [true, false] Try.f108) st) := GE.region_step (id := 1) (GE.reg_of (by kernel_rfl)) (by kernel_rfl)
theorem n108_4s : codeB Try.prog LL ⟨108, 17, b, ro⟩ n108_4 st = normS b ⟨[4], []⟩ .ret st := GE.ret_step (by kernel_rfl) (by kernel_rfl)
theorem n108_2s : codeB Try.prog E cx n108_2 st = thenS (codeB Try.prog E cx n108_3 st) (codeB Try.prog E cx n108_4) := GE.seq_step (by kernel_rfl)
theorem n108_0s : codeB Try.prog E cx n108_0 st = thenS (codeB Try.prog E cx n108_1 st) (codeB Try.prog E cx n108_2) := GE.seq_step (by kernel_rfl)
noncomputable def n109_0 : Code := bodyOf Try.f109
noncomputable def n109_1 : Code := cl n109_0
noncomputable def q109_1 : List Oper := opsOf n109_1
noncomputable def n109_2 : Code := cr n109_0
noncomputable def n109_3 : Code := cl n109_2
noncomputable def q109_3 : List Oper := opsOf n109_3
noncomputable def n109_4 : Code := cr n109_2
theorem body109 : Try.f109.body = some n109_0 := by kernel_rfl
theorem run109 (E : Ev) (args : List Value) (h : List Blk) (hl : args.length ≤ 6) : runB Try.prog E 109 args h = endS Try.prog [.tmp 2] h.length (codeB Try.prog E ⟨109, 6, h.length, none⟩ n109_0 ⟨enumT 0 args, h, []⟩) := GE.run_step Try.func109 body109 (by kernel_rfl) (by decide) (by kernel_rfl) hl
theorem n109_1s : codeB Try.prog E ⟨f, 6, b, ro⟩ n109_1 st = plainS (runOps Try.prog E b q109_1 (ops [false] Try.f109) st) := GE.region_step (id := 0) (GE.reg_of (by kernel_rfl)) (by kernel_rfl)
theorem n109_3s : codeB Try.prog E ⟨f, 6, b, ro⟩ n109_3 st = plainS (runOps Try.prog E b q109_3 (ops [true, false] Try.f109) st) := GE.region_step (id := 1) (GE.reg_of (by kernel_rfl)) (by kernel_rfl)
theorem n109_4s : codeB Try.prog LL ⟨109, 6, b, ro⟩ n109_4 st = normS b ⟨[2], []⟩ .ret st := GE.ret_step (by kernel_rfl) (by kernel_rfl)
theorem n109_2s : codeB Try.prog E cx n109_2 st = thenS (codeB Try.prog E cx n109_3 st) (codeB Try.prog E cx n109_4) := GE.seq_step (by kernel_rfl)
theorem n109_0s : codeB Try.prog E cx n109_0 st = thenS (codeB Try.prog E cx n109_1 st) (codeB Try.prog E cx n109_2) := GE.seq_step (by kernel_rfl)
noncomputable def n111_0 : Code := bodyOf Try.f111
noncomputable def n111_1 : Code := cl n111_0
noncomputable def q111_1 : List Oper := opsOf n111_1
noncomputable def n111_2 : Code := cr n111_0
noncomputable def n111_3 : Code := cl n111_2
noncomputable def q111_3 : List Oper := opsOf n111_3
noncomputable def n111_4 : Code := cr n111_2
theorem body111 : Try.f111.body = some n111_0 := by kernel_rfl
theorem run111 (E : Ev) (args : List Value) (h : List Blk) (hl : args.length ≤ 6) : runB Try.prog E 111 args h = endS Try.prog [.tmp 2] h.length (codeB Try.prog E ⟨111, 6, h.length, none⟩ n111_0 ⟨enumT 0 args, h, []⟩) := GE.run_step Try.func111 body111 (by kernel_rfl) (by decide) (by kernel_rfl) hl
theorem n111_1s : codeB Try.prog E ⟨f, 6, b, ro⟩ n111_1 st = plainS (runOps Try.prog E b q111_1 (ops [false] Try.f111) st) := GE.region_step (id := 0) (GE.reg_of (by kernel_rfl)) (by kernel_rfl)
theorem n111_3s : codeB Try.prog E ⟨f, 6, b, ro⟩ n111_3 st = plainS (runOps Try.prog E b q111_3 (ops [true, false] Try.f111) st) := GE.region_step (id := 1) (GE.reg_of (by kernel_rfl)) (by kernel_rfl)
theorem n111_4s : codeB Try.prog LL ⟨111, 6, b, ro⟩ n111_4 st = normS b ⟨[2], []⟩ .ret st := GE.ret_step (by kernel_rfl) (by kernel_rfl)
theorem n111_2s : codeB Try.prog E cx n111_2 st = thenS (codeB Try.prog E cx n111_3 st) (codeB Try.prog E cx n111_4) := GE.seq_step (by kernel_rfl)
theorem n111_0s : codeB Try.prog E cx n111_0 st = thenS (codeB Try.prog E cx n111_1 st) (codeB Try.prog E cx n111_2) := GE.seq_step (by kernel_rfl)
theorem ia_75 : aggK Try.prog 75 = some (true, 3) := by kernel_rfl
theorem za_24 : zeroA Try.prog 24 = some (.agg #[(.int .i64 (0)), (.int .i64 (0)), (.slice none 0 0)]) := by kernel_rfl
theorem sz_24 : aggSize Try.prog 24 = some 3 := by kernel_rfl
theorem ia_24 : aggK Try.prog 24 = some (true, 3) := by kernel_rfl
theorem lk_41 : lenK Try.prog 41 = some .sl := by kernel_rfl
theorem lk_25 : lenK Try.prog 25 = some .sl := by kernel_rfl
theorem ix_80 : arrK Try.prog 80 = some (10, 60, true) := by kernel_rfl
theorem es_25 : elemK Try.prog 25 = some (none, 1) := by kernel_rfl
theorem ia_3 : aggK Try.prog 3 = some (false, 1) := by kernel_rfl
theorem za_115 : zeroA Try.prog 115 = some (.agg #[(.int .i64 (0)), (.int .i64 (0)), (.slice none 0 0), (.slice none 0 0)]) := by kernel_rfl
theorem sz_115 : aggSize Try.prog 115 = some 4 := by kernel_rfl
theorem fa_24_0 : fieldAt Try.prog 24 0 = some (0, 1) := by kernel_rfl
theorem fa_24_1 : fieldAt Try.prog 24 1 = some (1, 1) := by kernel_rfl
theorem fa_24_2 : fieldAt Try.prog 24 2 = some (2, 1) := by kernel_rfl
theorem ia_22 : aggK Try.prog 22 = some (false, 1) := by kernel_rfl
theorem lk_22 : lenK Try.prog 22 = some .sl := by kernel_rfl
theorem es_22 : elemK Try.prog 22 = some (none, 3) := by kernel_rfl
theorem ia_59 : aggK Try.prog 59 = some (true, 3) := by kernel_rfl
theorem za_59 : zeroA Try.prog 59 = some (.agg #[(.int .i64 (0)), (.int .i64 (0)), (.int .i64 (0))]) := by kernel_rfl
theorem sz_59 : aggSize Try.prog 59 = some 3 := by kernel_rfl
theorem fa_59_0 : fieldAt Try.prog 59 0 = some (0, 1) := by kernel_rfl
theorem es_41 : elemK Try.prog 41 = some (none, 2) := by kernel_rfl
theorem ia_95 : aggK Try.prog 95 = some (true, 2) := by kernel_rfl
theorem za_95 : zeroA Try.prog 95 = some (.agg #[(.int .i64 (0)), (.int .i64 (0))]) := by kernel_rfl
theorem sz_95 : aggSize Try.prog 95 = some 2 := by kernel_rfl
theorem fa_95_0 : fieldAt Try.prog 95 0 = some (0, 1) := by kernel_rfl
theorem fa_95_1 : fieldAt Try.prog 95 1 = some (1, 1) := by kernel_rfl
theorem fa_75_0 : fieldAt Try.prog 75 0 = some (0, 1) := by kernel_rfl
theorem ia_5 : aggK Try.prog 5 = some (false, 1) := by kernel_rfl
theorem cv_5_3 : convK Try.prog 5 3 = some .i64 := by kernel_rfl
theorem fa_75_1 : fieldAt Try.prog 75 1 = some (1, 1) := by kernel_rfl
theorem pl_24 : plK Try.prog 24 = some [(0, 1), (1, 1), (2, 1)] := by kernel_rfl
theorem fa_75_2 : fieldAt Try.prog 75 2 = some (2, 1) := by kernel_rfl
theorem ia_73 : aggK Try.prog 73 = some (false, 1) := by kernel_rfl
theorem lk_73 : lenK Try.prog 73 = some .sl := by kernel_rfl
theorem es_73 : elemK Try.prog 73 = some (none, 3) := by kernel_rfl
theorem ea_88 : elemK Try.prog 88 = some (some 3, 1) := by kernel_rfl
theorem ze_22 : zeroE Try.prog 22 = some (.agg #[(.int .i64 (0)), (.int .i64 (0)), (.int .i64 (0))]) := by kernel_rfl
theorem ba_22_1 : baseArr (Value.cells (.agg #[(.int .i64 (0)), (.int .i64 (0)), (.int .i64 (0))])) (1 * 3) = #[(.int .i64 (0)), (.int .i64 (0)), (.int .i64 (0))] := by kernel_rfl
theorem ap_22 : apK Try.prog 22 = some (3, 24) := by kernel_rfl
theorem ni_22 : notInt Try.prog 22 = true := by kernel_rfl
theorem sz_22 : aggSize Try.prog 22 = some 1 := by kernel_rfl
theorem ze_25 : zeroE Try.prog 25 = some (.int .i64 (0)) := by kernel_rfl
theorem ba_25_1 : baseArr (Value.cells (.int .i64 (0))) (1 * 1) = #[(.int .i64 (0))] := by kernel_rfl
theorem ap_25 : apK Try.prog 25 = some (1, 8) := by kernel_rfl
theorem ni_25 : notInt Try.prog 25 = true := by kernel_rfl
theorem ia_79 : aggK Try.prog 79 = some (true, 60) := by kernel_rfl
theorem ix_79 : arrK Try.prog 79 = some (60, 1, false) := by kernel_rfl
theorem za_80 : zeroA Try.prog 80 = some (.agg #[(.bool false), (.bool false), (.bool false), (.bool false), (.bool false), (.bool false), (.bool false), (.bool false), (.bool false), (.bool false), (.bool false), (.bool false), (.bool false), (.bool false), (.bool false), (.bool false), (.bool false), (.bool false), (.bool false), (.bool false), (.bool false), (.bool false), (.bool false), (.bool false), (.bool false), (.bool false), (.bool false), (.bool false), (.bool false), (.bool false), (.bool false), (.bool false), (.bool false), (.bool false), (.bool false), (.bool false), (.bool false), (.bool false), (.bool false), (.bool false), (.bool false), (.bool false), (.bool false), (.bool false), (.bool false), (.bool false), (.bool false), (.bool false), (.bool false), (.bool false), (.bool false), (.bool false), (.bool false), (.bool false), (.bool false), (.bool false), (.bool false), (.bool false), (.bool false), (.bool false), (.bool false), (.bool false), (.bool false), (.bool false), (.bool false), (.bool false), (.bool false), (.bool false), (.bool false), (.bool false), (.bool false), (.bool false), (.bool false), (.bool false), (.bool false), (.bool false), (.bool false), (.bool false), (.bool false), (.bool false), (.bool false), (.bool false), (.bool false), (.bool false), (.bool false), (.bool false), (.bool false), (.bool false), (.bool false), (.bool false), (.bool false), (.bool false), (.bool false), (.bool false), (.bool false), (.bool false), (.bool false), (.bool false), (.bool false), (.bool false), (.bool false), (.bool false), (.bool false), (.bool false), (.bool false), (.bool false), (.bool false), (.bool false), (.bool false), (.bool false), (.bool false), (.bool false), (.bool false), (.bool false), (.bool false), (.bool false), (.bool false), (.bool false), (.bool false), (.bool false), (.bool false), (.bool false), (.bool false), (.bool false), (.bool false), (.bool false), (.bool false), (.bool false), (.bool false), (.bool false), (.bool false), (.bool false), (.bool false), (.bool false), (.bool false), (.bool false), (.bool false), (.bool false), (.bool false), (.bool false), (.bool false), (.bool false), (.bool false), (.bool false), (.bool false), (.bool false), (.bool false), (.bool false), (.bool false), (.bool false), (.bool false), (.bool false), (.bool false), (.bool false), (.bool false), (.bool false), (.bool false), (.bool false), (.bool false), (.bool false), (.bool false), (.bool false), (.bool false), (.bool false), (.bool false), (.bool false), (.bool false), (.bool false), (.bool false), (.bool false), (.bool false), (.bool false), (.bool false), (.bool false), (.bool false), (.bool false), (.bool false), (.bool false), (.bool false), (.bool false), (.bool false), (.bool false), (.bool false), (.bool false), (.bool false), (.bool false), (.bool false), (.bool false), (.bool false), (.bool false), (.bool false), (.bool false), (.bool false), (.bool false), (.bool false), (.bool false), (.bool false), (.bool false), (.bool false), (.bool false), (.bool false), (.bool false), (.bool false), (.bool false), (.bool false), (.bool false), (.bool false), (.bool false), (.bool false), (.bool false), (.bool false), (.bool false), (.bool false), (.bool false), (.bool false), (.bool false), (.bool false), (.bool false), (.bool false), (.bool false), (.bool false), (.bool false), (.bool false), (.bool false), (.bool false), (.bool false), (.bool false), (.bool false), (.bool false), (.bool false), (.bool false), (.bool false), (.bool false), (.bool false), (.bool false), (.bool false), (.bool false), (.bool false), (.bool false), (.bool false), (.bool false), (.bool false), (.bool false), (.bool false), (.bool false), (.bool false), (.bool false), (.bool false), (.bool false), (.bool false), (.bool false), (.bool false), (.bool false), (.bool false), (.bool false), (.bool false), (.bool false), (.bool false), (.bool false), (.bool false), (.bool false), (.bool false), (.bool false), (.bool false), (.bool false), (.bool false), (.bool false), (.bool false), (.bool false), (.bool false), (.bool false), (.bool false), (.bool false), (.bool false), (.bool false), (.bool false), (.bool false), (.bool false), (.bool false), (.bool false), (.bool false), (.bool false), (.bool false), (.bool false), (.bool false), (.bool false), (.bool false), (.bool false), (.bool false), (.bool false), (.bool false), (.bool false), (.bool false), (.bool false), (.bool false), (.bool false), (.bool false), (.bool false), (.bool false), (.bool false), (.bool false), (.bool false), (.bool false), (.bool false), (.bool false), (.bool false), (.bool false), (.bool false), (.bool false), (.bool false), (.bool false), (.bool false), (.bool false), (.bool false), (.bool false), (.bool false), (.bool false), (.bool false), (.bool false), (.bool false), (.bool false), (.bool false), (.bool false), (.bool false), (.bool false), (.bool false), (.bool false), (.bool false), (.bool false), (.bool false), (.bool false), (.bool false), (.bool false), (.bool false), (.bool false), (.bool false), (.bool false), (.bool false), (.bool false), (.bool false), (.bool false), (.bool false), (.bool false), (.bool false), (.bool false), (.bool false), (.bool false), (.bool false), (.bool false), (.bool false), (.bool false), (.bool false), (.bool false), (.bool false), (.bool false), (.bool false), (.bool false), (.bool false), (.bool false), (.bool false), (.bool false), (.bool false), (.bool false), (.bool false), (.bool false), (.bool false), (.bool false), (.bool false), (.bool false), (.bool false), (.bool false), (.bool false), (.bool false), (.bool false), (.bool false), (.bool false), (.bool false), (.bool false), (.bool false), (.bool false), (.bool false), (.bool false), (.bool false), (.bool false), (.bool false), (.bool false), (.bool false), (.bool false), (.bool false), (.bool false), (.bool false), (.bool false), (.bool false), (.bool false), (.bool false), (.bool false), (.bool false), (.bool false), (.bool false), (.bool false), (.bool false), (.bool false), (.bool false), (.bool false), (.bool false), (.bool false), (.bool false), (.bool false), (.bool false), (.bool false), (.bool false), (.bool false), (.bool false), (.bool false), (.bool false), (.bool false), (.bool false), (.bool false), (.bool false), (.bool false), (.bool false), (.bool false), (.bool false), (.bool false), (.bool false), (.bool false), (.bool false), (.bool false), (.bool false), (.bool false), (.bool false), (.bool false), (.bool false), (.bool false), (.bool false), (.bool false), (.bool false), (.bool false), (.bool false), (.bool false), (.bool false), (.bool false), (.bool false), (.bool false), (.bool false), (.bool false), (.bool false), (.bool false), (.bool false), (.bool false), (.bool false), (.bool false), (.bool false), (.bool false), (.bool false), (.bool false), (.bool false), (.bool false), (.bool false), (.bool false), (.bool false), (.bool false), (.bool false), (.bool false), (.bool false), (.bool false), (.bool false), (.bool false), (.bool false), (.bool false), (.bool false), (.bool false), (.bool false), (.bool false), (.bool false), (.bool false), (.bool false), (.bool false), (.bool false), (.bool false), (.bool false), (.bool false), (.bool false), (.bool false), (.bool false), (.bool false), (.bool false), (.bool false), (.bool false), (.bool false), (.bool false), (.bool false), (.bool false), (.bool false), (.bool false), (.bool false), (.bool false), (.bool false), (.bool false), (.bool false), (.bool false), (.bool false), (.bool false), (.bool false), (.bool false), (.bool false), (.bool false), (.bool false), (.bool false), (.bool false), (.bool false), (.bool false), (.bool false), (.bool false), (.bool false), (.bool false), (.bool false), (.bool false), (.bool false), (.bool false), (.bool false), (.bool false), (.bool false), (.bool false), (.bool false), (.bool false), (.bool false), (.bool false), (.bool false), (.bool false), (.bool false), (.bool false), (.bool false), (.bool false), (.bool false), (.bool false), (.bool false), (.bool false), (.bool false), (.bool false), (.bool false), (.bool false), (.bool false), (.bool false), (.bool false), (.bool false), (.bool false), (.bool false), (.bool false), (.bool false), (.bool false), (.bool false), (.bool false), (.bool false), (.bool false), (.bool false), (.bool false), (.bool false), (.bool false), (.bool false), (.bool false), (.bool false), (.bool false), (.bool false), (.bool false), (.bool false), (.bool false), (.bool false), (.bool false), (.bool false), (.bool false), (.bool false), (.bool false), (.bool false), (.bool false), (.bool false), (.bool false), (.bool false), (.bool false), (.bool false), (.bool false), (.bool false), (.bool false), (.bool false), (.bool false), (.bool false), (.bool false), (.bool false), (.bool false), (.bool false), (.bool false), (.bool false), (.bool false), (.bool false), (.bool false), (.bool false), (.bool false), (.bool false), (.bool false), (.bool false)]) := by kernel_rfl
theorem ea_80 : elemK Try.prog 80 = some (some 10, 60) := by kernel_rfl
theorem ea_79 : elemK Try.prog 79 = some (some 60, 1) := by kernel_rfl
theorem sz_4 : aggSize Try.prog 4 = some 1 := by kernel_rfl
theorem fa_59_1 : fieldAt Try.prog 59 1 = some (1, 2) := by kernel_rfl
theorem fa_57_0 : fieldAt Try.prog 57 0 = some (0, 1) := by kernel_rfl
theorem fa_57_1 : fieldAt Try.prog 57 1 = some (1, 1) := by kernel_rfl
theorem ia_80 : aggK Try.prog 80 = some (true, 600) := by kernel_rfl
theorem sz_80 : aggSize Try.prog 80 = some 600 := by kernel_rfl
theorem za_57 : zeroA Try.prog 57 = some (.agg #[(.int .i64 (0)), (.int .i64 (0))]) := by kernel_rfl
theorem pl_57 : plK Try.prog 57 = some [(0, 1), (1, 1)] := by kernel_rfl
theorem pl_59 : plK Try.prog 59 = some [(0, 1), (1, 2)] := by kernel_rfl
theorem za_3 : zeroA Try.prog 3 = some (.int .i64 (0)) := by kernel_rfl
theorem sz_3 : aggSize Try.prog 3 = some 1 := by kernel_rfl
theorem sl_22 : elemK Try.prog 22 = some (none, 3) := by kernel_rfl
theorem pl_95 : plK Try.prog 95 = some [(0, 1), (1, 1)] := by kernel_rfl
theorem ze_41 : zeroE Try.prog 41 = some (.agg #[(.int .i64 (0)), (.int .i64 (0))]) := by kernel_rfl
theorem ba_41_1 : baseArr (Value.cells (.agg #[(.int .i64 (0)), (.int .i64 (0))])) (1 * 2) = #[(.int .i64 (0)), (.int .i64 (0))] := by kernel_rfl
theorem ap_41 : apK Try.prog 41 = some (2, 16) := by kernel_rfl
theorem ni_41 : notInt Try.prog 41 = true := by kernel_rfl
theorem ia_115 : aggK Try.prog 115 = some (true, 4) := by kernel_rfl
theorem pl_115 : plK Try.prog 115 = some [(0, 3), (3, 1)] := by kernel_rfl
theorem sz_57 : aggSize Try.prog 57 = some 2 := by kernel_rfl
theorem za_4 : zeroA Try.prog 4 = some (.bool false) := by kernel_rfl
theorem fa_115_0 : fieldAt Try.prog 115 0 = some (0, 3) := by kernel_rfl
theorem ia_4 : aggK Try.prog 4 = some (false, 1) := by kernel_rfl
theorem ia_57 : aggK Try.prog 57 = some (true, 2) := by kernel_rfl
theorem fa_115_1 : fieldAt Try.prog 115 1 = some (3, 1) := by kernel_rfl
theorem ia_25 : aggK Try.prog 25 = some (false, 1) := by kernel_rfl
theorem cv_3_190 : convK Try.prog 3 190 = some .u64 := by kernel_rfl
theorem cv_190_3 : convK Try.prog 190 3 = some .i64 := by kernel_rfl

end Go.Proofs.Ytiafgimgcbmgaaa.bl
