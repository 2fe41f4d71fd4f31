/-
  Names for the nodes of the code of some functions (projections of their bodies), the step of each node, and the facts of types that they use.
-/
import Derived.Test.YtgpcjdhlijompaaNP
namespace Go.Proofs.Ytgpcjdhlijompaa.ore
open Go.GE
set_option maxRecDepth 100000
noncomputable def n10_0 : Code := sub [] (bodyOf Try.f10)
noncomputable def n10_1 : Code := sub [false] (bodyOf Try.f10)
noncomputable def q10_1 : List Oper := ops [false] Try.f10
noncomputable def n10_2 : Code := sub [true] (bodyOf Try.f10)
noncomputable def n10_3 : Code := sub [true, false] (bodyOf Try.f10)
noncomputable def q10_3 : List Oper := ops [true, false] Try.f10
noncomputable def n10_4 : Code := sub [true, true] (bodyOf Try.f10)
noncomputable def n10_5 : Code := sub [true, true, false] (bodyOf Try.f10)
noncomputable def q10_5 : List Oper := ops [true, true, false] Try.f10
noncomputable def n10_6 : Code := sub [true, true, true] (bodyOf Try.f10)
noncomputable def n10_7 : Code := sub [true, true, true, false] (bodyOf Try.f10)
noncomputable def q10_7 : List Oper := ops [true, true, true, false] Try.f10
noncomputable def n10_8 : Code := sub [true, true, true, true] (bodyOf Try.f10)
noncomputable def n10_9 : Code := sub [true, true, true, true, false] (bodyOf Try.f10)
noncomputable def n10_10 : Code := sub [true, true, true, true, false, false] (bodyOf Try.f10)
noncomputable def q10_10 : List Oper := ops [true, true, true, true, false, false] Try.f10
noncomputable def n10_11 : Code := sub [true, true, true, true, false, true] (bodyOf Try.f10)
noncomputable def n10_12 : Code := sub [true, true, true, true, false, true, false] (bodyOf Try.f10)
noncomputable def n10_13 : Code := sub [true, true, true, true, false, true, false, false] (bodyOf Try.f10)
noncomputable def q10_13 : List Oper := ops [true, true, true, true, false, true, false, false] Try.f10
noncomputable def n10_14 : Code := sub [true, true, true, true, false, true, false, true] (bodyOf Try.f10)
noncomputable def n10_15 : Code := sub [true, true, true, true, false, true, true] (bodyOf Try.f10)
noncomputable def n10_16 : Code := sub [true, true, true, true, true] (bodyOf Try.f10)
noncomputable def n10_17 : Code := sub [true, true, true, true, true, false] (bodyOf Try.f10)
noncomputable def n10_18 : Code := sub [true, true, true, true, true, false, false] (bodyOf Try.f10)
noncomputable def q10_18 : List Oper := ops [true, true, true, true, true, false, false] Try.f10
noncomputable def n10_19 : Code := sub [true, true, true, true, true, false, true] (bodyOf Try.f10)
noncomputable def n10_20 : Code := sub [true, true, true, true, true, false, true, false] (bodyOf Try.f10)
noncomputable def n10_21 : Code := sub [true, true, true, true, true, false, true, false, false] (bodyOf Try.f10)
noncomputable def q10_21 : List Oper := ops [true, true, true, true, true, false, true, false, false] Try.f10
noncomputable def n10_22 : Code := sub [true, true, true, true, true, false, true, false, true] (bodyOf Try.f10)
noncomputable def n10_23 : Code := sub [true, true, true, true, true, false, true, false, true, false] (bodyOf Try.f10)
noncomputable def q10_23 : List Oper := ops [true, true, true, true, true, false, true, false, true, false] Try.f10
noncomputable def n10_24 : Code := sub [true, true, true, true, true, false, true, false, true, true] (bodyOf Try.f10)
noncomputable def n10_25 : Code := sub [true, true, true, true, true, false, true, false, true, true, false] (bodyOf Try.f10)
noncomputable def n10_26 : Code := sub [true, true, true, true, true, false, true, false, true, true, false, false] (bodyOf Try.f10)
noncomputable def q10_26 : List Oper := ops [true, true, true, true, true, false, true, false, true, true, false, false] Try.f10
noncomputable def n10_27 : Code := sub [true, true, true, true, true, false, true, false, true, true, false, true] (bodyOf Try.f10)
noncomputable def n10_28 : Code := sub [true, true, true, true, true, false, true, false, true, true, true] (bodyOf Try.f10)
noncomputable def n10_29 : Code := sub [true, true, true, true, true, false, true, true] (bodyOf Try.f10)
noncomputable def n10_30 : Code := sub [true, true, true, true, true, true] (bodyOf Try.f10)
noncomputable def n10_31 : Code := sub [true, true, true, true, true, true, false] (bodyOf Try.f10)
noncomputable def q10_31 : List Oper := ops [true, true, true, true, true, true, false] Try.f10
noncomputable def n10_32 : Code := sub [true, true, true, true, true, true, true] (bodyOf Try.f10)
noncomputable def n10_33 : Code := sub [true, true, true, true, true, true, true, false] (bodyOf Try.f10)
noncomputable def n10_34 : Code := sub [true, true, true, true, true, true, true, false, false] (bodyOf Try.f10)
noncomputable def q10_34 : List Oper := ops [true, true, true, true, true, true, true, false, false] Try.f10
noncomputable def n10_35 : Code := sub [true, true, true, true, true, true, true, false, true] (bodyOf Try.f10)
noncomputable def n10_36 : Code := sub [true, true, true, true, true, true, true, false, true, false] (bodyOf Try.f10)
noncomputable def n10_37 : Code := sub [true, true, true, true, true, true, true, false, true, false, false] (bodyOf Try.f10)
noncomputable def q10_37 : List Oper := ops [true, true, true, true, true, true, true, false, true, false, false] Try.f10
noncomputable def n10_38 : Code := sub [true, true, true, true, true, true, true, false, true, false, true] (bodyOf Try.f10)
noncomputable def n10_39 : Code := sub [true, true, true, true, true, true, true, false, true, true] (bodyOf Try.f10)
noncomputable def n10_40 : Code := sub [true, true, true, true, true, true, true, true] (bodyOf Try.f10)
noncomputable def n10_41 : Code := sub [true, true, true, true, true, true, true, true, false] (bodyOf Try.f10)
noncomputable def q10_41 : List Oper := ops [true, true, true, true, true, true, true, true, false] Try.f10
noncomputable def n10_42 : Code := sub [true, true, true, true, true, true, true, true, true] (bodyOf Try.f10)
noncomputable def n10_43 : Code := sub [true, true, true, true, true, true, true, true, true, false] (bodyOf Try.f10)
noncomputable def n10_44 : Code := sub [true, true, true, true, true, true, true, true, true, false, false] (bodyOf Try.f10)
noncomputable def q10_44 : List Oper := ops [true, true, true, true, true, true, true, true, true, false, false] Try.f10
noncomputable def n10_45 : Code := sub [true, true, true, true, true, true, true, true, true, false, true] (bodyOf Try.f10)
noncomputable def n10_46 : Code := sub [true, true, true, true, true, true, true, true, true, false, true, false] (bodyOf Try.f10)
noncomputable def n10_47 : Code := sub [true, true, true, true, true, true, true, true, true, false, true, false, false] (bodyOf Try.f10)
noncomputable def n10_48 : Code := sub [true, true, true, true, true, true, true, true, true, false, true, false, false, false] (bodyOf Try.f10)
noncomputable def q10_48 : List Oper := ops [true, true, true, true, true, true, true, true, true, false, true, false, false, false] Try.f10
noncomputable def n10_49 : Code := sub [true, true, true, true, true, true, true, true, true, false, true, false, false, true] (bodyOf Try.f10)
noncomputable def n10_50 : Code := sub [true, true, true, true, true, true, true, true, true, false, true, false, false, true, false] (bodyOf Try.f10)
noncomputable def n10_51 : Code := sub [true, true, true, true, true, true, true, true, true, false, true, false, false, true, false, false] (bodyOf Try.f10)
noncomputable def n10_52 : Code := sub [true, true, true, true, true, true, true, true, true, false, true, false, false, true, false, true] (bodyOf Try.f10)
noncomputable def n10_53 : Code := sub [true, true, true, true, true, true, true, true, true, false, true, false, false, true, true] (bodyOf Try.f10)
noncomputable def n10_54 : Code := sub [true, true, true, true, true, true, true, true, true, false, true, false, false, true, true, false] (bodyOf Try.f10)
noncomputable def n10_55 : Code := sub [true, true, true, true, true, true, true, true, true, false, true, false, false, true, true, false, false] (bodyOf Try.f10)
noncomputable def n10_56 : Code := sub [true, true, true, true, true, true, true, true, true, false, true, false, false, true, true, false, false, false] (bodyOf Try.f10)
noncomputable def q10_56 : List Oper := ops [true, true, true, true, true, true, true, true, true, false, true, false, false, true, true, false, false, false] Try.f10
noncomputable def n10_57 : Code := sub [true, true, true, true, true, true, true, true, true, false, true, false, false, true, true, false, false, true] (bodyOf Try.f10)
noncomputable def n10_58 : Code := sub [true, true, true, true, true, true, true, true, true, false, true, false, false, true, true, false, false, true, false] (bodyOf Try.f10)
noncomputable def q10_58 : List Oper := ops [true, true, true, true, true, true, true, true, true, false, true, false, false, true, true, false, false, true, false] Try.f10
noncomputable def n10_59 : Code := sub [true, true, true, true, true, true, true, true, true, false, true, false, false, true, true, false, false, true, true] (bodyOf Try.f10)
noncomputable def n10_60 : Code := sub [true, true, true, true, true, true, true, true, true, false, true, false, false, true, true, false, false, true, true, false] (bodyOf Try.f10)
noncomputable def n10_61 : Code := sub [true, true, true, true, true, true, true, true, true, false, true, false, false, true, true, false, false, true, true, false, false] (bodyOf Try.f10)
noncomputable def q10_61 : List Oper := ops [true, true, true, true, true, true, true, true, true, false, true, false, false, true, true, false, false, true, true, false, false] Try.f10
noncomputable def n10_62 : Code := sub [true, true, true, true, true, true, true, true, true, false, true, false, false, true, true, false, false, true, true, false, true] (bodyOf Try.f10)
noncomputable def n10_63 : Code := sub [true, true, true, true, true, true, true, true, true, false, true, false, false, true, true, false, false, true, true, false, true, false] (bodyOf Try.f10)
noncomputable def q10_63 : List Oper := ops [true, true, true, true, true, true, true, true, true, false, true, false, false, true, true, false, false, true, true, false, true, false] Try.f10
noncomputable def n10_64 : Code := sub [true, true, true, true, true, true, true, true, true, false, true, false, false, true, true, false, false, true, true, false, true, true] (bodyOf Try.f10)
noncomputable def n10_65 : Code := sub [true, true, true, true, true, true, true, true, true, false, true, false, false, true, true, false, false, true, true, true] (bodyOf Try.f10)
noncomputable def n10_66 : Code := sub [true, true, true, true, true, true, true, true, true, false, true, false, false, true, true, false, false, true, true, true, false] (bodyOf Try.f10)
noncomputable def q10_66 : List Oper := ops [true, true, true, true, true, true, true, true, true, false, true, false, false, true, true, false, false, true, true, true, false] Try.f10
noncomputable def n10_67 : Code := sub [true, true, true, true, true, true, true, true, true, false, true, false, false, true, true, false, false, true, true, true, true] (bodyOf Try.f10)
noncomputable def n10_68 : Code := sub [true, true, true, true, true, true, true, true, true, false, true, false, false, true, true, false, false, true, true, true, true, false] (bodyOf Try.f10)
noncomputable def n10_69 : Code := sub [true, true, true, true, true, true, true, true, true, false, true, false, false, true, true, false, false, true, true, true, true, false, false] (bodyOf Try.f10)
noncomputable def n10_70 : Code := sub [true, true, true, true, true, true, true, true, true, false, true, false, false, true, true, false, false, true, true, true, true, false, false, false] (bodyOf Try.f10)
noncomputable def n10_71 : Code := sub [true, true, true, true, true, true, true, true, true, false, true, false, false, true, true, false, false, true, true, true, true, false, false, false, false] (bodyOf Try.f10)
noncomputable def q10_71 : List Oper := ops [true, true, true, true, true, true, true, true, true, false, true, false, false, true, true, false, false, true, true, true, true, false, false, false, false] Try.f10
noncomputable def n10_72 : Code := sub [true, true, true, true, true, true, true, true, true, false, true, false, false, true, true, false, false, true, true, true, true, false, false, false, true] (bodyOf Try.f10)
noncomputable def n10_73 : Code := sub [true, true, true, true, true, true, true, true, true, false, true, false, false, true, true, false, false, true, true, true, true, false, false, false, true, false] (bodyOf Try.f10)
noncomputable def n10_74 : Code := sub [true, true, true, true, true, true, true, true, true, false, true, false, false, true, true, false, false, true, true, true, true, false, false, false, true, true] (bodyOf Try.f10)
noncomputable def n10_75 : Code := sub [true, true, true, true, true, true, true, true, true, false, true, false, false, true, true, false, false, true, true, true, true, false, false, true] (bodyOf Try.f10)
noncomputable def n10_76 : Code := sub [true, true, true, true, true, true, true, true, true, false, true, false, false, true, true, false, false, true, true, true, true, false, false, true, false] (bodyOf Try.f10)
noncomputable def n10_77 : Code := sub [true, true, true, true, true, true, true, true, true, false, true, false, false, true, true, false, false, true, true, true, true, false, false, true, false, false] (bodyOf Try.f10)
noncomputable def n10_78 : Code := sub [true, true, true, true, true, true, true, true, true, false, true, false, false, true, true, false, false, true, true, true, true, false, false, true, false, false, false] (bodyOf Try.f10)
noncomputable def q10_78 : List Oper := ops [true, true, true, true, true, true, true, true, true, false, true, false, false, true, true, false, false, true, true, true, true, false, false, true, false, false, false] Try.f10
noncomputable def n10_79 : Code := sub [true, true, true, true, true, true, true, true, true, false, true, false, false, true, true, false, false, true, true, true, true, false, false, true, false, false, true] (bodyOf Try.f10)
noncomputable def n10_80 : Code := sub [true, true, true, true, true, true, true, true, true, false, true, false, false, true, true, false, false, true, true, true, true, false, false, true, false, false, true, false] (bodyOf Try.f10)
noncomputable def q10_80 : List Oper := ops [true, true, true, true, true, true, true, true, true, false, true, false, false, true, true, false, false, true, true, true, true, false, false, true, false, false, true, false] Try.f10
noncomputable def n10_81 : Code := sub [true, true, true, true, true, true, true, true, true, false, true, false, false, true, true, false, false, true, true, true, true, false, false, true, false, false, true, true] (bodyOf Try.f10)
noncomputable def n10_82 : Code := sub [true, true, true, true, true, true, true, true, true, false, true, false, false, true, true, false, false, true, true, true, true, false, false, true, false, false, true, true, false] (bodyOf Try.f10)
noncomputable def q10_82 : List Oper := ops [true, true, true, true, true, true, true, true, true, false, true, false, false, true, true, false, false, true, true, true, true, false, false, true, false, false, true, true, false] Try.f10
noncomputable def n10_83 : Code := sub [true, true, true, true, true, true, true, true, true, false, true, false, false, true, true, false, false, true, true, true, true, false, false, true, false, false, true, true, true] (bodyOf Try.f10)
noncomputable def n10_84 : Code := sub [true, true, true, true, true, true, true, true, true, false, true, false, false, true, true, false, false, true, true, true, true, false, false, true, false, false, true, true, true, false] (bodyOf Try.f10)
noncomputable def n10_85 : Code := sub [true, true, true, true, true, true, true, true, true, false, true, false, false, true, true, false, false, true, true, true, true, false, false, true, false, false, true, true, true, false, false] (bodyOf Try.f10)
noncomputable def q10_85 : List Oper := ops [true, true, true, true, true, true, true, true, true, false, true, false, false, true, true, false, false, true, true, true, true, false, false, true, false, false, true, true, true, false, false] Try.f10
noncomputable def n10_86 : Code := sub [true, true, true, true, true, true, true, true, true, false, true, false, false, true, true, false, false, true, true, true, true, false, false, true, false, false, true, true, true, false, true] (bodyOf Try.f10)
noncomputable def n10_87 : Code := sub [true, true, true, true, true, true, true, true, true, false, true, false, false, true, true, false, false, true, true, true, true, false, false, true, false, false, true, true, true, false, true, false] (bodyOf Try.f10)
noncomputable def n10_88 : Code := sub [true, true, true, true, true, true, true, true, true, false, true, false, false, true, true, false, false, true, true, true, true, false, false, true, false, false, true, true, true, false, true, false, false] (bodyOf Try.f10)
noncomputable def q10_88 : List Oper := ops [true, true, true, true, true, true, true, true, true, false, true, false, false, true, true, false, false, true, true, true, true, false, false, true, false, false, true, true, true, false, true, false, false] Try.f10
noncomputable def n10_89 : Code := sub [true, true, true, true, true, true, true, true, true, false, true, false, false, true, true, false, false, true, true, true, true, false, false, true, false, false, true, true, true, false, true, false, true] (bodyOf Try.f10)
noncomputable def n10_90 : Code := sub [true, true, true, true, true, true, true, true, true, false, true, false, false, true, true, false, false, true, true, true, true, false, false, true, false, false, true, true, true, false, true, true] (bodyOf Try.f10)
noncomputable def n10_91 : Code := sub [true, true, true, true, true, true, true, true, true, false, true, false, false, true, true, false, false, true, true, true, true, false, false, true, false, false, true, true, true, true] (bodyOf Try.f10)
noncomputable def n10_92 : Code := sub [true, true, true, true, true, true, true, true, true, false, true, false, false, true, true, false, false, true, true, true, true, false, false, true, false, false, true, true, true, true, false] (bodyOf Try.f10)
noncomputable def q10_92 : List Oper := ops [true, true, true, true, true, true, true, true, true, false, true, false, false, true, true, false, false, true, true, true, true, false, false, true, false, false, true, true, true, true, false] Try.f10
noncomputable def n10_93 : Code := sub [true, true, true, true, true, true, true, true, true, false, true, false, false, true, true, false, false, true, true, true, true, false, false, true, false, false, true, true, true, true, true] (bodyOf Try.f10)
noncomputable def n10_94 : Code := sub [true, true, true, true, true, true, true, true, true, false, true, false, false, true, true, false, false, true, true, true, true, false, false, true, false, false, true, true, true, true, true, false] (bodyOf Try.f10)
noncomputable def q10_94 : List Oper := ops [true, true, true, true, true, true, true, true, true, false, true, false, false, true, true, false, false, true, true, true, true, false, false, true, false, false, true, true, true, true, true, false] Try.f10
noncomputable def n10_95 : Code := sub [true, true, true, true, true, true, true, true, true, false, true, false, false, true, true, false, false, true, true, true, true, false, false, true, false, false, true, true, true, true, true, true] (bodyOf Try.f10)
noncomputable def n10_96 : Code := sub [true, true, true, true, true, true, true, true, true, false, true, false, false, true, true, false, false, true, true, true, true, false, false, true, true] (bodyOf Try.f10)
noncomputable def q10_96 : List Oper := ops [true, true, true, true, true, true, true, true, true, false, true, false, false, true, true, false, false, true, true, true, true, false, false, true, true] Try.f10
noncomputable def n10_97 : Code := sub [true, true, true, true, true, true, true, true, true, false, true, false, false, true, true, true] (bodyOf Try.f10)
noncomputable def q10_97 : List Oper := ops [true, true, true, true, true, true, true, true, true, false, true, false, false, true, true, true] Try.f10
noncomputable def n10_98 : Code := sub [true, true, true, true, true, true, true, true, true, true] (bodyOf Try.f10)
noncomputable def n10_99 : Code := sub [true, true, true, true, true, true, true, true, true, true, false] (bodyOf Try.f10)
noncomputable def q10_99 : List Oper := ops [true, true, true, true, true, true, true, true, true, true, false] Try.f10
noncomputable def n10_100 : Code := sub [true, true, true, true, true, true, true, true, true, true, true] (bodyOf Try.f10)
theorem body10 : Try.f10.body = some n10_0 := by kernel_rfl
theorem run10 (E : Ev) (args : List Value) (h : List Blk) (hl : args.length ≤ 176) : runB Try.prog E 10 args h = endS Try.prog [.tmp 4] h.length (codeB Try.prog E ⟨10, 176, h.length, none⟩ n10_0 ⟨enumT 0 args, h, []⟩) := GE.run_step Try.func10 body10 (by kernel_rfl) (by decide) (by kernel_rfl) hl
theorem n10_1s (E : Ev) (f : FuncId) (b : Nat) (ro : Option Nat) (st : St) : codeB Try.prog E ⟨f, 176, b, ro⟩ n10_1 st = plainS (runOps Try.prog E b q10_1 (ops [false] Try.f10) st) := GE.region_step (id := 0) (by kernel_rfl) (by kernel_rfl)
theorem n10_3s (E : Ev) (f : FuncId) (b : Nat) (ro : Option Nat) (st : St) : codeB Try.prog E ⟨f, 176, b, ro⟩ n10_3 st = plainS (runOps Try.prog E b q10_3 (ops [true, false] Try.f10) st) := GE.region_step (id := 1) (by kernel_rfl) (by kernel_rfl)
theorem n10_5s (E : Ev) (f : FuncId) (b : Nat) (ro : Option Nat) (st : St) : codeB Try.prog E ⟨f, 176, b, ro⟩ n10_5 st = plainS (runOps Try.prog E b q10_5 (ops [true, true, false] Try.f10) st) := GE.region_step (id := 2) (by kernel_rfl) (by kernel_rfl)
theorem n10_7s (E : Ev) (f : FuncId) (b : Nat) (ro : Option Nat) (st : St) : codeB Try.prog E ⟨f, 176, b, ro⟩ n10_7 st = plainS (runOps Try.prog E b q10_7 (ops [true, true, true, false] Try.f10) st) := GE.region_step (id := 3) (by kernel_rfl) (by kernel_rfl)
theorem q10_10g2 : gd q10_10 2 = some 48 := by kernel_rfl
theorem q10_10g6 : gd q10_10 6 = some 52 := by kernel_rfl
theorem q10_10g11 : gd q10_10 11 = some 57 := by kernel_rfl
theorem q10_10g15 : gd q10_10 15 = some 61 := by kernel_rfl
theorem q10_10g18 : gd q10_10 18 = some 64 := by kernel_rfl
theorem q10_10g22 : gd q10_10 22 = some 68 := by kernel_rfl
theorem n10_10s (E : Ev) (f : FuncId) (b : Nat) (ro : Option Nat) (st : St) : codeB Try.prog E ⟨f, 176, b, ro⟩ n10_10 st = plainS (runOps Try.prog E b q10_10 (ops [true, true, true, true, false, false] Try.f10) st) := GE.region_step (id := 4) (by kernel_rfl) (by kernel_rfl)
theorem n10_13s (E : Ev) (f : FuncId) (b : Nat) (ro : Option Nat) (st : St) : codeB Try.prog E ⟨f, 176, b, ro⟩ n10_13 st = plainS (runOps Try.prog E b q10_13 (ops [true, true, true, true, false, true, false, false] Try.f10) st) := GE.region_step (id := 5) (by kernel_rfl) (by kernel_rfl)
theorem n10_14s (E : Ev) (cx : Cx) (st : St) : codeB Try.prog E cx n10_14 st = some (.ret, st) := GE.ret_step (by kernel_rfl)
theorem n10_12s (E : Ev) (cx : Cx) (st : St) : codeB Try.prog E cx n10_12 st = thenS (codeB Try.prog E cx n10_13 st) (codeB Try.prog E cx n10_14) := GE.seq_step (by kernel_rfl)
theorem n10_15s (E : Ev) (cx : Cx) (st : St) : codeB Try.prog E cx n10_15 st = some (.normal, st) := GE.skip_step (by kernel_rfl)
theorem n10_11s (E : Ev) (cx : Cx) (st : St) : codeB Try.prog E cx n10_11 st = condS (codeB Try.prog E cx n10_12) (codeB Try.prog E cx n10_15) (lk st.σ 72) st := GE.cond_step (c := .tmp 72) (by kernel_rfl)
theorem n10_9s (E : Ev) (cx : Cx) (st : St) : codeB Try.prog E cx n10_9 st = thenS (codeB Try.prog E cx n10_10 st) (codeB Try.prog E cx n10_11) := GE.seq_step (by kernel_rfl)
theorem n10_18s (E : Ev) (f : FuncId) (b : Nat) (ro : Option Nat) (st : St) : codeB Try.prog E ⟨f, 176, b, ro⟩ n10_18 st = plainS (runOps Try.prog E b q10_18 (ops [true, true, true, true, true, false, false] Try.f10) st) := GE.region_step (id := 6) (by kernel_rfl) (by kernel_rfl)
theorem n10_21s (E : Ev) (f : FuncId) (b : Nat) (ro : Option Nat) (st : St) : codeB Try.prog E ⟨f, 176, b, ro⟩ n10_21 st = plainS (runOps Try.prog E b q10_21 (ops [true, true, true, true, true, false, true, false, false] Try.f10) st) := GE.region_step (id := 7) (by kernel_rfl) (by kernel_rfl)
theorem q10_23g2 : gd q10_23 2 = some 84 := by kernel_rfl
theorem n10_23s (E : Ev) (f : FuncId) (b : Nat) (ro : Option Nat) (st : St) : codeB Try.prog E ⟨f, 176, b, ro⟩ n10_23 st = plainS (runOps Try.prog E b q10_23 (ops [true, true, true, true, true, false, true, false, true, false] Try.f10) st) := GE.region_step (id := 8) (by kernel_rfl) (by kernel_rfl)
theorem n10_26s (E : Ev) (f : FuncId) (b : Nat) (ro : Option Nat) (st : St) : codeB Try.prog E ⟨f, 176, b, ro⟩ n10_26 st = plainS (runOps Try.prog E b q10_26 (ops [true, true, true, true, true, false, true, false, true, true, false, false] Try.f10) st) := GE.region_step (id := 9) (by kernel_rfl) (by kernel_rfl)
theorem n10_27s (E : Ev) (cx : Cx) (st : St) : codeB Try.prog E cx n10_27 st = some (.ret, st) := GE.ret_step (by kernel_rfl)
theorem n10_25s (E : Ev) (cx : Cx) (st : St) : codeB Try.prog E cx n10_25 st = thenS (codeB Try.prog E cx n10_26 st) (codeB Try.prog E cx n10_27) := GE.seq_step (by kernel_rfl)
theorem n10_28s (E : Ev) (cx : Cx) (st : St) : codeB Try.prog E cx n10_28 st = some (.normal, st) := GE.skip_step (by kernel_rfl)
theorem n10_24s (E : Ev) (cx : Cx) (st : St) : codeB Try.prog E cx n10_24 st = condS (codeB Try.prog E cx n10_25) (codeB Try.prog E cx n10_28) (lk st.σ 88) st := GE.cond_step (c := .tmp 88) (by kernel_rfl)
theorem n10_22s (E : Ev) (cx : Cx) (st : St) : codeB Try.prog E cx n10_22 st = thenS (codeB Try.prog E cx n10_23 st) (codeB Try.prog E cx n10_24) := GE.seq_step (by kernel_rfl)
theorem n10_20s (E : Ev) (cx : Cx) (st : St) : codeB Try.prog E cx n10_20 st = thenS (codeB Try.prog E cx n10_21 st) (codeB Try.prog E cx n10_22) := GE.seq_step (by kernel_rfl)
theorem n10_29s (E : Ev) (cx : Cx) (st : St) : codeB Try.prog E cx n10_29 st = some (.normal, st) := GE.skip_step (by kernel_rfl)
theorem n10_19s (E : Ev) (cx : Cx) (st : St) : codeB Try.prog E cx n10_19 st = condS (codeB Try.prog E cx n10_20) (codeB Try.prog E cx n10_29) (lk st.σ 74) st := GE.cond_step (c := .tmp 74) (by kernel_rfl)
theorem n10_17s (E : Ev) (cx : Cx) (st : St) : codeB Try.prog E cx n10_17 st = thenS (codeB Try.prog E cx n10_18 st) (codeB Try.prog E cx n10_19) := GE.seq_step (by kernel_rfl)
theorem n10_31s (E : Ev) (f : FuncId) (b : Nat) (ro : Option Nat) (st : St) : codeB Try.prog E ⟨f, 176, b, ro⟩ n10_31 st = plainS (runOps Try.prog E b q10_31 (ops [true, true, true, true, true, true, false] Try.f10) st) := GE.region_step (id := 10) (by kernel_rfl) (by kernel_rfl)
theorem q10_34g2 : gd q10_34 2 = some 97 := by kernel_rfl
theorem n10_34s (E : Ev) (f : FuncId) (b : Nat) (ro : Option Nat) (st : St) : codeB Try.prog E ⟨f, 176, b, ro⟩ n10_34 st = plainS (runOps Try.prog E b q10_34 (ops [true, true, true, true, true, true, true, false, false] Try.f10) st) := GE.region_step (id := 11) (by kernel_rfl) (by kernel_rfl)
theorem q10_37g2 : gd q10_37 2 = some 103 := by kernel_rfl
theorem n10_37s (E : Ev) (f : FuncId) (b : Nat) (ro : Option Nat) (st : St) : codeB Try.prog E ⟨f, 176, b, ro⟩ n10_37 st = plainS (runOps Try.prog E b q10_37 (ops [true, true, true, true, true, true, true, false, true, false, false] Try.f10) st) := GE.region_step (id := 12) (by kernel_rfl) (by kernel_rfl)
theorem n10_38s (E : Ev) (cx : Cx) (st : St) : codeB Try.prog E cx n10_38 st = some (.ret, st) := GE.ret_step (by kernel_rfl)
theorem n10_36s (E : Ev) (cx : Cx) (st : St) : codeB Try.prog E cx n10_36 st = thenS (codeB Try.prog E cx n10_37 st) (codeB Try.prog E cx n10_38) := GE.seq_step (by kernel_rfl)
theorem n10_39s (E : Ev) (cx : Cx) (st : St) : codeB Try.prog E cx n10_39 st = some (.normal, st) := GE.skip_step (by kernel_rfl)
theorem n10_35s (E : Ev) (cx : Cx) (st : St) : codeB Try.prog E cx n10_35 st = condS (codeB Try.prog E cx n10_36) (codeB Try.prog E cx n10_39) (lk st.σ 100) st := GE.cond_step (c := .tmp 100) (by kernel_rfl)
theorem n10_33s (E : Ev) (cx : Cx) (st : St) : codeB Try.prog E cx n10_33 st = thenS (codeB Try.prog E cx n10_34 st) (codeB Try.prog E cx n10_35) := GE.seq_step (by kernel_rfl)
theorem n10_41s (E : Ev) (f : FuncId) (b : Nat) (ro : Option Nat) (st : St) : codeB Try.prog E ⟨f, 176, b, ro⟩ n10_41 st = plainS (runOps Try.prog E b q10_41 (ops [true, true, true, true, true, true, true, true, false] Try.f10) st) := GE.region_step (id := 13) (by kernel_rfl) (by kernel_rfl)
theorem n10_44s (E : Ev) (f : FuncId) (b : Nat) (ro : Option Nat) (st : St) : codeB Try.prog E ⟨f, 176, b, ro⟩ n10_44 st = plainS (runOps Try.prog E b q10_44 (ops [true, true, true, true, true, true, true, true, true, false, false] Try.f10) st) := GE.region_step (id := 14) (by kernel_rfl) (by kernel_rfl)
theorem n10_48s (E : Ev) (f : FuncId) (b : Nat) (ro : Option Nat) (st : St) : codeB Try.prog E ⟨f, 176, b, ro⟩ n10_48 st = plainS (runOps Try.prog E b q10_48 (ops [true, true, true, true, true, true, true, true, true, false, true, false, false, false] Try.f10) st) := GE.region_step (id := 15) (by kernel_rfl) (by kernel_rfl)
theorem n10_51s (E : Ev) (cx : Cx) (st : St) : codeB Try.prog E cx n10_51 st = some (.normal, st) := GE.skip_step (by kernel_rfl)
theorem n10_52s (E : Ev) (cx : Cx) (st : St) : codeB Try.prog E cx n10_52 st = some (.exit 0, st) := GE.exit_step (by kernel_rfl)
theorem n10_50s (E : Ev) (cx : Cx) (st : St) : codeB Try.prog E cx n10_50 st = condS (codeB Try.prog E cx n10_51) (codeB Try.prog E cx n10_52) (lk st.σ 109) st := GE.cond_step (c := .tmp 109) (by kernel_rfl)
theorem n10_56s (E : Ev) (f : FuncId) (b : Nat) (ro : Option Nat) (st : St) : codeB Try.prog E ⟨f, 176, b, ro⟩ n10_56 st = plainS (runOps Try.prog E b q10_56 (ops [true, true, true, true, true, true, true, true, true, false, true, false, false, true, true, false, false, false] Try.f10) st) := GE.region_step (id := 16) (by kernel_rfl) (by kernel_rfl)
theorem n10_58s (E : Ev) (f : FuncId) (b : Nat) (ro : Option Nat) (st : St) : codeB Try.prog E ⟨f, 176, b, ro⟩ n10_58 st = plainS (runOps Try.prog E b q10_58 (ops [true, true, true, true, true, true, true, true, true, false, true, false, false, true, true, false, false, true, false] Try.f10) st) := GE.region_step (id := 17) (by kernel_rfl) (by kernel_rfl)
theorem n10_61s (E : Ev) (f : FuncId) (b : Nat) (ro : Option Nat) (st : St) : codeB Try.prog E ⟨f, 176, b, ro⟩ n10_61 st = plainS (runOps Try.prog E b q10_61 (ops [true, true, true, true, true, true, true, true, true, false, true, false, false, true, true, false, false, true, true, false, false] Try.f10) st) := GE.region_step (id := 18) (by kernel_rfl) (by kernel_rfl)
theorem n10_63s (E : Ev) (f : FuncId) (b : Nat) (ro : Option Nat) (st : St) : codeB Try.prog E ⟨f, 176, b, ro⟩ n10_63 st = plainS (runOps Try.prog E b q10_63 (ops [true, true, true, true, true, true, true, true, true, false, true, false, false, true, true, false, false, true, true, false, true, false] Try.f10) st) := GE.region_step (id := 19) (by kernel_rfl) (by kernel_rfl)
theorem n10_64s (E : Ev) (cx : Cx) (st : St) : codeB Try.prog E cx n10_64 st = some (.normal, st) := GE.skip_step (by kernel_rfl)
theorem n10_62s (E : Ev) (cx : Cx) (st : St) : codeB Try.prog E cx n10_62 st = condS (codeB Try.prog E cx n10_63) (codeB Try.prog E cx n10_64) (lk st.σ 115) st := GE.cond_step (c := .tmp 115) (by kernel_rfl)
theorem n10_60s (E : Ev) (cx : Cx) (st : St) : codeB Try.prog E cx n10_60 st = thenS (codeB Try.prog E cx n10_61 st) (codeB Try.prog E cx n10_62) := GE.seq_step (by kernel_rfl)
theorem n10_66s (E : Ev) (f : FuncId) (b : Nat) (ro : Option Nat) (st : St) : codeB Try.prog E ⟨f, 176, b, ro⟩ n10_66 st = plainS (runOps Try.prog E b q10_66 (ops [true, true, true, true, true, true, true, true, true, false, true, false, false, true, true, false, false, true, true, true, false] Try.f10) st) := GE.region_step (id := 20) (by kernel_rfl) (by kernel_rfl)
theorem n10_71s (E : Ev) (f : FuncId) (b : Nat) (ro : Option Nat) (st : St) : codeB Try.prog E ⟨f, 176, b, ro⟩ n10_71 st = plainS (runOps Try.prog E b q10_71 (ops [true, true, true, true, true, true, true, true, true, false, true, false, false, true, true, false, false, true, true, true, true, false, false, false, false] Try.f10) st) := GE.region_step (id := 21) (by kernel_rfl) (by kernel_rfl)
theorem n10_73s (E : Ev) (cx : Cx) (st : St) : codeB Try.prog E cx n10_73 st = some (.normal, st) := GE.skip_step (by kernel_rfl)
theorem n10_74s (E : Ev) (cx : Cx) (st : St) : codeB Try.prog E cx n10_74 st = some (.exit 2, st) := GE.exit_step (by kernel_rfl)
theorem n10_72s (E : Ev) (cx : Cx) (st : St) : codeB Try.prog E cx n10_72 st = condS (codeB Try.prog E cx n10_73) (codeB Try.prog E cx n10_74) (lk st.σ 120) st := GE.cond_step (c := .tmp 120) (by kernel_rfl)
theorem n10_70s (E : Ev) (cx : Cx) (st : St) : codeB Try.prog E cx n10_70 st = thenS (codeB Try.prog E cx n10_71 st) (codeB Try.prog E cx n10_72) := GE.seq_step (by kernel_rfl)
theorem n10_78s (E : Ev) (f : FuncId) (b : Nat) (ro : Option Nat) (st : St) : codeB Try.prog E ⟨f, 176, b, ro⟩ n10_78 st = plainS (runOps Try.prog E b q10_78 (ops [true, true, true, true, true, true, true, true, true, false, true, false, false, true, true, false, false, true, true, true, true, false, false, true, false, false, false] Try.f10) st) := GE.region_step (id := 23) (by kernel_rfl) (by kernel_rfl)
theorem n10_80s (E : Ev) (f : FuncId) (b : Nat) (ro : Option Nat) (st : St) : codeB Try.prog E ⟨f, 176, b, ro⟩ n10_80 st = plainS (runOps Try.prog E b q10_80 (ops [true, true, true, true, true, true, true, true, true, false, true, false, false, true, true, false, false, true, true, true, true, false, false, true, false, false, true, false] Try.f10) st) := GE.region_step (id := 24) (by kernel_rfl) (by kernel_rfl)
theorem n10_82s (E : Ev) (f : FuncId) (b : Nat) (ro : Option Nat) (st : St) : codeB Try.prog E ⟨f, 176, b, ro⟩ n10_82 st = plainS (runOps Try.prog E b q10_82 (ops [true, true, true, true, true, true, true, true, true, false, true, false, false, true, true, false, false, true, true, true, true, false, false, true, false, false, true, true, false] Try.f10) st) := GE.region_step (id := 25) (by kernel_rfl) (by kernel_rfl)
theorem q10_85g2 : gd q10_85 2 = some 145 := by kernel_rfl
theorem q10_85g6 : gd q10_85 6 = some 149 := by kernel_rfl
theorem n10_85s (E : Ev) (f : FuncId) (b : Nat) (ro : Option Nat) (st : St) : codeB Try.prog E ⟨f, 176, b, ro⟩ n10_85 st = plainS (runOps Try.prog E b q10_85 (ops [true, true, true, true, true, true, true, true, true, false, true, false, false, true, true, false, false, true, true, true, true, false, false, true, false, false, true, true, true, false, false] Try.f10) st) := GE.region_step (id := 26) (by kernel_rfl) (by kernel_rfl)
theorem n10_88s (E : Ev) (f : FuncId) (b : Nat) (ro : Option Nat) (st : St) : codeB Try.prog E ⟨f, 176, b, ro⟩ n10_88 st = plainS (runOps Try.prog E b q10_88 (ops [true, true, true, true, true, true, true, true, true, false, true, false, false, true, true, false, false, true, true, true, true, false, false, true, false, false, true, true, true, false, true, false, false] Try.f10) st) := GE.region_step (id := 27) (by kernel_rfl) (by kernel_rfl)
theorem n10_89s (E : Ev) (cx : Cx) (st : St) : codeB Try.prog E cx n10_89 st = some (.ret, st) := GE.ret_step (by kernel_rfl)
theorem n10_87s (E : Ev) (cx : Cx) (st : St) : codeB Try.prog E cx n10_87 st = thenS (codeB Try.prog E cx n10_88 st) (codeB Try.prog E cx n10_89) := GE.seq_step (by kernel_rfl)
theorem n10_90s (E : Ev) (cx : Cx) (st : St) : codeB Try.prog E cx n10_90 st = some (.normal, st) := GE.skip_step (by kernel_rfl)
theorem n10_86s (E : Ev) (cx : Cx) (st : St) : codeB Try.prog E cx n10_86 st = condS (codeB Try.prog E cx n10_87) (codeB Try.prog E cx n10_90) (lk st.σ 153) st := GE.cond_step (c := .tmp 153) (by kernel_rfl)
theorem n10_84s (E : Ev) (cx : Cx) (st : St) : codeB Try.prog E cx n10_84 st = thenS (codeB Try.prog E cx n10_85 st) (codeB Try.prog E cx n10_86) := GE.seq_step (by kernel_rfl)
theorem q10_92g4 : gd q10_92 4 = some 158 := by kernel_rfl
theorem n10_92s (E : Ev) (f : FuncId) (b : Nat) (ro : Option Nat) (st : St) : codeB Try.prog E ⟨f, 176, b, ro⟩ n10_92 st = plainS (runOps Try.prog E b q10_92 (ops [true, true, true, true, true, true, true, true, true, false, true, false, false, true, true, false, false, true, true, true, true, false, false, true, false, false, true, true, true, true, false] Try.f10) st) := GE.region_step (id := 28) (by kernel_rfl) (by kernel_rfl)
theorem n10_94s (E : Ev) (f : FuncId) (b : Nat) (ro : Option Nat) (st : St) : codeB Try.prog E ⟨f, 176, b, ro⟩ n10_94 st = plainS (runOps Try.prog E b q10_94 (ops [true, true, true, true, true, true, true, true, true, false, true, false, false, true, true, false, false, true, true, true, true, false, false, true, false, false, true, true, true, true, true, false] Try.f10) st) := GE.region_step (id := 29) (by kernel_rfl) (by kernel_rfl)
theorem n10_95s (E : Ev) (cx : Cx) (st : St) : codeB Try.prog E cx n10_95 st = some (.normal, st) := GE.skip_step (by kernel_rfl)
theorem n10_93s (E : Ev) (cx : Cx) (st : St) : codeB Try.prog E cx n10_93 st = condS (codeB Try.prog E cx n10_94) (codeB Try.prog E cx n10_95) (lk st.σ 163) st := GE.cond_step (c := .tmp 163) (by kernel_rfl)
theorem n10_91s (E : Ev) (cx : Cx) (st : St) : codeB Try.prog E cx n10_91 st = thenS (codeB Try.prog E cx n10_92 st) (codeB Try.prog E cx n10_93) := GE.seq_step (by kernel_rfl)
theorem n10_83s (E : Ev) (cx : Cx) (st : St) : codeB Try.prog E cx n10_83 st = thenS (codeB Try.prog E cx n10_84 st) (codeB Try.prog E cx n10_91) := GE.seq_step (by kernel_rfl)
theorem n10_81s (E : Ev) (cx : Cx) (st : St) : codeB Try.prog E cx n10_81 st = thenS (codeB Try.prog E cx n10_82 st) (codeB Try.prog E cx n10_83) := GE.seq_step (by kernel_rfl)
theorem n10_79s (E : Ev) (cx : Cx) (st : St) : codeB Try.prog E cx n10_79 st = thenS (codeB Try.prog E cx n10_80 st) (codeB Try.prog E cx n10_81) := GE.seq_step (by kernel_rfl)
theorem n10_77s (E : Ev) (cx : Cx) (st : St) : codeB Try.prog E cx n10_77 st = thenS (codeB Try.prog E cx n10_78 st) (codeB Try.prog E cx n10_79) := GE.seq_step (by kernel_rfl)
theorem n10_76s (E : Ev) (cx : Cx) (st : St) : codeB Try.prog E cx n10_76 st = blockS 3 (codeB Try.prog E cx n10_77 st) st := GE.block_step (by kernel_rfl)
theorem n10_96s (E : Ev) (f : FuncId) (b : Nat) (ro : Option Nat) (st : St) : codeB Try.prog E ⟨f, 176, b, ro⟩ n10_96 st = plainS (runOps Try.prog E b q10_96 (ops [true, true, true, true, true, true, true, true, true, false, true, false, false, true, true, false, false, true, true, true, true, false, false, true, true] Try.f10) st) := GE.region_step (id := 22) (by kernel_rfl) (by kernel_rfl)
theorem n10_75s (E : Ev) (cx : Cx) (st : St) : codeB Try.prog E cx n10_75 st = thenS (codeB Try.prog E cx n10_76 st) (codeB Try.prog E cx n10_96) := GE.seq_step (by kernel_rfl)
theorem n10_69s (E : Ev) (cx : Cx) (st : St) : codeB Try.prog E cx n10_69 st = thenS (codeB Try.prog E cx n10_70 st) (codeB Try.prog E cx n10_75) := GE.seq_step (by kernel_rfl)
theorem n10_68s (E : Ev) (cx : Cx) (st : St) : codeB Try.prog E cx n10_68 st = loopS (fun st' => E.code cx n10_68 st') cx.base (codeB Try.prog E cx n10_69 st) st := GE.loop_step (by kernel_rfl)
theorem n10_67s (E : Ev) (cx : Cx) (st : St) : codeB Try.prog E cx n10_67 st = blockS 2 (codeB Try.prog E cx n10_68 st) st := GE.block_step (by kernel_rfl)
theorem n10_65s (E : Ev) (cx : Cx) (st : St) : codeB Try.prog E cx n10_65 st = thenS (codeB Try.prog E cx n10_66 st) (codeB Try.prog E cx n10_67) := GE.seq_step (by kernel_rfl)
theorem n10_59s (E : Ev) (cx : Cx) (st : St) : codeB Try.prog E cx n10_59 st = thenS (codeB Try.prog E cx n10_60 st) (codeB Try.prog E cx n10_65) := GE.seq_step (by kernel_rfl)
theorem n10_57s (E : Ev) (cx : Cx) (st : St) : codeB Try.prog E cx n10_57 st = thenS (codeB Try.prog E cx n10_58 st) (codeB Try.prog E cx n10_59) := GE.seq_step (by kernel_rfl)
theorem n10_55s (E : Ev) (cx : Cx) (st : St) : codeB Try.prog E cx n10_55 st = thenS (codeB Try.prog E cx n10_56 st) (codeB Try.prog E cx n10_57) := GE.seq_step (by kernel_rfl)
theorem n10_54s (E : Ev) (cx : Cx) (st : St) : codeB Try.prog E cx n10_54 st = blockS 1 (codeB Try.prog E cx n10_55 st) st := GE.block_step (by kernel_rfl)
theorem n10_97s (E : Ev) (f : FuncId) (b : Nat) (ro : Option Nat) (st : St) : codeB Try.prog E ⟨f, 176, b, ro⟩ n10_97 st = plainS (runOps Try.prog E b q10_97 (ops [true, true, true, true, true, true, true, true, true, false, true, false, false, true, true, true] Try.f10) st) := GE.region_step (id := 30) (by kernel_rfl) (by kernel_rfl)
theorem n10_53s (E : Ev) (cx : Cx) (st : St) : codeB Try.prog E cx n10_53 st = thenS (codeB Try.prog E cx n10_54 st) (codeB Try.prog E cx n10_97) := GE.seq_step (by kernel_rfl)
theorem n10_49s (E : Ev) (cx : Cx) (st : St) : codeB Try.prog E cx n10_49 st = thenS (codeB Try.prog E cx n10_50 st) (codeB Try.prog E cx n10_53) := GE.seq_step (by kernel_rfl)
theorem n10_47s (E : Ev) (cx : Cx) (st : St) : codeB Try.prog E cx n10_47 st = thenS (codeB Try.prog E cx n10_48 st) (codeB Try.prog E cx n10_49) := GE.seq_step (by kernel_rfl)
theorem n10_46s (E : Ev) (cx : Cx) (st : St) : codeB Try.prog E cx n10_46 st = loopS (fun st' => E.code cx n10_46 st') cx.base (codeB Try.prog E cx n10_47 st) st := GE.loop_step (by kernel_rfl)
theorem n10_45s (E : Ev) (cx : Cx) (st : St) : codeB Try.prog E cx n10_45 st = blockS 0 (codeB Try.prog E cx n10_46 st) st := GE.block_step (by kernel_rfl)
theorem n10_43s (E : Ev) (cx : Cx) (st : St) : codeB Try.prog E cx n10_43 st = thenS (codeB Try.prog E cx n10_44 st) (codeB Try.prog E cx n10_45) := GE.seq_step (by kernel_rfl)
theorem q10_99g2 : gd q10_99 2 = some 170 := by kernel_rfl
theorem q10_99g5 : gd q10_99 5 = some 173 := by kernel_rfl
theorem n10_99s (E : Ev) (f : FuncId) (b : Nat) (ro : Option Nat) (st : St) : codeB Try.prog E ⟨f, 176, b, ro⟩ n10_99 st = plainS (runOps Try.prog E b q10_99 (ops [true, true, true, true, true, true, true, true, true, true, false] Try.f10) st) := GE.region_step (id := 31) (by kernel_rfl) (by kernel_rfl)
theorem n10_100s (E : Ev) (cx : Cx) (st : St) : codeB Try.prog E cx n10_100 st = some (.ret, st) := GE.ret_step (by kernel_rfl)
theorem n10_98s (E : Ev) (cx : Cx) (st : St) : codeB Try.prog E cx n10_98 st = thenS (codeB Try.prog E cx n10_99 st) (codeB Try.prog E cx n10_100) := GE.seq_step (by kernel_rfl)
theorem n10_42s (E : Ev) (cx : Cx) (st : St) : codeB Try.prog E cx n10_42 st = thenS (codeB Try.prog E cx n10_43 st) (codeB Try.prog E cx n10_98) := GE.seq_step (by kernel_rfl)
theorem n10_40s (E : Ev) (cx : Cx) (st : St) : codeB Try.prog E cx n10_40 st = thenS (codeB Try.prog E cx n10_41 st) (codeB Try.prog E cx n10_42) := GE.seq_step (by kernel_rfl)
theorem n10_32s (E : Ev) (cx : Cx) (st : St) : codeB Try.prog E cx n10_32 st = thenS (codeB Try.prog E cx n10_33 st) (codeB Try.prog E cx n10_40) := GE.seq_step (by kernel_rfl)
theorem n10_30s (E : Ev) (cx : Cx) (st : St) : codeB Try.prog E cx n10_30 st = thenS (codeB Try.prog E cx n10_31 st) (codeB Try.prog E cx n10_32) := GE.seq_step (by kernel_rfl)
theorem n10_16s (E : Ev) (cx : Cx) (st : St) : codeB Try.prog E cx n10_16 st = thenS (codeB Try.prog E cx n10_17 st) (codeB Try.prog E cx n10_30) := GE.seq_step (by kernel_rfl)
theorem n10_8s (E : Ev) (cx : Cx) (st : St) : codeB Try.prog E cx n10_8 st = thenS (codeB Try.prog E cx n10_9 st) (codeB Try.prog E cx n10_16) := GE.seq_step (by kernel_rfl)
theorem n10_6s (E : Ev) (cx : Cx) (st : St) : codeB Try.prog E cx n10_6 st = thenS (codeB Try.prog E cx n10_7 st) (codeB Try.prog E cx n10_8) := GE.seq_step (by kernel_rfl)
theorem n10_4s (E : Ev) (cx : Cx) (st : St) : codeB Try.prog E cx n10_4 st = thenS (codeB Try.prog E cx n10_5 st) (codeB Try.prog E cx n10_6) := GE.seq_step (by kernel_rfl)
theorem n10_2s (E : Ev) (cx : Cx) (st : St) : codeB Try.prog E cx n10_2 st = thenS (codeB Try.prog E cx n10_3 st) (codeB Try.prog E cx n10_4) := GE.seq_step (by kernel_rfl)
theorem n10_0s (E : Ev) (cx : Cx) (st : St) : codeB Try.prog E cx n10_0 st = thenS (codeB Try.prog E cx n10_1 st) (codeB Try.prog E cx n10_2) := GE.seq_step (by kernel_rfl)
theorem cv_5_3 : convK Try.prog 5 3 = some .i64 := by kernel_rfl
theorem es_69 : elemK Try.prog 69 = some (none, 1) := by kernel_rfl
theorem ze_69 : zeroE Try.prog 69 = some (.bool false) := by kernel_rfl
theorem ba_69_2 : baseArr (Value.cells (.bool false)) (2 * 1) = #[(.bool false), (.bool false)] := by kernel_rfl
theorem lk_69 : lenK Try.prog 69 = some .sl := by kernel_rfl
theorem fa_47_0 : fieldAt Try.prog 47 0 = some (0, 1) := by kernel_rfl
theorem fa_47_1 : fieldAt Try.prog 47 1 = some (1, 1) := by kernel_rfl

end Go.Proofs.Ytgpcjdhlijompaa.ore
