/-
  Names for the nodes of the code of some functions (projections of their bodies), the step of each node, and the facts of types that they use.
-/
import Derived.Test.YtgpcjdhlijompaaRows
import Derived.Test.YtgpcjdhlijompaaE29
namespace Go.Proofs.Ytgpcjdhlijompaa.ore
open Go.GE
set_option maxRecDepth 100000
noncomputable def n36_0 : Code := sub [] (bodyOf Try.f36)
noncomputable def n36_1 : Code := sub [false] (bodyOf Try.f36)
noncomputable def q36_1 : List Oper := ops [false] Try.f36
noncomputable def n36_2 : Code := sub [true] (bodyOf Try.f36)
noncomputable def n36_3 : Code := sub [true, false] (bodyOf Try.f36)
noncomputable def q36_3 : List Oper := ops [true, false] Try.f36
noncomputable def n36_4 : Code := sub [true, true] (bodyOf Try.f36)
theorem body36 : Try.f36.body = some n36_0 := by kernel_rfl
theorem run36 (E : Ev) (args : List Value) (h : List Blk) (hl : args.length ≤ 15) : runB Try.prog E 36 args h = endS Try.prog [.tmp 6] h.length (codeB Try.prog E ⟨36, 15, h.length, none⟩ n36_0 ⟨enumT 0 args, h, []⟩) := GE.run_step Try.func36 body36 (by kernel_rfl) (by decide) (by kernel_rfl) hl
theorem n36_1s (E : Ev) (f : FuncId) (b : Nat) (ro : Option Nat) (st : St) : codeB Try.prog E ⟨f, 15, b, ro⟩ n36_1 st = plainS (runOps Try.prog E b q36_1 (ops [false] Try.f36) st) := GE.region_step (id := 0) (by kernel_rfl) (by kernel_rfl)
theorem q36_3g3 : gd q36_3 3 = some 10 := by kernel_rfl
theorem n36_3s (E : Ev) (f : FuncId) (b : Nat) (ro : Option Nat) (st : St) : codeB Try.prog E ⟨f, 15, b, ro⟩ n36_3 st = plainS (runOps Try.prog E b q36_3 (ops [true, false] Try.f36) st) := GE.region_step (id := 1) (by kernel_rfl) (by kernel_rfl)
theorem n36_4s (E : Ev) (cx : Cx) (st : St) : codeB Try.prog E cx n36_4 st = some (.ret, st) := GE.ret_step (by kernel_rfl)
theorem n36_2s (E : Ev) (cx : Cx) (st : St) : codeB Try.prog E cx n36_2 st = thenS (codeB Try.prog E cx n36_3 st) (codeB Try.prog E cx n36_4) := GE.seq_step (by kernel_rfl)
theorem n36_0s (E : Ev) (cx : Cx) (st : St) : codeB Try.prog E cx n36_0 st = thenS (codeB Try.prog E cx n36_1 st) (codeB Try.prog E cx n36_2) := GE.seq_step (by kernel_rfl)
noncomputable def n37_0 : Code := sub [] (bodyOf Try.f37)
noncomputable def n37_1 : Code := sub [false] (bodyOf Try.f37)
noncomputable def q37_1 : List Oper := ops [false] Try.f37
noncomputable def n37_2 : Code := sub [true] (bodyOf Try.f37)
noncomputable def n37_3 : Code := sub [true, false] (bodyOf Try.f37)
noncomputable def q37_3 : List Oper := ops [true, false] Try.f37
noncomputable def n37_4 : Code := sub [true, true] (bodyOf Try.f37)
theorem body37 : Try.f37.body = some n37_0 := by kernel_rfl
theorem run37 (E : Ev) (args : List Value) (h : List Blk) (hl : args.length ≤ 12) : runB Try.prog E 37 args h = endS Try.prog [.tmp 4] h.length (codeB Try.prog E ⟨37, 12, h.length, none⟩ n37_0 ⟨enumT 0 args, h, []⟩) := GE.run_step Try.func37 body37 (by kernel_rfl) (by decide) (by kernel_rfl) hl
theorem n37_1s (E : Ev) (f : FuncId) (b : Nat) (ro : Option Nat) (st : St) : codeB Try.prog E ⟨f, 12, b, ro⟩ n37_1 st = plainS (runOps Try.prog E b q37_1 (ops [false] Try.f37) st) := GE.region_step (id := 0) (by kernel_rfl) (by kernel_rfl)
theorem n37_3s (E : Ev) (f : FuncId) (b : Nat) (ro : Option Nat) (st : St) : codeB Try.prog E ⟨f, 12, b, ro⟩ n37_3 st = plainS (runOps Try.prog E b q37_3 (ops [true, false] Try.f37) st) := GE.region_step (id := 1) (by kernel_rfl) (by kernel_rfl)
theorem n37_4s (E : Ev) (cx : Cx) (st : St) : codeB Try.prog E cx n37_4 st = some (.ret, st) := GE.ret_step (by kernel_rfl)
theorem n37_2s (E : Ev) (cx : Cx) (st : St) : codeB Try.prog E cx n37_2 st = thenS (codeB Try.prog E cx n37_3 st) (codeB Try.prog E cx n37_4) := GE.seq_step (by kernel_rfl)
theorem n37_0s (E : Ev) (cx : Cx) (st : St) : codeB Try.prog E cx n37_0 st = thenS (codeB Try.prog E cx n37_1 st) (codeB Try.prog E cx n37_2) := GE.seq_step (by kernel_rfl)
noncomputable def n40_0 : Code := sub [] (bodyOf Try.f40)
noncomputable def n40_1 : Code := sub [false] (bodyOf Try.f40)
noncomputable def q40_1 : List Oper := ops [false] Try.f40
noncomputable def n40_2 : Code := sub [true] (bodyOf Try.f40)
noncomputable def n40_3 : Code := sub [true, false] (bodyOf Try.f40)
noncomputable def q40_3 : List Oper := ops [true, false] Try.f40
noncomputable def n40_4 : Code := sub [true, true] (bodyOf Try.f40)
theorem body40 : Try.f40.body = some n40_0 := by kernel_rfl
theorem run40 (E : Ev) (args : List Value) (h : List Blk) (hl : args.length ≤ 14) : runB Try.prog E 40 args h = endS Try.prog [.tmp 4] h.length (codeB Try.prog E ⟨40, 14, h.length, none⟩ n40_0 ⟨enumT 0 args, h, []⟩) := GE.run_step Try.func40 body40 (by kernel_rfl) (by decide) (by kernel_rfl) hl
theorem n40_1s (E : Ev) (f : FuncId) (b : Nat) (ro : Option Nat) (st : St) : codeB Try.prog E ⟨f, 14, b, ro⟩ n40_1 st = plainS (runOps Try.prog E b q40_1 (ops [false] Try.f40) st) := GE.region_step (id := 0) (by kernel_rfl) (by kernel_rfl)
theorem n40_3s (E : Ev) (f : FuncId) (b : Nat) (ro : Option Nat) (st : St) : codeB Try.prog E ⟨f, 14, b, ro⟩ n40_3 st = plainS (runOps Try.prog E b q40_3 (ops [true, false] Try.f40) st) := GE.region_step (id := 1) (by kernel_rfl) (by kernel_rfl)
theorem n40_4s (E : Ev) (cx : Cx) (st : St) : codeB Try.prog E cx n40_4 st = some (.ret, st) := GE.ret_step (by kernel_rfl)
theorem n40_2s (E : Ev) (cx : Cx) (st : St) : codeB Try.prog E cx n40_2 st = thenS (codeB Try.prog E cx n40_3 st) (codeB Try.prog E cx n40_4) := GE.seq_step (by kernel_rfl)
theorem n40_0s (E : Ev) (cx : Cx) (st : St) : codeB Try.prog E cx n40_0 st = thenS (codeB Try.prog E cx n40_1 st) (codeB Try.prog E cx n40_2) := GE.seq_step (by kernel_rfl)
noncomputable def n41_0 : Code := sub [] (bodyOf Try.f41)
noncomputable def n41_1 : Code := sub [false] (bodyOf Try.f41)
noncomputable def q41_1 : List Oper := ops [false] Try.f41
noncomputable def n41_2 : Code := sub [true] (bodyOf Try.f41)
noncomputable def n41_3 : Code := sub [true, false] (bodyOf Try.f41)
noncomputable def q41_3 : List Oper := ops [true, false] Try.f41
noncomputable def n41_4 : Code := sub [true, true] (bodyOf Try.f41)
theorem body41 : Try.f41.body = some n41_0 := by kernel_rfl
theorem run41 (E : Ev) (args : List Value) (h : List Blk) (hl : args.length ≤ 17) : runB Try.prog E 41 args h = endS Try.prog [.tmp 6] h.length (codeB Try.prog E ⟨41, 17, h.length, none⟩ n41_0 ⟨enumT 0 args, h, []⟩) := GE.run_step Try.func41 body41 (by kernel_rfl) (by decide) (by kernel_rfl) hl
theorem n41_1s (E : Ev) (f : FuncId) (b : Nat) (ro : Option Nat) (st : St) : codeB Try.prog E ⟨f, 17, b, ro⟩ n41_1 st = plainS (runOps Try.prog E b q41_1 (ops [false] Try.f41) st) := GE.region_step (id := 0) (by kernel_rfl) (by kernel_rfl)
theorem n41_3s (E : Ev) (f : FuncId) (b : Nat) (ro : Option Nat) (st : St) : codeB Try.prog E ⟨f, 17, b, ro⟩ n41_3 st = plainS (runOps Try.prog E b q41_3 (ops [true, false] Try.f41) st) := GE.region_step (id := 1) (by kernel_rfl) (by kernel_rfl)
theorem n41_4s (E : Ev) (cx : Cx) (st : St) : codeB Try.prog E cx n41_4 st = some (.ret, st) := GE.ret_step (by kernel_rfl)
theorem n41_2s (E : Ev) (cx : Cx) (st : St) : codeB Try.prog E cx n41_2 st = thenS (codeB Try.prog E cx n41_3 st) (codeB Try.prog E cx n41_4) := GE.seq_step (by kernel_rfl)
theorem n41_0s (E : Ev) (cx : Cx) (st : St) : codeB Try.prog E cx n41_0 st = thenS (codeB Try.prog E cx n41_1 st) (codeB Try.prog E cx n41_2) := GE.seq_step (by kernel_rfl)
noncomputable def n17_0 : Code := sub [] (bodyOf Try.f17)
noncomputable def n17_1 : Code := sub [false] (bodyOf Try.f17)
noncomputable def q17_1 : List Oper := ops [false] Try.f17
noncomputable def n17_2 : Code := sub [true] (bodyOf Try.f17)
noncomputable def n17_3 : Code := sub [true, false] (bodyOf Try.f17)
noncomputable def n17_4 : Code := sub [true, false, false] (bodyOf Try.f17)
noncomputable def n17_5 : Code := sub [true, false, false, false] (bodyOf Try.f17)
noncomputable def q17_5 : List Oper := ops [true, false, false, false] Try.f17
noncomputable def n17_6 : Code := sub [true, false, false, true] (bodyOf Try.f17)
noncomputable def n17_7 : Code := sub [true, false, false, true, false] (bodyOf Try.f17)
noncomputable def n17_8 : Code := sub [true, false, false, true, false, false] (bodyOf Try.f17)
noncomputable def q17_8 : List Oper := ops [true, false, false, true, false, false] Try.f17
noncomputable def n17_9 : Code := sub [true, false, false, true, false, true] (bodyOf Try.f17)
noncomputable def n17_10 : Code := sub [true, false, false, true, true] (bodyOf Try.f17)
noncomputable def n17_11 : Code := sub [true, false, false, true, true, false] (bodyOf Try.f17)
noncomputable def q17_11 : List Oper := ops [true, false, false, true, true, false] Try.f17
noncomputable def n17_12 : Code := sub [true, false, false, true, true, true] (bodyOf Try.f17)
noncomputable def n17_13 : Code := sub [true, false, false, true, true, true, false] (bodyOf Try.f17)
noncomputable def n17_14 : Code := sub [true, false, false, true, true, true, false, false] (bodyOf Try.f17)
noncomputable def q17_14 : List Oper := ops [true, false, false, true, true, true, false, false] Try.f17
noncomputable def n17_15 : Code := sub [true, false, false, true, true, true, false, true] (bodyOf Try.f17)
noncomputable def n17_16 : Code := sub [true, false, false, true, true, true, true] (bodyOf Try.f17)
noncomputable def n17_17 : Code := sub [true, true] (bodyOf Try.f17)
noncomputable def n17_18 : Code := sub [true, true, false] (bodyOf Try.f17)
noncomputable def n17_19 : Code := sub [true, true, false, false] (bodyOf Try.f17)
noncomputable def q17_19 : List Oper := ops [true, true, false, false] Try.f17
noncomputable def n17_20 : Code := sub [true, true, false, true] (bodyOf Try.f17)
noncomputable def n17_21 : Code := sub [true, true, false, true, false] (bodyOf Try.f17)
noncomputable def n17_22 : Code := sub [true, true, false, true, false, false] (bodyOf Try.f17)
noncomputable def n17_23 : Code := sub [true, true, false, true, false, false, false] (bodyOf Try.f17)
noncomputable def q17_23 : List Oper := ops [true, true, false, true, false, false, false] Try.f17
noncomputable def n17_24 : Code := sub [true, true, false, true, false, false, true] (bodyOf Try.f17)
noncomputable def n17_25 : Code := sub [true, true, false, true, false, false, true, false] (bodyOf Try.f17)
noncomputable def n17_26 : Code := sub [true, true, false, true, false, false, true, false, false] (bodyOf Try.f17)
noncomputable def n17_27 : Code := sub [true, true, false, true, false, false, true, false, true] (bodyOf Try.f17)
noncomputable def n17_28 : Code := sub [true, true, false, true, false, false, true, true] (bodyOf Try.f17)
noncomputable def n17_29 : Code := sub [true, true, false, true, false, false, true, true, false] (bodyOf Try.f17)
noncomputable def n17_30 : Code := sub [true, true, false, true, false, false, true, true, false, false] (bodyOf Try.f17)
noncomputable def n17_31 : Code := sub [true, true, false, true, false, false, true, true, false, false, false] (bodyOf Try.f17)
noncomputable def q17_31 : List Oper := ops [true, true, false, true, false, false, true, true, false, false, false] Try.f17
noncomputable def n17_32 : Code := sub [true, true, false, true, false, false, true, true, false, false, true] (bodyOf Try.f17)
noncomputable def n17_33 : Code := sub [true, true, false, true, false, false, true, true, false, false, true, false] (bodyOf Try.f17)
noncomputable def q17_33 : List Oper := ops [true, true, false, true, false, false, true, true, false, false, true, false] Try.f17
noncomputable def n17_34 : Code := sub [true, true, false, true, false, false, true, true, false, false, true, true] (bodyOf Try.f17)
noncomputable def n17_35 : Code := sub [true, true, false, true, false, false, true, true, false, false, true, true, false] (bodyOf Try.f17)
noncomputable def n17_36 : Code := sub [true, true, false, true, false, false, true, true, false, false, true, true, false, false] (bodyOf Try.f17)
noncomputable def q17_36 : List Oper := ops [true, true, false, true, false, false, true, true, false, false, true, true, false, false] Try.f17
noncomputable def n17_37 : Code := sub [true, true, false, true, false, false, true, true, false, false, true, true, false, true] (bodyOf Try.f17)
noncomputable def n17_38 : Code := sub [true, true, false, true, false, false, true, true, false, false, true, true, true] (bodyOf Try.f17)
noncomputable def n17_39 : Code := sub [true, true, false, true, false, false, true, true, true] (bodyOf Try.f17)
noncomputable def q17_39 : List Oper := ops [true, true, false, true, false, false, true, true, true] Try.f17
noncomputable def n17_40 : Code := sub [true, true, true] (bodyOf Try.f17)
noncomputable def n17_41 : Code := sub [true, true, true, false] (bodyOf Try.f17)
noncomputable def n17_42 : Code := sub [true, true, true, false, false] (bodyOf Try.f17)
noncomputable def q17_42 : List Oper := ops [true, true, true, false, false] Try.f17
noncomputable def n17_43 : Code := sub [true, true, true, false, true] (bodyOf Try.f17)
noncomputable def n17_44 : Code := sub [true, true, true, false, true, false] (bodyOf Try.f17)
noncomputable def n17_45 : Code := sub [true, true, true, false, true, false, false] (bodyOf Try.f17)
noncomputable def n17_46 : Code := sub [true, true, true, false, true, false, false, false] (bodyOf Try.f17)
noncomputable def q17_46 : List Oper := ops [true, true, true, false, true, false, false, false] Try.f17
noncomputable def n17_47 : Code := sub [true, true, true, false, true, false, false, true] (bodyOf Try.f17)
noncomputable def n17_48 : Code := sub [true, true, true, false, true, false, false, true, false] (bodyOf Try.f17)
noncomputable def n17_49 : Code := sub [true, true, true, false, true, false, false, true, false, false] (bodyOf Try.f17)
noncomputable def n17_50 : Code := sub [true, true, true, false, true, false, false, true, false, true] (bodyOf Try.f17)
noncomputable def n17_51 : Code := sub [true, true, true, false, true, false, false, true, true] (bodyOf Try.f17)
noncomputable def n17_52 : Code := sub [true, true, true, false, true, false, false, true, true, false] (bodyOf Try.f17)
noncomputable def n17_53 : Code := sub [true, true, true, false, true, false, false, true, true, false, false] (bodyOf Try.f17)
noncomputable def n17_54 : Code := sub [true, true, true, false, true, false, false, true, true, false, false, false] (bodyOf Try.f17)
noncomputable def q17_54 : List Oper := ops [true, true, true, false, true, false, false, true, true, false, false, false] Try.f17
noncomputable def n17_55 : Code := sub [true, true, true, false, true, false, false, true, true, false, false, true] (bodyOf Try.f17)
noncomputable def n17_56 : Code := sub [true, true, true, false, true, false, false, true, true, false, false, true, false] (bodyOf Try.f17)
noncomputable def q17_56 : List Oper := ops [true, true, true, false, true, false, false, true, true, false, false, true, false] Try.f17
noncomputable def n17_57 : Code := sub [true, true, true, false, true, false, false, true, true, false, false, true, true] (bodyOf Try.f17)
noncomputable def n17_58 : Code := sub [true, true, true, false, true, false, false, true, true, false, false, true, true, false] (bodyOf Try.f17)
noncomputable def q17_58 : List Oper := ops [true, true, true, false, true, false, false, true, true, false, false, true, true, false] Try.f17
noncomputable def n17_59 : Code := sub [true, true, true, false, true, false, false, true, true, false, false, true, true, true] (bodyOf Try.f17)
noncomputable def n17_60 : Code := sub [true, true, true, false, true, false, false, true, true, false, false, true, true, true, false] (bodyOf Try.f17)
noncomputable def n17_61 : Code := sub [true, true, true, false, true, false, false, true, true, false, false, true, true, true, false, false] (bodyOf Try.f17)
noncomputable def q17_61 : List Oper := ops [true, true, true, false, true, false, false, true, true, false, false, true, true, true, false, false] Try.f17
noncomputable def n17_62 : Code := sub [true, true, true, false, true, false, false, true, true, false, false, true, true, true, false, true] (bodyOf Try.f17)
noncomputable def n17_63 : Code := sub [true, true, true, false, true, false, false, true, true, false, false, true, true, true, true] (bodyOf Try.f17)
noncomputable def n17_64 : Code := sub [true, true, true, false, true, false, false, true, true, true] (bodyOf Try.f17)
noncomputable def q17_64 : List Oper := ops [true, true, true, false, true, false, false, true, true, true] Try.f17
noncomputable def n17_65 : Code := sub [true, true, true, true] (bodyOf Try.f17)
noncomputable def n17_66 : Code := sub [true, true, true, true, false] (bodyOf Try.f17)
noncomputable def q17_66 : List Oper := ops [true, true, true, true, false] Try.f17
noncomputable def n17_67 : Code := sub [true, true, true, true, true] (bodyOf Try.f17)
theorem body17 : Try.f17.body = some n17_0 := by kernel_rfl
theorem run17 (E : Ev) (args : List Value) (h : List Blk) (hl : args.length ≤ 94) : runB Try.prog E 17 args h = endS Try.prog [.tmp 2] h.length (codeB Try.prog E ⟨17, 94, h.length, none⟩ n17_0 ⟨enumT 0 args, h, []⟩) := GE.run_step Try.func17 body17 (by kernel_rfl) (by decide) (by kernel_rfl) hl
theorem n17_1s (E : Ev) (f : FuncId) (b : Nat) (ro : Option Nat) (st : St) : codeB Try.prog E ⟨f, 94, b, ro⟩ n17_1 st = plainS (runOps Try.prog E b q17_1 (ops [false] Try.f17) st) := GE.region_step (id := 0) (by kernel_rfl) (by kernel_rfl)
theorem q17_5g4 : gd q17_5 4 = some 14 := by kernel_rfl
theorem q17_5g10 : gd q17_5 10 = some 20 := by kernel_rfl
theorem n17_5s (E : Ev) (f : FuncId) (b : Nat) (ro : Option Nat) (st : St) : codeB Try.prog E ⟨f, 94, b, ro⟩ n17_5 st = plainS (runOps Try.prog E b q17_5 (ops [true, false, false, false] Try.f17) st) := GE.region_step (id := 1) (by kernel_rfl) (by kernel_rfl)
theorem n17_8s (E : Ev) (f : FuncId) (b : Nat) (ro : Option Nat) (st : St) : codeB Try.prog E ⟨f, 94, b, ro⟩ n17_8 st = plainS (runOps Try.prog E b q17_8 (ops [true, false, false, true, false, false] Try.f17) st) := GE.region_step (id := 2) (by kernel_rfl) (by kernel_rfl)
theorem n17_9s (E : Ev) (cx : Cx) (st : St) : codeB Try.prog E cx n17_9 st = some (.ret, st) := GE.ret_step (by kernel_rfl)
theorem n17_7s (E : Ev) (cx : Cx) (st : St) : codeB Try.prog E cx n17_7 st = thenS (codeB Try.prog E cx n17_8 st) (codeB Try.prog E cx n17_9) := GE.seq_step (by kernel_rfl)
theorem n17_11s (E : Ev) (f : FuncId) (b : Nat) (ro : Option Nat) (st : St) : codeB Try.prog E ⟨f, 94, b, ro⟩ n17_11 st = plainS (runOps Try.prog E b q17_11 (ops [true, false, false, true, true, false] Try.f17) st) := GE.region_step (id := 3) (by kernel_rfl) (by kernel_rfl)
theorem n17_14s (E : Ev) (f : FuncId) (b : Nat) (ro : Option Nat) (st : St) : codeB Try.prog E ⟨f, 94, b, ro⟩ n17_14 st = plainS (runOps Try.prog E b q17_14 (ops [true, false, false, true, true, true, false, false] Try.f17) st) := GE.region_step (id := 4) (by kernel_rfl) (by kernel_rfl)
theorem n17_15s (E : Ev) (cx : Cx) (st : St) : codeB Try.prog E cx n17_15 st = some (.ret, st) := GE.ret_step (by kernel_rfl)
theorem n17_13s (E : Ev) (cx : Cx) (st : St) : codeB Try.prog E cx n17_13 st = thenS (codeB Try.prog E cx n17_14 st) (codeB Try.prog E cx n17_15) := GE.seq_step (by kernel_rfl)
theorem n17_16s (E : Ev) (cx : Cx) (st : St) : codeB Try.prog E cx n17_16 st = some (.normal, st) := GE.skip_step (by kernel_rfl)
theorem n17_12s (E : Ev) (cx : Cx) (st : St) : codeB Try.prog E cx n17_12 st = condS (codeB Try.prog E cx n17_13) (codeB Try.prog E cx n17_16) (lk st.σ 26) st := GE.cond_step (c := .tmp 26) (by kernel_rfl)
theorem n17_10s (E : Ev) (cx : Cx) (st : St) : codeB Try.prog E cx n17_10 st = thenS (codeB Try.prog E cx n17_11 st) (codeB Try.prog E cx n17_12) := GE.seq_step (by kernel_rfl)
theorem n17_6s (E : Ev) (cx : Cx) (st : St) : codeB Try.prog E cx n17_6 st = condS (codeB Try.prog E cx n17_7) (codeB Try.prog E cx n17_10) (lk st.σ 9) st := GE.cond_step (c := .tmp 9) (by kernel_rfl)
theorem n17_4s (E : Ev) (cx : Cx) (st : St) : codeB Try.prog E cx n17_4 st = thenS (codeB Try.prog E cx n17_5 st) (codeB Try.prog E cx n17_6) := GE.seq_step (by kernel_rfl)
theorem n17_3s (E : Ev) (cx : Cx) (st : St) : codeB Try.prog E cx n17_3 st = blockS 0 (codeB Try.prog E cx n17_4 st) st := GE.block_step (by kernel_rfl)
theorem n17_19s (E : Ev) (f : FuncId) (b : Nat) (ro : Option Nat) (st : St) : codeB Try.prog E ⟨f, 94, b, ro⟩ n17_19 st = plainS (runOps Try.prog E b q17_19 (ops [true, true, false, false] Try.f17) st) := GE.region_step (id := 5) (by kernel_rfl) (by kernel_rfl)
theorem n17_23s (E : Ev) (f : FuncId) (b : Nat) (ro : Option Nat) (st : St) : codeB Try.prog E ⟨f, 94, b, ro⟩ n17_23 st = plainS (runOps Try.prog E b q17_23 (ops [true, true, false, true, false, false, false] Try.f17) st) := GE.region_step (id := 6) (by kernel_rfl) (by kernel_rfl)
theorem n17_26s (E : Ev) (cx : Cx) (st : St) : codeB Try.prog E cx n17_26 st = some (.normal, st) := GE.skip_step (by kernel_rfl)
theorem n17_27s (E : Ev) (cx : Cx) (st : St) : codeB Try.prog E cx n17_27 st = some (.exit 1, st) := GE.exit_step (by kernel_rfl)
theorem n17_25s (E : Ev) (cx : Cx) (st : St) : codeB Try.prog E cx n17_25 st = condS (codeB Try.prog E cx n17_26) (codeB Try.prog E cx n17_27) (lk st.σ 40) st := GE.cond_step (c := .tmp 40) (by kernel_rfl)
theorem n17_31s (E : Ev) (f : FuncId) (b : Nat) (ro : Option Nat) (st : St) : codeB Try.prog E ⟨f, 94, b, ro⟩ n17_31 st = plainS (runOps Try.prog E b q17_31 (ops [true, true, false, true, false, false, true, true, false, false, false] Try.f17) st) := GE.region_step (id := 7) (by kernel_rfl) (by kernel_rfl)
theorem n17_33s (E : Ev) (f : FuncId) (b : Nat) (ro : Option Nat) (st : St) : codeB Try.prog E ⟨f, 94, b, ro⟩ n17_33 st = plainS (runOps Try.prog E b q17_33 (ops [true, true, false, true, false, false, true, true, false, false, true, false] Try.f17) st) := GE.region_step (id := 8) (by kernel_rfl) (by kernel_rfl)
theorem n17_36s (E : Ev) (f : FuncId) (b : Nat) (ro : Option Nat) (st : St) : codeB Try.prog E ⟨f, 94, b, ro⟩ n17_36 st = plainS (runOps Try.prog E b q17_36 (ops [true, true, false, true, false, false, true, true, false, false, true, true, false, false] Try.f17) st) := GE.region_step (id := 9) (by kernel_rfl) (by kernel_rfl)
theorem n17_37s (E : Ev) (cx : Cx) (st : St) : codeB Try.prog E cx n17_37 st = some (.ret, st) := GE.ret_step (by kernel_rfl)
theorem n17_35s (E : Ev) (cx : Cx) (st : St) : codeB Try.prog E cx n17_35 st = thenS (codeB Try.prog E cx n17_36 st) (codeB Try.prog E cx n17_37) := GE.seq_step (by kernel_rfl)
theorem n17_38s (E : Ev) (cx : Cx) (st : St) : codeB Try.prog E cx n17_38 st = some (.normal, st) := GE.skip_step (by kernel_rfl)
theorem n17_34s (E : Ev) (cx : Cx) (st : St) : codeB Try.prog E cx n17_34 st = condS (codeB Try.prog E cx n17_35) (codeB Try.prog E cx n17_38) (lk st.σ 45) st := GE.cond_step (c := .tmp 45) (by kernel_rfl)
theorem n17_32s (E : Ev) (cx : Cx) (st : St) : codeB Try.prog E cx n17_32 st = thenS (codeB Try.prog E cx n17_33 st) (codeB Try.prog E cx n17_34) := GE.seq_step (by kernel_rfl)
theorem n17_30s (E : Ev) (cx : Cx) (st : St) : codeB Try.prog E cx n17_30 st = thenS (codeB Try.prog E cx n17_31 st) (codeB Try.prog E cx n17_32) := GE.seq_step (by kernel_rfl)
theorem n17_29s (E : Ev) (cx : Cx) (st : St) : codeB Try.prog E cx n17_29 st = blockS 2 (codeB Try.prog E cx n17_30 st) st := GE.block_step (by kernel_rfl)
theorem n17_39s (E : Ev) (f : FuncId) (b : Nat) (ro : Option Nat) (st : St) : codeB Try.prog E ⟨f, 94, b, ro⟩ n17_39 st = plainS (runOps Try.prog E b q17_39 (ops [true, true, false, true, false, false, true, true, true] Try.f17) st) := GE.region_step (id := 10) (by kernel_rfl) (by kernel_rfl)
theorem n17_28s (E : Ev) (cx : Cx) (st : St) : codeB Try.prog E cx n17_28 st = thenS (codeB Try.prog E cx n17_29 st) (codeB Try.prog E cx n17_39) := GE.seq_step (by kernel_rfl)
theorem n17_24s (E : Ev) (cx : Cx) (st : St) : codeB Try.prog E cx n17_24 st = thenS (codeB Try.prog E cx n17_25 st) (codeB Try.prog E cx n17_28) := GE.seq_step (by kernel_rfl)
theorem n17_22s (E : Ev) (cx : Cx) (st : St) : codeB Try.prog E cx n17_22 st = thenS (codeB Try.prog E cx n17_23 st) (codeB Try.prog E cx n17_24) := GE.seq_step (by kernel_rfl)
theorem n17_21s (E : Ev) (cx : Cx) (st : St) : codeB Try.prog E cx n17_21 st = loopS (fun st' => E.code cx n17_21 st') cx.base (codeB Try.prog E cx n17_22 st) st := GE.loop_step (by kernel_rfl)
theorem n17_20s (E : Ev) (cx : Cx) (st : St) : codeB Try.prog E cx n17_20 st = blockS 1 (codeB Try.prog E cx n17_21 st) st := GE.block_step (by kernel_rfl)
theorem n17_18s (E : Ev) (cx : Cx) (st : St) : codeB Try.prog E cx n17_18 st = thenS (codeB Try.prog E cx n17_19 st) (codeB Try.prog E cx n17_20) := GE.seq_step (by kernel_rfl)
theorem n17_42s (E : Ev) (f : FuncId) (b : Nat) (ro : Option Nat) (st : St) : codeB Try.prog E ⟨f, 94, b, ro⟩ n17_42 st = plainS (runOps Try.prog E b q17_42 (ops [true, true, true, false, false] Try.f17) st) := GE.region_step (id := 11) (by kernel_rfl) (by kernel_rfl)
theorem n17_46s (E : Ev) (f : FuncId) (b : Nat) (ro : Option Nat) (st : St) : codeB Try.prog E ⟨f, 94, b, ro⟩ n17_46 st = plainS (runOps Try.prog E b q17_46 (ops [true, true, true, false, true, false, false, false] Try.f17) st) := GE.region_step (id := 12) (by kernel_rfl) (by kernel_rfl)
theorem n17_49s (E : Ev) (cx : Cx) (st : St) : codeB Try.prog E cx n17_49 st = some (.normal, st) := GE.skip_step (by kernel_rfl)
theorem n17_50s (E : Ev) (cx : Cx) (st : St) : codeB Try.prog E cx n17_50 st = some (.exit 3, st) := GE.exit_step (by kernel_rfl)
theorem n17_48s (E : Ev) (cx : Cx) (st : St) : codeB Try.prog E cx n17_48 st = condS (codeB Try.prog E cx n17_49) (codeB Try.prog E cx n17_50) (lk st.σ 51) st := GE.cond_step (c := .tmp 51) (by kernel_rfl)
theorem n17_54s (E : Ev) (f : FuncId) (b : Nat) (ro : Option Nat) (st : St) : codeB Try.prog E ⟨f, 94, b, ro⟩ n17_54 st = plainS (runOps Try.prog E b q17_54 (ops [true, true, true, false, true, false, false, true, true, false, false, false] Try.f17) st) := GE.region_step (id := 13) (by kernel_rfl) (by kernel_rfl)
theorem n17_56s (E : Ev) (f : FuncId) (b : Nat) (ro : Option Nat) (st : St) : codeB Try.prog E ⟨f, 94, b, ro⟩ n17_56 st = drawS [0, 0, 2, 7, 0, 0, 32, 112, 15, 511] (runOpsF Try.prog E b q17_56 (ops [true, true, true, false, true, false, false, true, true, false, false, true, false] Try.f17) st) := GE.draw_step (id := 14) (by kernel_rfl) (by kernel_rfl) (by kernel_rfl) (by kernel_rfl)
theorem q17_58g2 : gd q17_58 2 = some 65 := by kernel_rfl
theorem q17_58g14 : gd q17_58 14 = some 77 := by kernel_rfl
theorem q17_58g17 : gd q17_58 17 = some 80 := by kernel_rfl
theorem n17_58s (E : Ev) (f : FuncId) (b : Nat) (ro : Option Nat) (st : St) : codeB Try.prog E ⟨f, 94, b, ro⟩ n17_58 st = drawS [0, 1, 3, 7, 7, 7, 7, 71, 7, 487, 1015, 2047, 4095, 8191, 16383, 32767, 65535, 131071, 262143, 262143, 262143, 262143, 262143, 4456447, 15990783, 33292287, 67108863, 134217727, 268435455, 536870911] (runOpsF Try.prog E b q17_58 (ops [true, true, true, false, true, false, false, true, true, false, false, true, true, false] Try.f17) st) := GE.draw_step (id := 15) (by kernel_rfl) (by kernel_rfl) (by kernel_rfl) (by kernel_rfl)
theorem n17_61s (E : Ev) (f : FuncId) (b : Nat) (ro : Option Nat) (st : St) : codeB Try.prog E ⟨f, 94, b, ro⟩ n17_61 st = plainS (runOps Try.prog E b q17_61 (ops [true, true, true, false, true, false, false, true, true, false, false, true, true, true, false, false] Try.f17) st) := GE.region_step (id := 16) (by kernel_rfl) (by kernel_rfl)
theorem n17_62s (E : Ev) (cx : Cx) (st : St) : codeB Try.prog E cx n17_62 st = some (.ret, st) := GE.ret_step (by kernel_rfl)
theorem n17_60s (E : Ev) (cx : Cx) (st : St) : codeB Try.prog E cx n17_60 st = thenS (codeB Try.prog E cx n17_61 st) (codeB Try.prog E cx n17_62) := GE.seq_step (by kernel_rfl)
theorem n17_63s (E : Ev) (cx : Cx) (st : St) : codeB Try.prog E cx n17_63 st = some (.normal, st) := GE.skip_step (by kernel_rfl)
theorem n17_59s (E : Ev) (cx : Cx) (st : St) : codeB Try.prog E cx n17_59 st = condS (codeB Try.prog E cx n17_60) (codeB Try.prog E cx n17_63) (lk st.σ 92) st := GE.cond_step (c := .tmp 92) (by kernel_rfl)
theorem n17_57s (E : Ev) (cx : Cx) (st : St) : codeB Try.prog E cx n17_57 st = thenS (codeB Try.prog E cx n17_58 st) (codeB Try.prog E cx n17_59) := GE.seq_step (by kernel_rfl)
theorem n17_55s (E : Ev) (cx : Cx) (st : St) : codeB Try.prog E cx n17_55 st = thenS (codeB Try.prog E cx n17_56 st) (codeB Try.prog E cx n17_57) := GE.seq_step (by kernel_rfl)
theorem n17_53s (E : Ev) (cx : Cx) (st : St) : codeB Try.prog E cx n17_53 st = thenS (codeB Try.prog E cx n17_54 st) (codeB Try.prog E cx n17_55) := GE.seq_step (by kernel_rfl)
theorem n17_52s (E : Ev) (cx : Cx) (st : St) : codeB Try.prog E cx n17_52 st = blockS 4 (codeB Try.prog E cx n17_53 st) st := GE.block_step (by kernel_rfl)
theorem n17_64s (E : Ev) (f : FuncId) (b : Nat) (ro : Option Nat) (st : St) : codeB Try.prog E ⟨f, 94, b, ro⟩ n17_64 st = plainS (runOps Try.prog E b q17_64 (ops [true, true, true, false, true, false, false, true, true, true] Try.f17) st) := GE.region_step (id := 17) (by kernel_rfl) (by kernel_rfl)
theorem n17_51s (E : Ev) (cx : Cx) (st : St) : codeB Try.prog E cx n17_51 st = thenS (codeB Try.prog E cx n17_52 st) (codeB Try.prog E cx n17_64) := GE.seq_step (by kernel_rfl)
theorem n17_47s (E : Ev) (cx : Cx) (st : St) : codeB Try.prog E cx n17_47 st = thenS (codeB Try.prog E cx n17_48 st) (codeB Try.prog E cx n17_51) := GE.seq_step (by kernel_rfl)
theorem n17_45s (E : Ev) (cx : Cx) (st : St) : codeB Try.prog E cx n17_45 st = thenS (codeB Try.prog E cx n17_46 st) (codeB Try.prog E cx n17_47) := GE.seq_step (by kernel_rfl)
theorem n17_44s (E : Ev) (cx : Cx) (st : St) : codeB Try.prog E cx n17_44 st = loopS (fun st' => E.code cx n17_44 st') cx.base (codeB Try.prog E cx n17_45 st) st := GE.loop_step (by kernel_rfl)
theorem n17_43s (E : Ev) (cx : Cx) (st : St) : codeB Try.prog E cx n17_43 st = blockS 3 (codeB Try.prog E cx n17_44 st) st := GE.block_step (by kernel_rfl)
theorem n17_41s (E : Ev) (cx : Cx) (st : St) : codeB Try.prog E cx n17_41 st = thenS (codeB Try.prog E cx n17_42 st) (codeB Try.prog E cx n17_43) := GE.seq_step (by kernel_rfl)
theorem n17_66s (E : Ev) (f : FuncId) (b : Nat) (ro : Option Nat) (st : St) : codeB Try.prog E ⟨f, 94, b, ro⟩ n17_66 st = plainS (runOps Try.prog E b q17_66 (ops [true, true, true, true, false] Try.f17) st) := GE.region_step (id := 18) (by kernel_rfl) (by kernel_rfl)
theorem n17_67s (E : Ev) (cx : Cx) (st : St) : codeB Try.prog E cx n17_67 st = some (.ret, st) := GE.ret_step (by kernel_rfl)
theorem n17_65s (E : Ev) (cx : Cx) (st : St) : codeB Try.prog E cx n17_65 st = thenS (codeB Try.prog E cx n17_66 st) (codeB Try.prog E cx n17_67) := GE.seq_step (by kernel_rfl)
theorem n17_40s (E : Ev) (cx : Cx) (st : St) : codeB Try.prog E cx n17_40 st = thenS (codeB Try.prog E cx n17_41 st) (codeB Try.prog E cx n17_65) := GE.seq_step (by kernel_rfl)
theorem n17_17s (E : Ev) (cx : Cx) (st : St) : codeB Try.prog E cx n17_17 st = thenS (codeB Try.prog E cx n17_18 st) (codeB Try.prog E cx n17_40) := GE.seq_step (by kernel_rfl)
theorem n17_2s (E : Ev) (cx : Cx) (st : St) : codeB Try.prog E cx n17_2 st = thenS (codeB Try.prog E cx n17_3 st) (codeB Try.prog E cx n17_17) := GE.seq_step (by kernel_rfl)
theorem n17_0s (E : Ev) (cx : Cx) (st : St) : codeB Try.prog E cx n17_0 st = thenS (codeB Try.prog E cx n17_1 st) (codeB Try.prog E cx n17_2) := GE.seq_step (by kernel_rfl)
noncomputable def n38_0 : Code := sub [] (bodyOf Try.f38)
noncomputable def n38_1 : Code := sub [false] (bodyOf Try.f38)
noncomputable def q38_1 : List Oper := ops [false] Try.f38
noncomputable def n38_2 : Code := sub [true] (bodyOf Try.f38)
noncomputable def n38_3 : Code := sub [true, false] (bodyOf Try.f38)
noncomputable def q38_3 : List Oper := ops [true, false] Try.f38
noncomputable def n38_4 : Code := sub [true, true] (bodyOf Try.f38)
theorem body38 : Try.f38.body = some n38_0 := by kernel_rfl
theorem run38 (E : Ev) (args : List Value) (h : List Blk) (hl : args.length ≤ 11) : runB Try.prog E 38 args h = endS Try.prog [.tmp 6] h.length (codeB Try.prog E ⟨38, 11, h.length, none⟩ n38_0 ⟨enumT 0 args, h, []⟩) := GE.run_step Try.func38 body38 (by kernel_rfl) (by decide) (by kernel_rfl) hl
theorem n38_1s (E : Ev) (f : FuncId) (b : Nat) (ro : Option Nat) (st : St) : codeB Try.prog E ⟨f, 11, b, ro⟩ n38_1 st = plainS (runOps Try.prog E b q38_1 (ops [false] Try.f38) st) := GE.region_step (id := 0) (by kernel_rfl) (by kernel_rfl)
theorem n38_3s (E : Ev) (f : FuncId) (b : Nat) (ro : Option Nat) (st : St) : codeB Try.prog E ⟨f, 11, b, ro⟩ n38_3 st = plainS (runOps Try.prog E b q38_3 (ops [true, false] Try.f38) st) := GE.region_step (id := 1) (by kernel_rfl) (by kernel_rfl)
theorem n38_4s (E : Ev) (cx : Cx) (st : St) : codeB Try.prog E cx n38_4 st = some (.ret, st) := GE.ret_step (by kernel_rfl)
theorem n38_2s (E : Ev) (cx : Cx) (st : St) : codeB Try.prog E cx n38_2 st = thenS (codeB Try.prog E cx n38_3 st) (codeB Try.prog E cx n38_4) := GE.seq_step (by kernel_rfl)
theorem n38_0s (E : Ev) (cx : Cx) (st : St) : codeB Try.prog E cx n38_0 st = thenS (codeB Try.prog E cx n38_1 st) (codeB Try.prog E cx n38_2) := GE.seq_step (by kernel_rfl)
noncomputable def n39_0 : Code := sub [] (bodyOf Try.f39)
noncomputable def n39_1 : Code := sub [false] (bodyOf Try.f39)
noncomputable def q39_1 : List Oper := ops [false] Try.f39
noncomputable def n39_2 : Code := sub [true] (bodyOf Try.f39)
noncomputable def n39_3 : Code := sub [true, false] (bodyOf Try.f39)
noncomputable def q39_3 : List Oper := ops [true, false] Try.f39
noncomputable def n39_4 : Code := sub [true, true] (bodyOf Try.f39)
noncomputable def n39_5 : Code := sub [true, true, false] (bodyOf Try.f39)
noncomputable def n39_6 : Code := sub [true, true, false, false] (bodyOf Try.f39)
noncomputable def q39_6 : List Oper := ops [true, true, false, false] Try.f39
noncomputable def n39_7 : Code := sub [true, true, false, true] (bodyOf Try.f39)
noncomputable def n39_8 : Code := sub [true, true, false, true, false] (bodyOf Try.f39)
noncomputable def q39_8 : List Oper := ops [true, true, false, true, false] Try.f39
noncomputable def n39_9 : Code := sub [true, true, false, true, true] (bodyOf Try.f39)
noncomputable def n39_10 : Code := sub [true, true, true] (bodyOf Try.f39)
noncomputable def n39_11 : Code := sub [true, true, true, false] (bodyOf Try.f39)
noncomputable def n39_12 : Code := sub [true, true, true, false, false] (bodyOf Try.f39)
noncomputable def q39_12 : List Oper := ops [true, true, true, false, false] Try.f39
noncomputable def n39_13 : Code := sub [true, true, true, false, true] (bodyOf Try.f39)
noncomputable def n39_14 : Code := sub [true, true, true, false, true, false] (bodyOf Try.f39)
noncomputable def q39_14 : List Oper := ops [true, true, true, false, true, false] Try.f39
noncomputable def n39_15 : Code := sub [true, true, true, false, true, true] (bodyOf Try.f39)
noncomputable def n39_16 : Code := sub [true, true, true, true] (bodyOf Try.f39)
noncomputable def n39_17 : Code := sub [true, true, true, true, false] (bodyOf Try.f39)
noncomputable def q39_17 : List Oper := ops [true, true, true, true, false] Try.f39
noncomputable def n39_18 : Code := sub [true, true, true, true, true] (bodyOf Try.f39)
theorem body39 : Try.f39.body = some n39_0 := by kernel_rfl
theorem run39 (E : Ev) (args : List Value) (h : List Blk) (hl : args.length ≤ 18) : runB Try.prog E 39 args h = endS Try.prog [.tmp 4] h.length (codeB Try.prog E ⟨39, 18, h.length, none⟩ n39_0 ⟨enumT 0 args, h, []⟩) := GE.run_step Try.func39 body39 (by kernel_rfl) (by decide) (by kernel_rfl) hl
theorem n39_1s (E : Ev) (f : FuncId) (b : Nat) (ro : Option Nat) (st : St) : codeB Try.prog E ⟨f, 18, b, ro⟩ n39_1 st = plainS (runOps Try.prog E b q39_1 (ops [false] Try.f39) st) := GE.region_step (id := 0) (by kernel_rfl) (by kernel_rfl)
theorem n39_3s (E : Ev) (f : FuncId) (b : Nat) (ro : Option Nat) (st : St) : codeB Try.prog E ⟨f, 18, b, ro⟩ n39_3 st = plainS (runOps Try.prog E b q39_3 (ops [true, false] Try.f39) st) := GE.region_step (id := 1) (by kernel_rfl) (by kernel_rfl)
theorem n39_6s (E : Ev) (f : FuncId) (b : Nat) (ro : Option Nat) (st : St) : codeB Try.prog E ⟨f, 18, b, ro⟩ n39_6 st = plainS (runOps Try.prog E b q39_6 (ops [true, true, false, false] Try.f39) st) := GE.region_step (id := 2) (by kernel_rfl) (by kernel_rfl)
theorem n39_8s (E : Ev) (f : FuncId) (b : Nat) (ro : Option Nat) (st : St) : codeB Try.prog E ⟨f, 18, b, ro⟩ n39_8 st = plainS (runOps Try.prog E b q39_8 (ops [true, true, false, true, false] Try.f39) st) := GE.region_step (id := 3) (by kernel_rfl) (by kernel_rfl)
theorem n39_9s (E : Ev) (cx : Cx) (st : St) : codeB Try.prog E cx n39_9 st = some (.normal, st) := GE.skip_step (by kernel_rfl)
theorem n39_7s (E : Ev) (cx : Cx) (st : St) : codeB Try.prog E cx n39_7 st = condS (codeB Try.prog E cx n39_8) (codeB Try.prog E cx n39_9) (lk st.σ 10) st := GE.cond_step (c := .tmp 10) (by kernel_rfl)
theorem n39_5s (E : Ev) (cx : Cx) (st : St) : codeB Try.prog E cx n39_5 st = thenS (codeB Try.prog E cx n39_6 st) (codeB Try.prog E cx n39_7) := GE.seq_step (by kernel_rfl)
theorem n39_12s (E : Ev) (f : FuncId) (b : Nat) (ro : Option Nat) (st : St) : codeB Try.prog E ⟨f, 18, b, ro⟩ n39_12 st = plainS (runOps Try.prog E b q39_12 (ops [true, true, true, false, false] Try.f39) st) := GE.region_step (id := 4) (by kernel_rfl) (by kernel_rfl)
theorem n39_14s (E : Ev) (f : FuncId) (b : Nat) (ro : Option Nat) (st : St) : codeB Try.prog E ⟨f, 18, b, ro⟩ n39_14 st = plainS (runOps Try.prog E b q39_14 (ops [true, true, true, false, true, false] Try.f39) st) := GE.region_step (id := 5) (by kernel_rfl) (by kernel_rfl)
theorem n39_15s (E : Ev) (cx : Cx) (st : St) : codeB Try.prog E cx n39_15 st = some (.normal, st) := GE.skip_step (by kernel_rfl)
theorem n39_13s (E : Ev) (cx : Cx) (st : St) : codeB Try.prog E cx n39_13 st = condS (codeB Try.prog E cx n39_14) (codeB Try.prog E cx n39_15) (lk st.σ 14) st := GE.cond_step (c := .tmp 14) (by kernel_rfl)
theorem n39_11s (E : Ev) (cx : Cx) (st : St) : codeB Try.prog E cx n39_11 st = thenS (codeB Try.prog E cx n39_12 st) (codeB Try.prog E cx n39_13) := GE.seq_step (by kernel_rfl)
theorem n39_17s (E : Ev) (f : FuncId) (b : Nat) (ro : Option Nat) (st : St) : codeB Try.prog E ⟨f, 18, b, ro⟩ n39_17 st = plainS (runOps Try.prog E b q39_17 (ops [true, true, true, true, false] Try.f39) st) := GE.region_step (id := 6) (by kernel_rfl) (by kernel_rfl)
theorem n39_18s (E : Ev) (cx : Cx) (st : St) : codeB Try.prog E cx n39_18 st = some (.ret, st) := GE.ret_step (by kernel_rfl)
theorem n39_16s (E : Ev) (cx : Cx) (st : St) : codeB Try.prog E cx n39_16 st = thenS (codeB Try.prog E cx n39_17 st) (codeB Try.prog E cx n39_18) := GE.seq_step (by kernel_rfl)
theorem n39_10s (E : Ev) (cx : Cx) (st : St) : codeB Try.prog E cx n39_10 st = thenS (codeB Try.prog E cx n39_11 st) (codeB Try.prog E cx n39_16) := GE.seq_step (by kernel_rfl)
theorem n39_4s (E : Ev) (cx : Cx) (st : St) : codeB Try.prog E cx n39_4 st = thenS (codeB Try.prog E cx n39_5 st) (codeB Try.prog E cx n39_10) := GE.seq_step (by kernel_rfl)
theorem n39_2s (E : Ev) (cx : Cx) (st : St) : codeB Try.prog E cx n39_2 st = thenS (codeB Try.prog E cx n39_3 st) (codeB Try.prog E cx n39_4) := GE.seq_step (by kernel_rfl)
theorem n39_0s (E : Ev) (cx : Cx) (st : St) : codeB Try.prog E cx n39_0 st = thenS (codeB Try.prog E cx n39_1 st) (codeB Try.prog E cx n39_2) := GE.seq_step (by kernel_rfl)
noncomputable def n42_0 : Code := sub [] (bodyOf Try.f42)
noncomputable def n42_1 : Code := sub [false] (bodyOf Try.f42)
noncomputable def q42_1 : List Oper := ops [false] Try.f42
noncomputable def n42_2 : Code := sub [true] (bodyOf Try.f42)
noncomputable def n42_3 : Code := sub [true, false] (bodyOf Try.f42)
noncomputable def q42_3 : List Oper := ops [true, false] Try.f42
noncomputable def n42_4 : Code := sub [true, true] (bodyOf Try.f42)
noncomputable def n42_5 : Code := sub [true, true, false] (bodyOf Try.f42)
noncomputable def q42_5 : List Oper := ops [true, true, false] Try.f42
noncomputable def n42_6 : Code := sub [true, true, true] (bodyOf Try.f42)
theorem body42 : Try.f42.body = some n42_0 := by kernel_rfl
theorem run42 (E : Ev) (args : List Value) (h : List Blk) (hl : args.length ≤ 30) : runB Try.prog E 42 args h = endS Try.prog [.tmp 10] h.length (codeB Try.prog E ⟨42, 30, h.length, none⟩ n42_0 ⟨enumT 0 args, h, []⟩) := GE.run_step Try.func42 body42 (by kernel_rfl) (by decide) (by kernel_rfl) hl
theorem n42_1s (E : Ev) (f : FuncId) (b : Nat) (ro : Option Nat) (st : St) : codeB Try.prog E ⟨f, 30, b, ro⟩ n42_1 st = plainS (runOps Try.prog E b q42_1 (ops [false] Try.f42) st) := GE.region_step (id := 0) (by kernel_rfl) (by kernel_rfl)
theorem n42_3s (E : Ev) (f : FuncId) (b : Nat) (ro : Option Nat) (st : St) : codeB Try.prog E ⟨f, 30, b, ro⟩ n42_3 st = drawS [0, 0, 0, 7, 0, 0, 0, 127, 255, 511] (runOpsF Try.prog E b q42_3 (ops [true, false] Try.f42) st) := GE.draw_step (id := 1) (by kernel_rfl) (by kernel_rfl) (by kernel_rfl) (by kernel_rfl)
theorem n42_5s (E : Ev) (f : FuncId) (b : Nat) (ro : Option Nat) (st : St) : codeB Try.prog E ⟨f, 30, b, ro⟩ n42_5 st = plainS (runOps Try.prog E b q42_5 (ops [true, true, false] Try.f42) st) := GE.region_step (id := 2) (by kernel_rfl) (by kernel_rfl)
theorem n42_6s (E : Ev) (cx : Cx) (st : St) : codeB Try.prog E cx n42_6 st = some (.ret, st) := GE.ret_step (by kernel_rfl)
theorem n42_4s (E : Ev) (cx : Cx) (st : St) : codeB Try.prog E cx n42_4 st = thenS (codeB Try.prog E cx n42_5 st) (codeB Try.prog E cx n42_6) := GE.seq_step (by kernel_rfl)
theorem n42_2s (E : Ev) (cx : Cx) (st : St) : codeB Try.prog E cx n42_2 st = thenS (codeB Try.prog E cx n42_3 st) (codeB Try.prog E cx n42_4) := GE.seq_step (by kernel_rfl)
theorem n42_0s (E : Ev) (cx : Cx) (st : St) : codeB Try.prog E cx n42_0 st = thenS (codeB Try.prog E cx n42_1 st) (codeB Try.prog E cx n42_2) := GE.seq_step (by kernel_rfl)
noncomputable def n51_0 : Code := sub [] (bodyOf Try.f51)
noncomputable def n51_1 : Code := sub [false] (bodyOf Try.f51)
noncomputable def q51_1 : List Oper := ops [false] Try.f51
noncomputable def n51_2 : Code := sub [true] (bodyOf Try.f51)
noncomputable def n51_3 : Code := sub [true, false] (bodyOf Try.f51)
noncomputable def q51_3 : List Oper := ops [true, false] Try.f51
noncomputable def n51_4 : Code := sub [true, true] (bodyOf Try.f51)
theorem body51 : Try.f51.body = some n51_0 := by kernel_rfl
theorem run51 (E : Ev) (args : List Value) (h : List Blk) (hl : args.length ≤ 15) : runB Try.prog E 51 args h = endS Try.prog [.tmp 6] h.length (codeB Try.prog E ⟨51, 15, h.length, none⟩ n51_0 ⟨enumT 0 args, h, []⟩) := GE.run_step Try.func51 body51 (by kernel_rfl) (by decide) (by kernel_rfl) hl
theorem n51_1s (E : Ev) (f : FuncId) (b : Nat) (ro : Option Nat) (st : St) : codeB Try.prog E ⟨f, 15, b, ro⟩ n51_1 st = plainS (runOps Try.prog E b q51_1 (ops [false] Try.f51) st) := GE.region_step (id := 0) (by kernel_rfl) (by kernel_rfl)
theorem q51_3g3 : gd q51_3 3 = some 10 := by kernel_rfl
theorem n51_3s (E : Ev) (f : FuncId) (b : Nat) (ro : Option Nat) (st : St) : codeB Try.prog E ⟨f, 15, b, ro⟩ n51_3 st = plainS (runOps Try.prog E b q51_3 (ops [true, false] Try.f51) st) := GE.region_step (id := 1) (by kernel_rfl) (by kernel_rfl)
theorem n51_4s (E : Ev) (cx : Cx) (st : St) : codeB Try.prog E cx n51_4 st = some (.ret, st) := GE.ret_step (by kernel_rfl)
theorem n51_2s (E : Ev) (cx : Cx) (st : St) : codeB Try.prog E cx n51_2 st = thenS (codeB Try.prog E cx n51_3 st) (codeB Try.prog E cx n51_4) := GE.seq_step (by kernel_rfl)
theorem n51_0s (E : Ev) (cx : Cx) (st : St) : codeB Try.prog E cx n51_0 st = thenS (codeB Try.prog E cx n51_1 st) (codeB Try.prog E cx n51_2) := GE.seq_step (by kernel_rfl)
noncomputable def n52_0 : Code := sub [] (bodyOf Try.f52)
noncomputable def n52_1 : Code := sub [false] (bodyOf Try.f52)
noncomputable def q52_1 : List Oper := ops [false] Try.f52
noncomputable def n52_2 : Code := sub [true] (bodyOf Try.f52)
noncomputable def n52_3 : Code := sub [true, false] (bodyOf Try.f52)
noncomputable def q52_3 : List Oper := ops [true, false] Try.f52
noncomputable def n52_4 : Code := sub [true, true] (bodyOf Try.f52)
theorem body52 : Try.f52.body = some n52_0 := by kernel_rfl
theorem run52 (E : Ev) (args : List Value) (h : List Blk) (hl : args.length ≤ 17) : runB Try.prog E 52 args h = endS Try.prog [.tmp 6] h.length (codeB Try.prog E ⟨52, 17, h.length, none⟩ n52_0 ⟨enumT 0 args, h, []⟩) := GE.run_step Try.func52 body52 (by kernel_rfl) (by decide) (by kernel_rfl) hl
theorem n52_1s (E : Ev) (f : FuncId) (b : Nat) (ro : Option Nat) (st : St) : codeB Try.prog E ⟨f, 17, b, ro⟩ n52_1 st = plainS (runOps Try.prog E b q52_1 (ops [false] Try.f52) st) := GE.region_step (id := 0) (by kernel_rfl) (by kernel_rfl)
theorem n52_3s (E : Ev) (f : FuncId) (b : Nat) (ro : Option Nat) (st : St) : codeB Try.prog E ⟨f, 17, b, ro⟩ n52_3 st = plainS (runOps Try.prog E b q52_3 (ops [true, false] Try.f52) st) := GE.region_step (id := 1) (by kernel_rfl) (by kernel_rfl)
theorem n52_4s (E : Ev) (cx : Cx) (st : St) : codeB Try.prog E cx n52_4 st = some (.ret, st) := GE.ret_step (by kernel_rfl)
theorem n52_2s (E : Ev) (cx : Cx) (st : St) : codeB Try.prog E cx n52_2 st = thenS (codeB Try.prog E cx n52_3 st) (codeB Try.prog E cx n52_4) := GE.seq_step (by kernel_rfl)
theorem n52_0s (E : Ev) (cx : Cx) (st : St) : codeB Try.prog E cx n52_0 st = thenS (codeB Try.prog E cx n52_1 st) (codeB Try.prog E cx n52_2) := GE.seq_step (by kernel_rfl)
noncomputable def n18_0 : Code := sub [] (bodyOf Try.f18)
noncomputable def n18_1 : Code := sub [false] (bodyOf Try.f18)
noncomputable def q18_1 : List Oper := ops [false] Try.f18
noncomputable def n18_2 : Code := sub [true] (bodyOf Try.f18)
noncomputable def n18_3 : Code := sub [true, false] (bodyOf Try.f18)
noncomputable def n18_4 : Code := sub [true, false, false] (bodyOf Try.f18)
noncomputable def q18_4 : List Oper := ops [true, false, false] Try.f18
noncomputable def n18_5 : Code := sub [true, false, true] (bodyOf Try.f18)
noncomputable def n18_6 : Code := sub [true, false, true, false] (bodyOf Try.f18)
noncomputable def n18_7 : Code := sub [true, false, true, false, false] (bodyOf Try.f18)
noncomputable def q18_7 : List Oper := ops [true, false, true, false, false] Try.f18
noncomputable def n18_8 : Code := sub [true, false, true, false, true] (bodyOf Try.f18)
noncomputable def n18_9 : Code := sub [true, false, true, true] (bodyOf Try.f18)
noncomputable def n18_10 : Code := sub [true, true] (bodyOf Try.f18)
noncomputable def n18_11 : Code := sub [true, true, false] (bodyOf Try.f18)
noncomputable def n18_12 : Code := sub [true, true, false, false] (bodyOf Try.f18)
noncomputable def q18_12 : List Oper := ops [true, true, false, false] Try.f18
noncomputable def n18_13 : Code := sub [true, true, false, true] (bodyOf Try.f18)
noncomputable def n18_14 : Code := sub [true, true, false, true, false] (bodyOf Try.f18)
noncomputable def n18_15 : Code := sub [true, true, false, true, false, false] (bodyOf Try.f18)
noncomputable def q18_15 : List Oper := ops [true, true, false, true, false, false] Try.f18
noncomputable def n18_16 : Code := sub [true, true, false, true, false, true] (bodyOf Try.f18)
noncomputable def n18_17 : Code := sub [true, true, false, true, true] (bodyOf Try.f18)
noncomputable def n18_18 : Code := sub [true, true, true] (bodyOf Try.f18)
noncomputable def n18_19 : Code := sub [true, true, true, false] (bodyOf Try.f18)
noncomputable def n18_20 : Code := sub [true, true, true, false, false] (bodyOf Try.f18)
noncomputable def q18_20 : List Oper := ops [true, true, true, false, false] Try.f18
noncomputable def n18_21 : Code := sub [true, true, true, false, true] (bodyOf Try.f18)
noncomputable def n18_22 : Code := sub [true, true, true, false, true, false] (bodyOf Try.f18)
noncomputable def n18_23 : Code := sub [true, true, true, false, true, false, false] (bodyOf Try.f18)
noncomputable def n18_24 : Code := sub [true, true, true, false, true, false, false, false] (bodyOf Try.f18)
noncomputable def n18_25 : Code := sub [true, true, true, false, true, false, false, false, false] (bodyOf Try.f18)
noncomputable def q18_25 : List Oper := ops [true, true, true, false, true, false, false, false, false] Try.f18
noncomputable def n18_26 : Code := sub [true, true, true, false, true, false, false, false, true] (bodyOf Try.f18)
noncomputable def n18_27 : Code := sub [true, true, true, false, true, false, false, false, true, false] (bodyOf Try.f18)
noncomputable def n18_28 : Code := sub [true, true, true, false, true, false, false, false, true, true] (bodyOf Try.f18)
noncomputable def n18_29 : Code := sub [true, true, true, false, true, false, false, true] (bodyOf Try.f18)
noncomputable def n18_30 : Code := sub [true, true, true, false, true, false, false, true, false] (bodyOf Try.f18)
noncomputable def n18_31 : Code := sub [true, true, true, false, true, false, false, true, false, false] (bodyOf Try.f18)
noncomputable def n18_32 : Code := sub [true, true, true, false, true, false, false, true, false, false, false] (bodyOf Try.f18)
noncomputable def q18_32 : List Oper := ops [true, true, true, false, true, false, false, true, false, false, false] Try.f18
noncomputable def n18_33 : Code := sub [true, true, true, false, true, false, false, true, false, false, true] (bodyOf Try.f18)
noncomputable def n18_34 : Code := sub [true, true, true, false, true, false, false, true, false, false, true, false] (bodyOf Try.f18)
noncomputable def n18_35 : Code := sub [true, true, true, false, true, false, false, true, false, false, true, false, false] (bodyOf Try.f18)
noncomputable def q18_35 : List Oper := ops [true, true, true, false, true, false, false, true, false, false, true, false, false] Try.f18
noncomputable def n18_36 : Code := sub [true, true, true, false, true, false, false, true, false, false, true, false, true] (bodyOf Try.f18)
noncomputable def n18_37 : Code := sub [true, true, true, false, true, false, false, true, false, false, true, true] (bodyOf Try.f18)
noncomputable def n18_38 : Code := sub [true, true, true, false, true, false, false, true, true] (bodyOf Try.f18)
noncomputable def q18_38 : List Oper := ops [true, true, true, false, true, false, false, true, true] Try.f18
noncomputable def n18_39 : Code := sub [true, true, true, true] (bodyOf Try.f18)
noncomputable def n18_40 : Code := sub [true, true, true, true, false] (bodyOf Try.f18)
noncomputable def n18_41 : Code := sub [true, true, true, true, false, false] (bodyOf Try.f18)
noncomputable def q18_41 : List Oper := ops [true, true, true, true, false, false] Try.f18
noncomputable def n18_42 : Code := sub [true, true, true, true, false, true] (bodyOf Try.f18)
noncomputable def n18_43 : Code := sub [true, true, true, true, false, true, false] (bodyOf Try.f18)
noncomputable def n18_44 : Code := sub [true, true, true, true, false, true, false, false] (bodyOf Try.f18)
noncomputable def n18_45 : Code := sub [true, true, true, true, false, true, false, false, false] (bodyOf Try.f18)
noncomputable def n18_46 : Code := sub [true, true, true, true, false, true, false, false, false, false] (bodyOf Try.f18)
noncomputable def q18_46 : List Oper := ops [true, true, true, true, false, true, false, false, false, false] Try.f18
noncomputable def n18_47 : Code := sub [true, true, true, true, false, true, false, false, false, true] (bodyOf Try.f18)
noncomputable def n18_48 : Code := sub [true, true, true, true, false, true, false, false, false, true, false] (bodyOf Try.f18)
noncomputable def n18_49 : Code := sub [true, true, true, true, false, true, false, false, false, true, true] (bodyOf Try.f18)
noncomputable def n18_50 : Code := sub [true, true, true, true, false, true, false, false, true] (bodyOf Try.f18)
noncomputable def n18_51 : Code := sub [true, true, true, true, false, true, false, false, true, false] (bodyOf Try.f18)
noncomputable def n18_52 : Code := sub [true, true, true, true, false, true, false, false, true, false, false] (bodyOf Try.f18)
noncomputable def n18_53 : Code := sub [true, true, true, true, false, true, false, false, true, false, false, false] (bodyOf Try.f18)
noncomputable def q18_53 : List Oper := ops [true, true, true, true, false, true, false, false, true, false, false, false] Try.f18
noncomputable def n18_54 : Code := sub [true, true, true, true, false, true, false, false, true, false, false, true] (bodyOf Try.f18)
noncomputable def n18_55 : Code := sub [true, true, true, true, false, true, false, false, true, false, false, true, false] (bodyOf Try.f18)
noncomputable def n18_56 : Code := sub [true, true, true, true, false, true, false, false, true, false, false, true, false, false] (bodyOf Try.f18)
noncomputable def n18_57 : Code := sub [true, true, true, true, false, true, false, false, true, false, false, true, false, false, false] (bodyOf Try.f18)
noncomputable def n18_58 : Code := sub [true, true, true, true, false, true, false, false, true, false, false, true, false, false, false, false] (bodyOf Try.f18)
noncomputable def q18_58 : List Oper := ops [true, true, true, true, false, true, false, false, true, false, false, true, false, false, false, false] Try.f18
noncomputable def n18_59 : Code := sub [true, true, true, true, false, true, false, false, true, false, false, true, false, false, false, true] (bodyOf Try.f18)
noncomputable def n18_60 : Code := sub [true, true, true, true, false, true, false, false, true, false, false, true, false, false, false, true, false] (bodyOf Try.f18)
noncomputable def n18_61 : Code := sub [true, true, true, true, false, true, false, false, true, false, false, true, false, false, false, true, true] (bodyOf Try.f18)
noncomputable def n18_62 : Code := sub [true, true, true, true, false, true, false, false, true, false, false, true, false, false, true] (bodyOf Try.f18)
noncomputable def n18_63 : Code := sub [true, true, true, true, false, true, false, false, true, false, false, true, false, false, true, false] (bodyOf Try.f18)
noncomputable def n18_64 : Code := sub [true, true, true, true, false, true, false, false, true, false, false, true, false, false, true, false, false] (bodyOf Try.f18)
noncomputable def n18_65 : Code := sub [true, true, true, true, false, true, false, false, true, false, false, true, false, false, true, false, false, false] (bodyOf Try.f18)
noncomputable def q18_65 : List Oper := ops [true, true, true, true, false, true, false, false, true, false, false, true, false, false, true, false, false, false] Try.f18
noncomputable def n18_66 : Code := sub [true, true, true, true, false, true, false, false, true, false, false, true, false, false, true, false, false, true] (bodyOf Try.f18)
noncomputable def n18_67 : Code := sub [true, true, true, true, false, true, false, false, true, false, false, true, false, false, true, false, false, true, false] (bodyOf Try.f18)
noncomputable def n18_68 : Code := sub [true, true, true, true, false, true, false, false, true, false, false, true, false, false, true, false, false, true, false, false] (bodyOf Try.f18)
noncomputable def q18_68 : List Oper := ops [true, true, true, true, false, true, false, false, true, false, false, true, false, false, true, false, false, true, false, false] Try.f18
noncomputable def n18_69 : Code := sub [true, true, true, true, false, true, false, false, true, false, false, true, false, false, true, false, false, true, false, true] (bodyOf Try.f18)
noncomputable def n18_70 : Code := sub [true, true, true, true, false, true, false, false, true, false, false, true, false, false, true, false, false, true, true] (bodyOf Try.f18)
noncomputable def n18_71 : Code := sub [true, true, true, true, false, true, false, false, true, false, false, true, false, false, true, true] (bodyOf Try.f18)
noncomputable def q18_71 : List Oper := ops [true, true, true, true, false, true, false, false, true, false, false, true, false, false, true, true] Try.f18
noncomputable def n18_72 : Code := sub [true, true, true, true, false, true, false, false, true, true] (bodyOf Try.f18)
noncomputable def q18_72 : List Oper := ops [true, true, true, true, false, true, false, false, true, true] Try.f18
noncomputable def n18_73 : Code := sub [true, true, true, true, true] (bodyOf Try.f18)
noncomputable def n18_74 : Code := sub [true, true, true, true, true, false] (bodyOf Try.f18)
noncomputable def q18_74 : List Oper := ops [true, true, true, true, true, false] Try.f18
noncomputable def n18_75 : Code := sub [true, true, true, true, true, true] (bodyOf Try.f18)
theorem body18 : Try.f18.body = some n18_0 := by kernel_rfl
theorem run18 (E : Ev) (args : List Value) (h : List Blk) (hl : args.length ≤ 83) : runB Try.prog E 18 args h = endS Try.prog [.tmp 2] h.length (codeB Try.prog E ⟨18, 83, h.length, none⟩ n18_0 ⟨enumT 0 args, h, []⟩) := GE.run_step Try.func18 body18 (by kernel_rfl) (by decide) (by kernel_rfl) hl
theorem n18_1s (E : Ev) (f : FuncId) (b : Nat) (ro : Option Nat) (st : St) : codeB Try.prog E ⟨f, 83, b, ro⟩ n18_1 st = plainS (runOps Try.prog E b q18_1 (ops [false] Try.f18) st) := GE.region_step (id := 0) (by kernel_rfl) (by kernel_rfl)
theorem q18_4g4 : gd q18_4 4 = some 10 := by kernel_rfl
theorem q18_4g10 : gd q18_4 10 = some 16 := by kernel_rfl
theorem n18_4s (E : Ev) (f : FuncId) (b : Nat) (ro : Option Nat) (st : St) : codeB Try.prog E ⟨f, 83, b, ro⟩ n18_4 st = plainS (runOps Try.prog E b q18_4 (ops [true, false, false] Try.f18) st) := GE.region_step (id := 1) (by kernel_rfl) (by kernel_rfl)
theorem n18_7s (E : Ev) (f : FuncId) (b : Nat) (ro : Option Nat) (st : St) : codeB Try.prog E ⟨f, 83, b, ro⟩ n18_7 st = plainS (runOps Try.prog E b q18_7 (ops [true, false, true, false, false] Try.f18) st) := GE.region_step (id := 2) (by kernel_rfl) (by kernel_rfl)
theorem n18_8s (E : Ev) (cx : Cx) (st : St) : codeB Try.prog E cx n18_8 st = some (.ret, st) := GE.ret_step (by kernel_rfl)
theorem n18_6s (E : Ev) (cx : Cx) (st : St) : codeB Try.prog E cx n18_6 st = thenS (codeB Try.prog E cx n18_7 st) (codeB Try.prog E cx n18_8) := GE.seq_step (by kernel_rfl)
theorem n18_9s (E : Ev) (cx : Cx) (st : St) : codeB Try.prog E cx n18_9 st = some (.normal, st) := GE.skip_step (by kernel_rfl)
theorem n18_5s (E : Ev) (cx : Cx) (st : St) : codeB Try.prog E cx n18_5 st = condS (codeB Try.prog E cx n18_6) (codeB Try.prog E cx n18_9) (lk st.σ 21) st := GE.cond_step (c := .tmp 21) (by kernel_rfl)
theorem n18_3s (E : Ev) (cx : Cx) (st : St) : codeB Try.prog E cx n18_3 st = thenS (codeB Try.prog E cx n18_4 st) (codeB Try.prog E cx n18_5) := GE.seq_step (by kernel_rfl)
theorem n18_12s (E : Ev) (f : FuncId) (b : Nat) (ro : Option Nat) (st : St) : codeB Try.prog E ⟨f, 83, b, ro⟩ n18_12 st = plainS (runOps Try.prog E b q18_12 (ops [true, true, false, false] Try.f18) st) := GE.region_step (id := 3) (by kernel_rfl) (by kernel_rfl)
theorem n18_15s (E : Ev) (f : FuncId) (b : Nat) (ro : Option Nat) (st : St) : codeB Try.prog E ⟨f, 83, b, ro⟩ n18_15 st = plainS (runOps Try.prog E b q18_15 (ops [true, true, false, true, false, false] Try.f18) st) := GE.region_step (id := 4) (by kernel_rfl) (by kernel_rfl)
theorem n18_16s (E : Ev) (cx : Cx) (st : St) : codeB Try.prog E cx n18_16 st = some (.ret, st) := GE.ret_step (by kernel_rfl)
theorem n18_14s (E : Ev) (cx : Cx) (st : St) : codeB Try.prog E cx n18_14 st = thenS (codeB Try.prog E cx n18_15 st) (codeB Try.prog E cx n18_16) := GE.seq_step (by kernel_rfl)
theorem n18_17s (E : Ev) (cx : Cx) (st : St) : codeB Try.prog E cx n18_17 st = some (.normal, st) := GE.skip_step (by kernel_rfl)
theorem n18_13s (E : Ev) (cx : Cx) (st : St) : codeB Try.prog E cx n18_13 st = condS (codeB Try.prog E cx n18_14) (codeB Try.prog E cx n18_17) (lk st.σ 30) st := GE.cond_step (c := .tmp 30) (by kernel_rfl)
theorem n18_11s (E : Ev) (cx : Cx) (st : St) : codeB Try.prog E cx n18_11 st = thenS (codeB Try.prog E cx n18_12 st) (codeB Try.prog E cx n18_13) := GE.seq_step (by kernel_rfl)
theorem n18_20s (E : Ev) (f : FuncId) (b : Nat) (ro : Option Nat) (st : St) : codeB Try.prog E ⟨f, 83, b, ro⟩ n18_20 st = plainS (runOps Try.prog E b q18_20 (ops [true, true, true, false, false] Try.f18) st) := GE.region_step (id := 5) (by kernel_rfl) (by kernel_rfl)
theorem n18_25s (E : Ev) (f : FuncId) (b : Nat) (ro : Option Nat) (st : St) : codeB Try.prog E ⟨f, 83, b, ro⟩ n18_25 st = plainS (runOps Try.prog E b q18_25 (ops [true, true, true, false, true, false, false, false, false] Try.f18) st) := GE.region_step (id := 6) (by kernel_rfl) (by kernel_rfl)
theorem n18_27s (E : Ev) (cx : Cx) (st : St) : codeB Try.prog E cx n18_27 st = some (.normal, st) := GE.skip_step (by kernel_rfl)
theorem n18_28s (E : Ev) (cx : Cx) (st : St) : codeB Try.prog E cx n18_28 st = some (.exit 0, st) := GE.exit_step (by kernel_rfl)
theorem n18_26s (E : Ev) (cx : Cx) (st : St) : codeB Try.prog E cx n18_26 st = condS (codeB Try.prog E cx n18_27) (codeB Try.prog E cx n18_28) (lk st.σ 35) st := GE.cond_step (c := .tmp 35) (by kernel_rfl)
theorem n18_24s (E : Ev) (cx : Cx) (st : St) : codeB Try.prog E cx n18_24 st = thenS (codeB Try.prog E cx n18_25 st) (codeB Try.prog E cx n18_26) := GE.seq_step (by kernel_rfl)
theorem n18_32s (E : Ev) (f : FuncId) (b : Nat) (ro : Option Nat) (st : St) : codeB Try.prog E ⟨f, 83, b, ro⟩ n18_32 st = plainS (runOps Try.prog E b q18_32 (ops [true, true, true, false, true, false, false, true, false, false, false] Try.f18) st) := GE.region_step (id := 8) (by kernel_rfl) (by kernel_rfl)
theorem n18_35s (E : Ev) (f : FuncId) (b : Nat) (ro : Option Nat) (st : St) : codeB Try.prog E ⟨f, 83, b, ro⟩ n18_35 st = plainS (runOps Try.prog E b q18_35 (ops [true, true, true, false, true, false, false, true, false, false, true, false, false] Try.f18) st) := GE.region_step (id := 9) (by kernel_rfl) (by kernel_rfl)
theorem n18_36s (E : Ev) (cx : Cx) (st : St) : codeB Try.prog E cx n18_36 st = some (.ret, st) := GE.ret_step (by kernel_rfl)
theorem n18_34s (E : Ev) (cx : Cx) (st : St) : codeB Try.prog E cx n18_34 st = thenS (codeB Try.prog E cx n18_35 st) (codeB Try.prog E cx n18_36) := GE.seq_step (by kernel_rfl)
theorem n18_37s (E : Ev) (cx : Cx) (st : St) : codeB Try.prog E cx n18_37 st = some (.normal, st) := GE.skip_step (by kernel_rfl)
theorem n18_33s (E : Ev) (cx : Cx) (st : St) : codeB Try.prog E cx n18_33 st = condS (codeB Try.prog E cx n18_34) (codeB Try.prog E cx n18_37) (lk st.σ 44) st := GE.cond_step (c := .tmp 44) (by kernel_rfl)
theorem n18_31s (E : Ev) (cx : Cx) (st : St) : codeB Try.prog E cx n18_31 st = thenS (codeB Try.prog E cx n18_32 st) (codeB Try.prog E cx n18_33) := GE.seq_step (by kernel_rfl)
theorem n18_30s (E : Ev) (cx : Cx) (st : St) : codeB Try.prog E cx n18_30 st = blockS 1 (codeB Try.prog E cx n18_31 st) st := GE.block_step (by kernel_rfl)
theorem n18_38s (E : Ev) (f : FuncId) (b : Nat) (ro : Option Nat) (st : St) : codeB Try.prog E ⟨f, 83, b, ro⟩ n18_38 st = plainS (runOps Try.prog E b q18_38 (ops [true, true, true, false, true, false, false, true, true] Try.f18) st) := GE.region_step (id := 7) (by kernel_rfl) (by kernel_rfl)
theorem n18_29s (E : Ev) (cx : Cx) (st : St) : codeB Try.prog E cx n18_29 st = thenS (codeB Try.prog E cx n18_30 st) (codeB Try.prog E cx n18_38) := GE.seq_step (by kernel_rfl)
theorem n18_23s (E : Ev) (cx : Cx) (st : St) : codeB Try.prog E cx n18_23 st = thenS (codeB Try.prog E cx n18_24 st) (codeB Try.prog E cx n18_29) := GE.seq_step (by kernel_rfl)
theorem n18_22s (E : Ev) (cx : Cx) (st : St) : codeB Try.prog E cx n18_22 st = loopS (fun st' => E.code cx n18_22 st') cx.base (codeB Try.prog E cx n18_23 st) st := GE.loop_step (by kernel_rfl)
theorem n18_21s (E : Ev) (cx : Cx) (st : St) : codeB Try.prog E cx n18_21 st = blockS 0 (codeB Try.prog E cx n18_22 st) st := GE.block_step (by kernel_rfl)
theorem n18_19s (E : Ev) (cx : Cx) (st : St) : codeB Try.prog E cx n18_19 st = thenS (codeB Try.prog E cx n18_20 st) (codeB Try.prog E cx n18_21) := GE.seq_step (by kernel_rfl)
theorem n18_41s (E : Ev) (f : FuncId) (b : Nat) (ro : Option Nat) (st : St) : codeB Try.prog E ⟨f, 83, b, ro⟩ n18_41 st = plainS (runOps Try.prog E b q18_41 (ops [true, true, true, true, false, false] Try.f18) st) := GE.region_step (id := 10) (by kernel_rfl) (by kernel_rfl)
theorem n18_46s (E : Ev) (f : FuncId) (b : Nat) (ro : Option Nat) (st : St) : codeB Try.prog E ⟨f, 83, b, ro⟩ n18_46 st = plainS (runOps Try.prog E b q18_46 (ops [true, true, true, true, false, true, false, false, false, false] Try.f18) st) := GE.region_step (id := 11) (by kernel_rfl) (by kernel_rfl)
theorem n18_48s (E : Ev) (cx : Cx) (st : St) : codeB Try.prog E cx n18_48 st = some (.normal, st) := GE.skip_step (by kernel_rfl)
theorem n18_49s (E : Ev) (cx : Cx) (st : St) : codeB Try.prog E cx n18_49 st = some (.exit 2, st) := GE.exit_step (by kernel_rfl)
theorem n18_47s (E : Ev) (cx : Cx) (st : St) : codeB Try.prog E cx n18_47 st = condS (codeB Try.prog E cx n18_48) (codeB Try.prog E cx n18_49) (lk st.σ 48) st := GE.cond_step (c := .tmp 48) (by kernel_rfl)
theorem n18_45s (E : Ev) (cx : Cx) (st : St) : codeB Try.prog E cx n18_45 st = thenS (codeB Try.prog E cx n18_46 st) (codeB Try.prog E cx n18_47) := GE.seq_step (by kernel_rfl)
theorem n18_53s (E : Ev) (f : FuncId) (b : Nat) (ro : Option Nat) (st : St) : codeB Try.prog E ⟨f, 83, b, ro⟩ n18_53 st = plainS (runOps Try.prog E b q18_53 (ops [true, true, true, true, false, true, false, false, true, false, false, false] Try.f18) st) := GE.region_step (id := 13) (by kernel_rfl) (by kernel_rfl)
theorem n18_58s (E : Ev) (f : FuncId) (b : Nat) (ro : Option Nat) (st : St) : codeB Try.prog E ⟨f, 83, b, ro⟩ n18_58 st = plainS (runOps Try.prog E b q18_58 (ops [true, true, true, true, false, true, false, false, true, false, false, true, false, false, false, false] Try.f18) st) := GE.region_step (id := 14) (by kernel_rfl) (by kernel_rfl)
theorem n18_60s (E : Ev) (cx : Cx) (st : St) : codeB Try.prog E cx n18_60 st = some (.normal, st) := GE.skip_step (by kernel_rfl)
theorem n18_61s (E : Ev) (cx : Cx) (st : St) : codeB Try.prog E cx n18_61 st = some (.exit 4, st) := GE.exit_step (by kernel_rfl)
theorem n18_59s (E : Ev) (cx : Cx) (st : St) : codeB Try.prog E cx n18_59 st = condS (codeB Try.prog E cx n18_60) (codeB Try.prog E cx n18_61) (lk st.σ 54) st := GE.cond_step (c := .tmp 54) (by kernel_rfl)
theorem n18_57s (E : Ev) (cx : Cx) (st : St) : codeB Try.prog E cx n18_57 st = thenS (codeB Try.prog E cx n18_58 st) (codeB Try.prog E cx n18_59) := GE.seq_step (by kernel_rfl)
theorem q18_65g2 : gd q18_65 2 = some 59 := by kernel_rfl
theorem q18_65g12 : gd q18_65 12 = some 69 := by kernel_rfl
theorem q18_65g15 : gd q18_65 15 = some 72 := by kernel_rfl
theorem n18_65s (E : Ev) (f : FuncId) (b : Nat) (ro : Option Nat) (st : St) : codeB Try.prog E ⟨f, 83, b, ro⟩ n18_65 st = plainS (runOps Try.prog E b q18_65 (ops [true, true, true, true, false, true, false, false, true, false, false, true, false, false, true, false, false, false] Try.f18) st) := GE.region_step (id := 16) (by kernel_rfl) (by kernel_rfl)
theorem n18_68s (E : Ev) (f : FuncId) (b : Nat) (ro : Option Nat) (st : St) : codeB Try.prog E ⟨f, 83, b, ro⟩ n18_68 st = plainS (runOps Try.prog E b q18_68 (ops [true, true, true, true, false, true, false, false, true, false, false, true, false, false, true, false, false, true, false, false] Try.f18) st) := GE.region_step (id := 17) (by kernel_rfl) (by kernel_rfl)
theorem n18_69s (E : Ev) (cx : Cx) (st : St) : codeB Try.prog E cx n18_69 st = some (.ret, st) := GE.ret_step (by kernel_rfl)
theorem n18_67s (E : Ev) (cx : Cx) (st : St) : codeB Try.prog E cx n18_67 st = thenS (codeB Try.prog E cx n18_68 st) (codeB Try.prog E cx n18_69) := GE.seq_step (by kernel_rfl)
theorem n18_70s (E : Ev) (cx : Cx) (st : St) : codeB Try.prog E cx n18_70 st = some (.normal, st) := GE.skip_step (by kernel_rfl)
theorem n18_66s (E : Ev) (cx : Cx) (st : St) : codeB Try.prog E cx n18_66 st = condS (codeB Try.prog E cx n18_67) (codeB Try.prog E cx n18_70) (lk st.σ 82) st := GE.cond_step (c := .tmp 82) (by kernel_rfl)
theorem n18_64s (E : Ev) (cx : Cx) (st : St) : codeB Try.prog E cx n18_64 st = thenS (codeB Try.prog E cx n18_65 st) (codeB Try.prog E cx n18_66) := GE.seq_step (by kernel_rfl)
theorem n18_63s (E : Ev) (cx : Cx) (st : St) : codeB Try.prog E cx n18_63 st = blockS 5 (codeB Try.prog E cx n18_64 st) st := GE.block_step (by kernel_rfl)
theorem n18_71s (E : Ev) (f : FuncId) (b : Nat) (ro : Option Nat) (st : St) : codeB Try.prog E ⟨f, 83, b, ro⟩ n18_71 st = plainS (runOps Try.prog E b q18_71 (ops [true, true, true, true, false, true, false, false, true, false, false, true, false, false, true, true] Try.f18) st) := GE.region_step (id := 15) (by kernel_rfl) (by kernel_rfl)
theorem n18_62s (E : Ev) (cx : Cx) (st : St) : codeB Try.prog E cx n18_62 st = thenS (codeB Try.prog E cx n18_63 st) (codeB Try.prog E cx n18_71) := GE.seq_step (by kernel_rfl)
theorem n18_56s (E : Ev) (cx : Cx) (st : St) : codeB Try.prog E cx n18_56 st = thenS (codeB Try.prog E cx n18_57 st) (codeB Try.prog E cx n18_62) := GE.seq_step (by kernel_rfl)
theorem n18_55s (E : Ev) (cx : Cx) (st : St) : codeB Try.prog E cx n18_55 st = loopS (fun st' => E.code cx n18_55 st') cx.base (codeB Try.prog E cx n18_56 st) st := GE.loop_step (by kernel_rfl)
theorem n18_54s (E : Ev) (cx : Cx) (st : St) : codeB Try.prog E cx n18_54 st = blockS 4 (codeB Try.prog E cx n18_55 st) st := GE.block_step (by kernel_rfl)
theorem n18_52s (E : Ev) (cx : Cx) (st : St) : codeB Try.prog E cx n18_52 st = thenS (codeB Try.prog E cx n18_53 st) (codeB Try.prog E cx n18_54) := GE.seq_step (by kernel_rfl)
theorem n18_51s (E : Ev) (cx : Cx) (st : St) : codeB Try.prog E cx n18_51 st = blockS 3 (codeB Try.prog E cx n18_52 st) st := GE.block_step (by kernel_rfl)
theorem n18_72s (E : Ev) (f : FuncId) (b : Nat) (ro : Option Nat) (st : St) : codeB Try.prog E ⟨f, 83, b, ro⟩ n18_72 st = plainS (runOps Try.prog E b q18_72 (ops [true, true, true, true, false, true, false, false, true, true] Try.f18) st) := GE.region_step (id := 12) (by kernel_rfl) (by kernel_rfl)
theorem n18_50s (E : Ev) (cx : Cx) (st : St) : codeB Try.prog E cx n18_50 st = thenS (codeB Try.prog E cx n18_51 st) (codeB Try.prog E cx n18_72) := GE.seq_step (by kernel_rfl)
theorem n18_44s (E : Ev) (cx : Cx) (st : St) : codeB Try.prog E cx n18_44 st = thenS (codeB Try.prog E cx n18_45 st) (codeB Try.prog E cx n18_50) := GE.seq_step (by kernel_rfl)
theorem n18_43s (E : Ev) (cx : Cx) (st : St) : codeB Try.prog E cx n18_43 st = loopS (fun st' => E.code cx n18_43 st') cx.base (codeB Try.prog E cx n18_44 st) st := GE.loop_step (by kernel_rfl)
theorem n18_42s (E : Ev) (cx : Cx) (st : St) : codeB Try.prog E cx n18_42 st = blockS 2 (codeB Try.prog E cx n18_43 st) st := GE.block_step (by kernel_rfl)
theorem n18_40s (E : Ev) (cx : Cx) (st : St) : codeB Try.prog E cx n18_40 st = thenS (codeB Try.prog E cx n18_41 st) (codeB Try.prog E cx n18_42) := GE.seq_step (by kernel_rfl)
theorem n18_74s (E : Ev) (f : FuncId) (b : Nat) (ro : Option Nat) (st : St) : codeB Try.prog E ⟨f, 83, b, ro⟩ n18_74 st = plainS (runOps Try.prog E b q18_74 (ops [true, true, true, true, true, false] Try.f18) st) := GE.region_step (id := 18) (by kernel_rfl) (by kernel_rfl)
theorem n18_75s (E : Ev) (cx : Cx) (st : St) : codeB Try.prog E cx n18_75 st = some (.ret, st) := GE.ret_step (by kernel_rfl)
theorem n18_73s (E : Ev) (cx : Cx) (st : St) : codeB Try.prog E cx n18_73 st = thenS (codeB Try.prog E cx n18_74 st) (codeB Try.prog E cx n18_75) := GE.seq_step (by kernel_rfl)
theorem n18_39s (E : Ev) (cx : Cx) (st : St) : codeB Try.prog E cx n18_39 st = thenS (codeB Try.prog E cx n18_40 st) (codeB Try.prog E cx n18_73) := GE.seq_step (by kernel_rfl)
theorem n18_18s (E : Ev) (cx : Cx) (st : St) : codeB Try.prog E cx n18_18 st = thenS (codeB Try.prog E cx n18_19 st) (codeB Try.prog E cx n18_39) := GE.seq_step (by kernel_rfl)
theorem n18_10s (E : Ev) (cx : Cx) (st : St) : codeB Try.prog E cx n18_10 st = thenS (codeB Try.prog E cx n18_11 st) (codeB Try.prog E cx n18_18) := GE.seq_step (by kernel_rfl)
theorem n18_2s (E : Ev) (cx : Cx) (st : St) : codeB Try.prog E cx n18_2 st = thenS (codeB Try.prog E cx n18_3 st) (codeB Try.prog E cx n18_10) := GE.seq_step (by kernel_rfl)
theorem n18_0s (E : Ev) (cx : Cx) (st : St) : codeB Try.prog E cx n18_0 st = thenS (codeB Try.prog E cx n18_1 st) (codeB Try.prog E cx n18_2) := GE.seq_step (by kernel_rfl)
noncomputable def n16_0 : Code := sub [] (bodyOf Try.f16)
noncomputable def n16_1 : Code := sub [false] (bodyOf Try.f16)
noncomputable def q16_1 : List Oper := ops [false] Try.f16
noncomputable def n16_2 : Code := sub [true] (bodyOf Try.f16)
noncomputable def n16_3 : Code := sub [true, false] (bodyOf Try.f16)
noncomputable def n16_4 : Code := sub [true, false, false] (bodyOf Try.f16)
noncomputable def q16_4 : List Oper := ops [true, false, false] Try.f16
noncomputable def n16_5 : Code := sub [true, false, true] (bodyOf Try.f16)
noncomputable def n16_6 : Code := sub [true, false, true, false] (bodyOf Try.f16)
noncomputable def n16_7 : Code := sub [true, false, true, false, false] (bodyOf Try.f16)
noncomputable def q16_7 : List Oper := ops [true, false, true, false, false] Try.f16
noncomputable def n16_8 : Code := sub [true, false, true, false, true] (bodyOf Try.f16)
noncomputable def n16_9 : Code := sub [true, false, true, true] (bodyOf Try.f16)
noncomputable def n16_10 : Code := sub [true, true] (bodyOf Try.f16)
noncomputable def n16_11 : Code := sub [true, true, false] (bodyOf Try.f16)
noncomputable def q16_11 : List Oper := ops [true, true, false] Try.f16
noncomputable def n16_12 : Code := sub [true, true, true] (bodyOf Try.f16)
noncomputable def n16_13 : Code := sub [true, true, true, false] (bodyOf Try.f16)
noncomputable def n16_14 : Code := sub [true, true, true, false, false] (bodyOf Try.f16)
noncomputable def q16_14 : List Oper := ops [true, true, true, false, false] Try.f16
noncomputable def n16_15 : Code := sub [true, true, true, false, true] (bodyOf Try.f16)
noncomputable def n16_16 : Code := sub [true, true, true, false, true, false] (bodyOf Try.f16)
noncomputable def n16_17 : Code := sub [true, true, true, false, true, false, false] (bodyOf Try.f16)
noncomputable def q16_17 : List Oper := ops [true, true, true, false, true, false, false] Try.f16
noncomputable def n16_18 : Code := sub [true, true, true, false, true, false, true] (bodyOf Try.f16)
noncomputable def n16_19 : Code := sub [true, true, true, false, true, true] (bodyOf Try.f16)
noncomputable def n16_20 : Code := sub [true, true, true, true] (bodyOf Try.f16)
noncomputable def n16_21 : Code := sub [true, true, true, true, false] (bodyOf Try.f16)
noncomputable def q16_21 : List Oper := ops [true, true, true, true, false] Try.f16
noncomputable def n16_22 : Code := sub [true, true, true, true, true] (bodyOf Try.f16)
theorem body16 : Try.f16.body = some n16_0 := by kernel_rfl
theorem run16 (E : Ev) (args : List Value) (h : List Blk) (hl : args.length ≤ 21) : runB Try.prog E 16 args h = endS Try.prog [.tmp 4, .tmp 5] h.length (codeB Try.prog E ⟨16, 21, h.length, none⟩ n16_0 ⟨enumT 0 args, h, []⟩) := GE.run_step Try.func16 body16 (by kernel_rfl) (by decide) (by kernel_rfl) hl
theorem n16_1s (E : Ev) (f : FuncId) (b : Nat) (ro : Option Nat) (st : St) : codeB Try.prog E ⟨f, 21, b, ro⟩ n16_1 st = plainS (runOps Try.prog E b q16_1 (ops [false] Try.f16) st) := GE.region_step (id := 0) (by kernel_rfl) (by kernel_rfl)
theorem q16_4g3 : gd q16_4 3 = some 10 := by kernel_rfl
theorem n16_4s (E : Ev) (f : FuncId) (b : Nat) (ro : Option Nat) (st : St) : codeB Try.prog E ⟨f, 21, b, ro⟩ n16_4 st = plainS (runOps Try.prog E b q16_4 (ops [true, false, false] Try.f16) st) := GE.region_step (id := 1) (by kernel_rfl) (by kernel_rfl)
theorem n16_7s (E : Ev) (f : FuncId) (b : Nat) (ro : Option Nat) (st : St) : codeB Try.prog E ⟨f, 21, b, ro⟩ n16_7 st = plainS (runOps Try.prog E b q16_7 (ops [true, false, true, false, false] Try.f16) st) := GE.region_step (id := 2) (by kernel_rfl) (by kernel_rfl)
theorem n16_8s (E : Ev) (cx : Cx) (st : St) : codeB Try.prog E cx n16_8 st = some (.ret, st) := GE.ret_step (by kernel_rfl)
theorem n16_6s (E : Ev) (cx : Cx) (st : St) : codeB Try.prog E cx n16_6 st = thenS (codeB Try.prog E cx n16_7 st) (codeB Try.prog E cx n16_8) := GE.seq_step (by kernel_rfl)
theorem n16_9s (E : Ev) (cx : Cx) (st : St) : codeB Try.prog E cx n16_9 st = some (.normal, st) := GE.skip_step (by kernel_rfl)
theorem n16_5s (E : Ev) (cx : Cx) (st : St) : codeB Try.prog E cx n16_5 st = condS (codeB Try.prog E cx n16_6) (codeB Try.prog E cx n16_9) (lk st.σ 14) st := GE.cond_step (c := .tmp 14) (by kernel_rfl)
theorem n16_3s (E : Ev) (cx : Cx) (st : St) : codeB Try.prog E cx n16_3 st = thenS (codeB Try.prog E cx n16_4 st) (codeB Try.prog E cx n16_5) := GE.seq_step (by kernel_rfl)
theorem n16_11s (E : Ev) (f : FuncId) (b : Nat) (ro : Option Nat) (st : St) : codeB Try.prog E ⟨f, 21, b, ro⟩ n16_11 st = plainS (runOps Try.prog E b q16_11 (ops [true, true, false] Try.f16) st) := GE.region_step (id := 3) (by kernel_rfl) (by kernel_rfl)
theorem n16_14s (E : Ev) (f : FuncId) (b : Nat) (ro : Option Nat) (st : St) : codeB Try.prog E ⟨f, 21, b, ro⟩ n16_14 st = plainS (runOps Try.prog E b q16_14 (ops [true, true, true, false, false] Try.f16) st) := GE.region_step (id := 4) (by kernel_rfl) (by kernel_rfl)
theorem n16_17s (E : Ev) (f : FuncId) (b : Nat) (ro : Option Nat) (st : St) : codeB Try.prog E ⟨f, 21, b, ro⟩ n16_17 st = plainS (runOps Try.prog E b q16_17 (ops [true, true, true, false, true, false, false] Try.f16) st) := GE.region_step (id := 5) (by kernel_rfl) (by kernel_rfl)
theorem n16_18s (E : Ev) (cx : Cx) (st : St) : codeB Try.prog E cx n16_18 st = some (.ret, st) := GE.ret_step (by kernel_rfl)
theorem n16_16s (E : Ev) (cx : Cx) (st : St) : codeB Try.prog E cx n16_16 st = thenS (codeB Try.prog E cx n16_17 st) (codeB Try.prog E cx n16_18) := GE.seq_step (by kernel_rfl)
theorem n16_19s (E : Ev) (cx : Cx) (st : St) : codeB Try.prog E cx n16_19 st = some (.normal, st) := GE.skip_step (by kernel_rfl)
theorem n16_15s (E : Ev) (cx : Cx) (st : St) : codeB Try.prog E cx n16_15 st = condS (codeB Try.prog E cx n16_16) (codeB Try.prog E cx n16_19) (lk st.σ 19) st := GE.cond_step (c := .tmp 19) (by kernel_rfl)
theorem n16_13s (E : Ev) (cx : Cx) (st : St) : codeB Try.prog E cx n16_13 st = thenS (codeB Try.prog E cx n16_14 st) (codeB Try.prog E cx n16_15) := GE.seq_step (by kernel_rfl)
theorem n16_21s (E : Ev) (f : FuncId) (b : Nat) (ro : Option Nat) (st : St) : codeB Try.prog E ⟨f, 21, b, ro⟩ n16_21 st = plainS (runOps Try.prog E b q16_21 (ops [true, true, true, true, false] Try.f16) st) := GE.region_step (id := 6) (by kernel_rfl) (by kernel_rfl)
theorem n16_22s (E : Ev) (cx : Cx) (st : St) : codeB Try.prog E cx n16_22 st = some (.ret, st) := GE.ret_step (by kernel_rfl)
theorem n16_20s (E : Ev) (cx : Cx) (st : St) : codeB Try.prog E cx n16_20 st = thenS (codeB Try.prog E cx n16_21 st) (codeB Try.prog E cx n16_22) := GE.seq_step (by kernel_rfl)
theorem n16_12s (E : Ev) (cx : Cx) (st : St) : codeB Try.prog E cx n16_12 st = thenS (codeB Try.prog E cx n16_13 st) (codeB Try.prog E cx n16_20) := GE.seq_step (by kernel_rfl)
theorem n16_10s (E : Ev) (cx : Cx) (st : St) : codeB Try.prog E cx n16_10 st = thenS (codeB Try.prog E cx n16_11 st) (codeB Try.prog E cx n16_12) := GE.seq_step (by kernel_rfl)
theorem n16_2s (E : Ev) (cx : Cx) (st : St) : codeB Try.prog E cx n16_2 st = thenS (codeB Try.prog E cx n16_3 st) (codeB Try.prog E cx n16_10) := GE.seq_step (by kernel_rfl)
theorem n16_0s (E : Ev) (cx : Cx) (st : St) : codeB Try.prog E cx n16_0 st = thenS (codeB Try.prog E cx n16_1 st) (codeB Try.prog E cx n16_2) := GE.seq_step (by kernel_rfl)
noncomputable def n15_0 : Code := sub [] (bodyOf Try.f15)
noncomputable def n15_1 : Code := sub [false] (bodyOf Try.f15)
noncomputable def q15_1 : List Oper := ops [false] Try.f15
noncomputable def n15_2 : Code := sub [true] (bodyOf Try.f15)
noncomputable def n15_3 : Code := sub [true, false] (bodyOf Try.f15)
noncomputable def n15_4 : Code := sub [true, false, false] (bodyOf Try.f15)
noncomputable def q15_4 : List Oper := ops [true, false, false] Try.f15
noncomputable def n15_5 : Code := sub [true, false, true] (bodyOf Try.f15)
noncomputable def n15_6 : Code := sub [true, false, true, false] (bodyOf Try.f15)
noncomputable def n15_7 : Code := sub [true, false, true, false, false] (bodyOf Try.f15)
noncomputable def q15_7 : List Oper := ops [true, false, true, false, false] Try.f15
noncomputable def n15_8 : Code := sub [true, false, true, false, true] (bodyOf Try.f15)
noncomputable def n15_9 : Code := sub [true, false, true, true] (bodyOf Try.f15)
noncomputable def n15_10 : Code := sub [true, true] (bodyOf Try.f15)
noncomputable def n15_11 : Code := sub [true, true, false] (bodyOf Try.f15)
noncomputable def q15_11 : List Oper := ops [true, true, false] Try.f15
noncomputable def n15_12 : Code := sub [true, true, true] (bodyOf Try.f15)
noncomputable def n15_13 : Code := sub [true, true, true, false] (bodyOf Try.f15)
noncomputable def n15_14 : Code := sub [true, true, true, false, false] (bodyOf Try.f15)
noncomputable def q15_14 : List Oper := ops [true, true, true, false, false] Try.f15
noncomputable def n15_15 : Code := sub [true, true, true, false, true] (bodyOf Try.f15)
noncomputable def n15_16 : Code := sub [true, true, true, false, true, false] (bodyOf Try.f15)
noncomputable def n15_17 : Code := sub [true, true, true, false, true, false, false] (bodyOf Try.f15)
noncomputable def q15_17 : List Oper := ops [true, true, true, false, true, false, false] Try.f15
noncomputable def n15_18 : Code := sub [true, true, true, false, true, false, true] (bodyOf Try.f15)
noncomputable def n15_19 : Code := sub [true, true, true, false, true, true] (bodyOf Try.f15)
noncomputable def n15_20 : Code := sub [true, true, true, true] (bodyOf Try.f15)
noncomputable def n15_21 : Code := sub [true, true, true, true, false] (bodyOf Try.f15)
noncomputable def q15_21 : List Oper := ops [true, true, true, true, false] Try.f15
noncomputable def n15_22 : Code := sub [true, true, true, true, true] (bodyOf Try.f15)
theorem body15 : Try.f15.body = some n15_0 := by kernel_rfl
theorem run15 (E : Ev) (args : List Value) (h : List Blk) (hl : args.length ≤ 21) : runB Try.prog E 15 args h = endS Try.prog [.tmp 4, .tmp 5] h.length (codeB Try.prog E ⟨15, 21, h.length, none⟩ n15_0 ⟨enumT 0 args, h, []⟩) := GE.run_step Try.func15 body15 (by kernel_rfl) (by decide) (by kernel_rfl) hl
theorem n15_1s (E : Ev) (f : FuncId) (b : Nat) (ro : Option Nat) (st : St) : codeB Try.prog E ⟨f, 21, b, ro⟩ n15_1 st = plainS (runOps Try.prog E b q15_1 (ops [false] Try.f15) st) := GE.region_step (id := 0) (by kernel_rfl) (by kernel_rfl)
theorem q15_4g3 : gd q15_4 3 = some 10 := by kernel_rfl
theorem n15_4s (E : Ev) (f : FuncId) (b : Nat) (ro : Option Nat) (st : St) : codeB Try.prog E ⟨f, 21, b, ro⟩ n15_4 st = plainS (runOps Try.prog E b q15_4 (ops [true, false, false] Try.f15) st) := GE.region_step (id := 1) (by kernel_rfl) (by kernel_rfl)
theorem n15_7s (E : Ev) (f : FuncId) (b : Nat) (ro : Option Nat) (st : St) : codeB Try.prog E ⟨f, 21, b, ro⟩ n15_7 st = plainS (runOps Try.prog E b q15_7 (ops [true, false, true, false, false] Try.f15) st) := GE.region_step (id := 2) (by kernel_rfl) (by kernel_rfl)
theorem n15_8s (E : Ev) (cx : Cx) (st : St) : codeB Try.prog E cx n15_8 st = some (.ret, st) := GE.ret_step (by kernel_rfl)
theorem n15_6s (E : Ev) (cx : Cx) (st : St) : codeB Try.prog E cx n15_6 st = thenS (codeB Try.prog E cx n15_7 st) (codeB Try.prog E cx n15_8) := GE.seq_step (by kernel_rfl)
theorem n15_9s (E : Ev) (cx : Cx) (st : St) : codeB Try.prog E cx n15_9 st = some (.normal, st) := GE.skip_step (by kernel_rfl)
theorem n15_5s (E : Ev) (cx : Cx) (st : St) : codeB Try.prog E cx n15_5 st = condS (codeB Try.prog E cx n15_6) (codeB Try.prog E cx n15_9) (lk st.σ 14) st := GE.cond_step (c := .tmp 14) (by kernel_rfl)
theorem n15_3s (E : Ev) (cx : Cx) (st : St) : codeB Try.prog E cx n15_3 st = thenS (codeB Try.prog E cx n15_4 st) (codeB Try.prog E cx n15_5) := GE.seq_step (by kernel_rfl)
theorem n15_11s (E : Ev) (f : FuncId) (b : Nat) (ro : Option Nat) (st : St) : codeB Try.prog E ⟨f, 21, b, ro⟩ n15_11 st = plainS (runOps Try.prog E b q15_11 (ops [true, true, false] Try.f15) st) := GE.region_step (id := 3) (by kernel_rfl) (by kernel_rfl)
theorem n15_14s (E : Ev) (f : FuncId) (b : Nat) (ro : Option Nat) (st : St) : codeB Try.prog E ⟨f, 21, b, ro⟩ n15_14 st = plainS (runOps Try.prog E b q15_14 (ops [true, true, true, false, false] Try.f15) st) := GE.region_step (id := 4) (by kernel_rfl) (by kernel_rfl)
theorem n15_17s (E : Ev) (f : FuncId) (b : Nat) (ro : Option Nat) (st : St) : codeB Try.prog E ⟨f, 21, b, ro⟩ n15_17 st = plainS (runOps Try.prog E b q15_17 (ops [true, true, true, false, true, false, false] Try.f15) st) := GE.region_step (id := 5) (by kernel_rfl) (by kernel_rfl)
theorem n15_18s (E : Ev) (cx : Cx) (st : St) : codeB Try.prog E cx n15_18 st = some (.ret, st) := GE.ret_step (by kernel_rfl)
theorem n15_16s (E : Ev) (cx : Cx) (st : St) : codeB Try.prog E cx n15_16 st = thenS (codeB Try.prog E cx n15_17 st) (codeB Try.prog E cx n15_18) := GE.seq_step (by kernel_rfl)
theorem n15_19s (E : Ev) (cx : Cx) (st : St) : codeB Try.prog E cx n15_19 st = some (.normal, st) := GE.skip_step (by kernel_rfl)
theorem n15_15s (E : Ev) (cx : Cx) (st : St) : codeB Try.prog E cx n15_15 st = condS (codeB Try.prog E cx n15_16) (codeB Try.prog E cx n15_19) (lk st.σ 19) st := GE.cond_step (c := .tmp 19) (by kernel_rfl)
theorem n15_13s (E : Ev) (cx : Cx) (st : St) : codeB Try.prog E cx n15_13 st = thenS (codeB Try.prog E cx n15_14 st) (codeB Try.prog E cx n15_15) := GE.seq_step (by kernel_rfl)
theorem n15_21s (E : Ev) (f : FuncId) (b : Nat) (ro : Option Nat) (st : St) : codeB Try.prog E ⟨f, 21, b, ro⟩ n15_21 st = plainS (runOps Try.prog E b q15_21 (ops [true, true, true, true, false] Try.f15) st) := GE.region_step (id := 6) (by kernel_rfl) (by kernel_rfl)
theorem n15_22s (E : Ev) (cx : Cx) (st : St) : codeB Try.prog E cx n15_22 st = some (.ret, st) := GE.ret_step (by kernel_rfl)
theorem n15_20s (E : Ev) (cx : Cx) (st : St) : codeB Try.prog E cx n15_20 st = thenS (codeB Try.prog E cx n15_21 st) (codeB Try.prog E cx n15_22) := GE.seq_step (by kernel_rfl)
theorem n15_12s (E : Ev) (cx : Cx) (st : St) : codeB Try.prog E cx n15_12 st = thenS (codeB Try.prog E cx n15_13 st) (codeB Try.prog E cx n15_20) := GE.seq_step (by kernel_rfl)
theorem n15_10s (E : Ev) (cx : Cx) (st : St) : codeB Try.prog E cx n15_10 st = thenS (codeB Try.prog E cx n15_11 st) (codeB Try.prog E cx n15_12) := GE.seq_step (by kernel_rfl)
theorem n15_2s (E : Ev) (cx : Cx) (st : St) : codeB Try.prog E cx n15_2 st = thenS (codeB Try.prog E cx n15_3 st) (codeB Try.prog E cx n15_10) := GE.seq_step (by kernel_rfl)
theorem n15_0s (E : Ev) (cx : Cx) (st : St) : codeB Try.prog E cx n15_0 st = thenS (codeB Try.prog E cx n15_1 st) (codeB Try.prog E cx n15_2) := GE.seq_step (by kernel_rfl)
theorem fa_24_2 : fieldAt Try.prog 24 2 = some (2, 1) := by kernel_rfl
theorem ia_3 : aggK Try.prog 3 = some (false, 1) := by kernel_rfl
theorem fa_24_3 : fieldAt Try.prog 24 3 = some (3, 1) := by kernel_rfl
theorem ia_22 : aggK Try.prog 22 = some (false, 1) := by kernel_rfl
theorem fa_24_0 : fieldAt Try.prog 24 0 = some (0, 1) := by kernel_rfl
theorem es_22 : elemK Try.prog 22 = some (none, 1) := by kernel_rfl
theorem fa_24_1 : fieldAt Try.prog 24 1 = some (1, 1) := by kernel_rfl
theorem lk_22 : lenK Try.prog 22 = some .sl := by kernel_rfl
theorem ia_24 : aggK Try.prog 24 = some (true, 4) := by kernel_rfl
theorem ia_31 : aggK Try.prog 31 = some (true, 4) := by kernel_rfl
theorem fa_31_2 : fieldAt Try.prog 31 2 = some (2, 1) := by kernel_rfl
theorem fa_31_3 : fieldAt Try.prog 31 3 = some (3, 1) := by kernel_rfl
theorem fa_31_0 : fieldAt Try.prog 31 0 = some (0, 1) := by kernel_rfl
theorem fa_31_1 : fieldAt Try.prog 31 1 = some (1, 1) := by kernel_rfl

end Go.Proofs.Ytgpcjdhlijompaa.ore
