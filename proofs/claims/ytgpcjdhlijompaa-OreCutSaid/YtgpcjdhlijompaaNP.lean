/-
  Names for the nodes of the code of some functions (projections of their bodies), the step of each node, and the facts of types that they use.
-/
import Derived.Test.YtgpcjdhlijompaaRows
import Derived.Test.YtgpcjdhlijompaaE32
namespace Go.Proofs.Ytgpcjdhlijompaa.ore
open Go.GE
set_option maxRecDepth 100000
noncomputable def n36_0 : Code := sub [] (bodyOf Try.f36)
noncomputable def n36_1 : Code := sub [false] (bodyOf Try.f36)
noncomputable def q36_1 : List Oper := ops [false] Try.f36
noncomputable def n36_2 : Code := sub [true] (bodyOf Try.f36)
noncomputable def n36_3 : Code := sub [true, false] (bodyOf Try.f36)
noncomputable def q36_3 : List Oper := ops [true, false] Try.f36
noncomputable def n36_4 : Code := sub [true, true] (bodyOf Try.f36)
theorem body36 : Try.f36.body = some n36_0 := by kernel_rfl
theorem run36 (E : Ev) (args : List Value) (h : List Blk) (hl : args.length ≤ 15) : runB Try.prog E 36 args h = endS Try.prog [.tmp 6] h.length (codeB Try.prog E ⟨36, 15, h.length, none⟩ n36_0 ⟨enumT 0 args, h, []⟩) := GE.run_step Try.func36 body36 (by kernel_rfl) (by decide) (by kernel_rfl) hl
theorem n36_1s (E : Ev) (f : FuncId) (b : Nat) (ro : Option Nat) (st : St) : codeB Try.prog E ⟨f, 15, b, ro⟩ n36_1 st = plainS (runOps Try.prog E b q36_1 (ops [false] Try.f36) st) := GE.region_step (id := 0) (by kernel_rfl) (by kernel_rfl)
theorem q36_3g3 : gd q36_3 3 = some 10 := by kernel_rfl
theorem n36_3s (E : Ev) (f : FuncId) (b : Nat) (ro : Option Nat) (st : St) : codeB Try.prog E ⟨f, 15, b, ro⟩ n36_3 st = plainS (runOps Try.prog E b q36_3 (ops [true, false] Try.f36) st) := GE.region_step (id := 1) (by kernel_rfl) (by kernel_rfl)
theorem n36_4s (E : Ev) (cx : Cx) (st : St) : codeB Try.prog E cx n36_4 st = some (.ret, st) := GE.ret_step (by kernel_rfl)
theorem n36_2s (E : Ev) (cx : Cx) (st : St) : codeB Try.prog E cx n36_2 st = thenS (codeB Try.prog E cx n36_3 st) (codeB Try.prog E cx n36_4) := GE.seq_step (by kernel_rfl)
theorem n36_0s (E : Ev) (cx : Cx) (st : St) : codeB Try.prog E cx n36_0 st = thenS (codeB Try.prog E cx n36_1 st) (codeB Try.prog E cx n36_2) := GE.seq_step (by kernel_rfl)
noncomputable def n51_0 : Code := sub [] (bodyOf Try.f51)
noncomputable def n51_1 : Code := sub [false] (bodyOf Try.f51)
noncomputable def q51_1 : List Oper := ops [false] Try.f51
noncomputable def n51_2 : Code := sub [true] (bodyOf Try.f51)
noncomputable def n51_3 : Code := sub [true, false] (bodyOf Try.f51)
noncomputable def q51_3 : List Oper := ops [true, false] Try.f51
noncomputable def n51_4 : Code := sub [true, true] (bodyOf Try.f51)
theorem body51 : Try.f51.body = some n51_0 := by kernel_rfl
theorem run51 (E : Ev) (args : List Value) (h : List Blk) (hl : args.length ≤ 15) : runB Try.prog E 51 args h = endS Try.prog [.tmp 6] h.length (codeB Try.prog E ⟨51, 15, h.length, none⟩ n51_0 ⟨enumT 0 args, h, []⟩) := GE.run_step Try.func51 body51 (by kernel_rfl) (by decide) (by kernel_rfl) hl
theorem n51_1s (E : Ev) (f : FuncId) (b : Nat) (ro : Option Nat) (st : St) : codeB Try.prog E ⟨f, 15, b, ro⟩ n51_1 st = plainS (runOps Try.prog E b q51_1 (ops [false] Try.f51) st) := GE.region_step (id := 0) (by kernel_rfl) (by kernel_rfl)
theorem q51_3g3 : gd q51_3 3 = some 10 := by kernel_rfl
theorem n51_3s (E : Ev) (f : FuncId) (b : Nat) (ro : Option Nat) (st : St) : codeB Try.prog E ⟨f, 15, b, ro⟩ n51_3 st = plainS (runOps Try.prog E b q51_3 (ops [true, false] Try.f51) st) := GE.region_step (id := 1) (by kernel_rfl) (by kernel_rfl)
theorem n51_4s (E : Ev) (cx : Cx) (st : St) : codeB Try.prog E cx n51_4 st = some (.ret, st) := GE.ret_step (by kernel_rfl)
theorem n51_2s (E : Ev) (cx : Cx) (st : St) : codeB Try.prog E cx n51_2 st = thenS (codeB Try.prog E cx n51_3 st) (codeB Try.prog E cx n51_4) := GE.seq_step (by kernel_rfl)
theorem n51_0s (E : Ev) (cx : Cx) (st : St) : codeB Try.prog E cx n51_0 st = thenS (codeB Try.prog E cx n51_1 st) (codeB Try.prog E cx n51_2) := GE.seq_step (by kernel_rfl)
noncomputable def n38_0 : Code := sub [] (bodyOf Try.f38)
noncomputable def n38_1 : Code := sub [false] (bodyOf Try.f38)
noncomputable def q38_1 : List Oper := ops [false] Try.f38
noncomputable def n38_2 : Code := sub [true] (bodyOf Try.f38)
noncomputable def n38_3 : Code := sub [true, false] (bodyOf Try.f38)
noncomputable def q38_3 : List Oper := ops [true, false] Try.f38
noncomputable def n38_4 : Code := sub [true, true] (bodyOf Try.f38)
theorem body38 : Try.f38.body = some n38_0 := by kernel_rfl
theorem run38 (E : Ev) (args : List Value) (h : List Blk) (hl : args.length ≤ 11) : runB Try.prog E 38 args h = endS Try.prog [.tmp 6] h.length (codeB Try.prog E ⟨38, 11, h.length, none⟩ n38_0 ⟨enumT 0 args, h, []⟩) := GE.run_step Try.func38 body38 (by kernel_rfl) (by decide) (by kernel_rfl) hl
theorem n38_1s (E : Ev) (f : FuncId) (b : Nat) (ro : Option Nat) (st : St) : codeB Try.prog E ⟨f, 11, b, ro⟩ n38_1 st = plainS (runOps Try.prog E b q38_1 (ops [false] Try.f38) st) := GE.region_step (id := 0) (by kernel_rfl) (by kernel_rfl)
theorem n38_3s (E : Ev) (f : FuncId) (b : Nat) (ro : Option Nat) (st : St) : codeB Try.prog E ⟨f, 11, b, ro⟩ n38_3 st = plainS (runOps Try.prog E b q38_3 (ops [true, false] Try.f38) st) := GE.region_step (id := 1) (by kernel_rfl) (by kernel_rfl)
theorem n38_4s (E : Ev) (cx : Cx) (st : St) : codeB Try.prog E cx n38_4 st = some (.ret, st) := GE.ret_step (by kernel_rfl)
theorem n38_2s (E : Ev) (cx : Cx) (st : St) : codeB Try.prog E cx n38_2 st = thenS (codeB Try.prog E cx n38_3 st) (codeB Try.prog E cx n38_4) := GE.seq_step (by kernel_rfl)
theorem n38_0s (E : Ev) (cx : Cx) (st : St) : codeB Try.prog E cx n38_0 st = thenS (codeB Try.prog E cx n38_1 st) (codeB Try.prog E cx n38_2) := GE.seq_step (by kernel_rfl)
noncomputable def n47_0 : Code := sub [] (bodyOf Try.f47)
noncomputable def n47_1 : Code := sub [false] (bodyOf Try.f47)
noncomputable def q47_1 : List Oper := ops [false] Try.f47
noncomputable def n47_2 : Code := sub [true] (bodyOf Try.f47)
noncomputable def n47_3 : Code := sub [true, false] (bodyOf Try.f47)
noncomputable def q47_3 : List Oper := ops [true, false] Try.f47
noncomputable def n47_4 : Code := sub [true, true] (bodyOf Try.f47)
theorem body47 : Try.f47.body = some n47_0 := by kernel_rfl
theorem run47 (E : Ev) (args : List Value) (h : List Blk) (hl : args.length ≤ 11) : runB Try.prog E 47 args h = endS Try.prog [.tmp 4] h.length (codeB Try.prog E ⟨47, 11, h.length, none⟩ n47_0 ⟨enumT 0 args, h, []⟩) := GE.run_step Try.func47 body47 (by kernel_rfl) (by decide) (by kernel_rfl) hl
theorem n47_1s (E : Ev) (f : FuncId) (b : Nat) (ro : Option Nat) (st : St) : codeB Try.prog E ⟨f, 11, b, ro⟩ n47_1 st = plainS (runOps Try.prog E b q47_1 (ops [false] Try.f47) st) := GE.region_step (id := 0) (by kernel_rfl) (by kernel_rfl)
theorem q47_3g2 : gd q47_3 2 = some 7 := by kernel_rfl
theorem n47_3s (E : Ev) (f : FuncId) (b : Nat) (ro : Option Nat) (st : St) : codeB Try.prog E ⟨f, 11, b, ro⟩ n47_3 st = plainS (runOps Try.prog E b q47_3 (ops [true, false] Try.f47) st) := GE.region_step (id := 1) (by kernel_rfl) (by kernel_rfl)
theorem n47_4s (E : Ev) (cx : Cx) (st : St) : codeB Try.prog E cx n47_4 st = some (.ret, st) := GE.ret_step (by kernel_rfl)
theorem n47_2s (E : Ev) (cx : Cx) (st : St) : codeB Try.prog E cx n47_2 st = thenS (codeB Try.prog E cx n47_3 st) (codeB Try.prog E cx n47_4) := GE.seq_step (by kernel_rfl)
theorem n47_0s (E : Ev) (cx : Cx) (st : St) : codeB Try.prog E cx n47_0 st = thenS (codeB Try.prog E cx n47_1 st) (codeB Try.prog E cx n47_2) := GE.seq_step (by kernel_rfl)
noncomputable def n48_0 : Code := sub [] (bodyOf Try.f48)
noncomputable def n48_1 : Code := sub [false] (bodyOf Try.f48)
noncomputable def q48_1 : List Oper := ops [false] Try.f48
noncomputable def n48_2 : Code := sub [true] (bodyOf Try.f48)
noncomputable def n48_3 : Code := sub [true, false] (bodyOf Try.f48)
noncomputable def q48_3 : List Oper := ops [true, false] Try.f48
noncomputable def n48_4 : Code := sub [true, true] (bodyOf Try.f48)
noncomputable def n48_5 : Code := sub [true, true, false] (bodyOf Try.f48)
noncomputable def q48_5 : List Oper := ops [true, true, false] Try.f48
noncomputable def n48_6 : Code := sub [true, true, true] (bodyOf Try.f48)
noncomputable def n48_7 : Code := sub [true, true, true, false] (bodyOf Try.f48)
noncomputable def q48_7 : List Oper := ops [true, true, true, false] Try.f48
noncomputable def n48_8 : Code := sub [true, true, true, true] (bodyOf Try.f48)
noncomputable def n48_9 : Code := sub [true, true, true, true, false] (bodyOf Try.f48)
noncomputable def q48_9 : List Oper := ops [true, true, true, true, false] Try.f48
noncomputable def n48_10 : Code := sub [true, true, true, true, true] (bodyOf Try.f48)
noncomputable def n48_11 : Code := sub [true, true, true, true, true, false] (bodyOf Try.f48)
noncomputable def q48_11 : List Oper := ops [true, true, true, true, true, false] Try.f48
noncomputable def n48_12 : Code := sub [true, true, true, true, true, true] (bodyOf Try.f48)
theorem body48 : Try.f48.body = some n48_0 := by kernel_rfl
theorem run48 (E : Ev) (args : List Value) (h : List Blk) (hl : args.length ≤ 16) : runB Try.prog E 48 args h = endS Try.prog [.tmp 4] h.length (codeB Try.prog E ⟨48, 16, h.length, none⟩ n48_0 ⟨enumT 0 args, h, []⟩) := GE.run_step Try.func48 body48 (by kernel_rfl) (by decide) (by kernel_rfl) hl
theorem n48_1s (E : Ev) (f : FuncId) (b : Nat) (ro : Option Nat) (st : St) : codeB Try.prog E ⟨f, 16, b, ro⟩ n48_1 st = plainS (runOps Try.prog E b q48_1 (ops [false] Try.f48) st) := GE.region_step (id := 0) (by kernel_rfl) (by kernel_rfl)
theorem n48_3s (E : Ev) (f : FuncId) (b : Nat) (ro : Option Nat) (st : St) : codeB Try.prog E ⟨f, 16, b, ro⟩ n48_3 st = plainS (runOps Try.prog E b q48_3 (ops [true, false] Try.f48) st) := GE.region_step (id := 1) (by kernel_rfl) (by kernel_rfl)
theorem n48_5s (E : Ev) (f : FuncId) (b : Nat) (ro : Option Nat) (st : St) : codeB Try.prog E ⟨f, 16, b, ro⟩ n48_5 st = plainS (runOps Try.prog E b q48_5 (ops [true, true, false] Try.f48) st) := GE.region_step (id := 2) (by kernel_rfl) (by kernel_rfl)
theorem n48_7s (E : Ev) (f : FuncId) (b : Nat) (ro : Option Nat) (st : St) : codeB Try.prog E ⟨f, 16, b, ro⟩ n48_7 st = plainS (runOps Try.prog E b q48_7 (ops [true, true, true, false] Try.f48) st) := GE.region_step (id := 3) (by kernel_rfl) (by kernel_rfl)
theorem n48_9s (E : Ev) (f : FuncId) (b : Nat) (ro : Option Nat) (st : St) : codeB Try.prog E ⟨f, 16, b, ro⟩ n48_9 st = plainS (runOps Try.prog E b q48_9 (ops [true, true, true, true, false] Try.f48) st) := GE.region_step (id := 4) (by kernel_rfl) (by kernel_rfl)
theorem n48_11s (E : Ev) (f : FuncId) (b : Nat) (ro : Option Nat) (st : St) : codeB Try.prog E ⟨f, 16, b, ro⟩ n48_11 st = plainS (runOps Try.prog E b q48_11 (ops [true, true, true, true, true, false] Try.f48) st) := GE.region_step (id := 5) (by kernel_rfl) (by kernel_rfl)
theorem n48_12s (E : Ev) (cx : Cx) (st : St) : codeB Try.prog E cx n48_12 st = some (.ret, st) := GE.ret_step (by kernel_rfl)
theorem n48_10s (E : Ev) (cx : Cx) (st : St) : codeB Try.prog E cx n48_10 st = thenS (codeB Try.prog E cx n48_11 st) (codeB Try.prog E cx n48_12) := GE.seq_step (by kernel_rfl)
theorem n48_8s (E : Ev) (cx : Cx) (st : St) : codeB Try.prog E cx n48_8 st = thenS (codeB Try.prog E cx n48_9 st) (codeB Try.prog E cx n48_10) := GE.seq_step (by kernel_rfl)
theorem n48_6s (E : Ev) (cx : Cx) (st : St) : codeB Try.prog E cx n48_6 st = thenS (codeB Try.prog E cx n48_7 st) (codeB Try.prog E cx n48_8) := GE.seq_step (by kernel_rfl)
theorem n48_4s (E : Ev) (cx : Cx) (st : St) : codeB Try.prog E cx n48_4 st = thenS (codeB Try.prog E cx n48_5 st) (codeB Try.prog E cx n48_6) := GE.seq_step (by kernel_rfl)
theorem n48_2s (E : Ev) (cx : Cx) (st : St) : codeB Try.prog E cx n48_2 st = thenS (codeB Try.prog E cx n48_3 st) (codeB Try.prog E cx n48_4) := GE.seq_step (by kernel_rfl)
theorem n48_0s (E : Ev) (cx : Cx) (st : St) : codeB Try.prog E cx n48_0 st = thenS (codeB Try.prog E cx n48_1 st) (codeB Try.prog E cx n48_2) := GE.seq_step (by kernel_rfl)
noncomputable def n54_0 : Code := sub [] (bodyOf Try.f54)
noncomputable def n54_1 : Code := sub [false] (bodyOf Try.f54)
noncomputable def q54_1 : List Oper := ops [false] Try.f54
noncomputable def n54_2 : Code := sub [true] (bodyOf Try.f54)
noncomputable def n54_3 : Code := sub [true, false] (bodyOf Try.f54)
noncomputable def n54_4 : Code := sub [true, false, false] (bodyOf Try.f54)
noncomputable def q54_4 : List Oper := ops [true, false, false] Try.f54
noncomputable def n54_5 : Code := sub [true, false, true] (bodyOf Try.f54)
noncomputable def n54_6 : Code := sub [true, false, true, false] (bodyOf Try.f54)
noncomputable def n54_7 : Code := sub [true, false, true, false, false] (bodyOf Try.f54)
noncomputable def q54_7 : List Oper := ops [true, false, true, false, false] Try.f54
noncomputable def n54_8 : Code := sub [true, false, true, false, true] (bodyOf Try.f54)
noncomputable def n54_9 : Code := sub [true, false, true, true] (bodyOf Try.f54)
noncomputable def n54_10 : Code := sub [true, true] (bodyOf Try.f54)
noncomputable def n54_11 : Code := sub [true, true, false] (bodyOf Try.f54)
noncomputable def q54_11 : List Oper := ops [true, true, false] Try.f54
noncomputable def n54_12 : Code := sub [true, true, true] (bodyOf Try.f54)
noncomputable def n54_13 : Code := sub [true, true, true, false] (bodyOf Try.f54)
noncomputable def q54_13 : List Oper := ops [true, true, true, false] Try.f54
noncomputable def n54_14 : Code := sub [true, true, true, true] (bodyOf Try.f54)
noncomputable def n54_15 : Code := sub [true, true, true, true, false] (bodyOf Try.f54)
noncomputable def n54_16 : Code := sub [true, true, true, true, false, false] (bodyOf Try.f54)
noncomputable def q54_16 : List Oper := ops [true, true, true, true, false, false] Try.f54
noncomputable def n54_17 : Code := sub [true, true, true, true, false, true] (bodyOf Try.f54)
noncomputable def n54_18 : Code := sub [true, true, true, true, false, true, false] (bodyOf Try.f54)
noncomputable def n54_19 : Code := sub [true, true, true, true, false, true, false, false] (bodyOf Try.f54)
noncomputable def n54_20 : Code := sub [true, true, true, true, false, true, false, false, false] (bodyOf Try.f54)
noncomputable def q54_20 : List Oper := ops [true, true, true, true, false, true, false, false, false] Try.f54
noncomputable def n54_21 : Code := sub [true, true, true, true, false, true, false, false, true] (bodyOf Try.f54)
noncomputable def n54_22 : Code := sub [true, true, true, true, false, true, false, false, true, false] (bodyOf Try.f54)
noncomputable def n54_23 : Code := sub [true, true, true, true, false, true, false, false, true, false, false] (bodyOf Try.f54)
noncomputable def n54_24 : Code := sub [true, true, true, true, false, true, false, false, true, false, true] (bodyOf Try.f54)
noncomputable def n54_25 : Code := sub [true, true, true, true, false, true, false, false, true, true] (bodyOf Try.f54)
noncomputable def n54_26 : Code := sub [true, true, true, true, false, true, false, false, true, true, false] (bodyOf Try.f54)
noncomputable def n54_27 : Code := sub [true, true, true, true, false, true, false, false, true, true, false, false] (bodyOf Try.f54)
noncomputable def n54_28 : Code := sub [true, true, true, true, false, true, false, false, true, true, false, false, false] (bodyOf Try.f54)
noncomputable def q54_28 : List Oper := ops [true, true, true, true, false, true, false, false, true, true, false, false, false] Try.f54
noncomputable def n54_29 : Code := sub [true, true, true, true, false, true, false, false, true, true, false, false, true] (bodyOf Try.f54)
noncomputable def n54_30 : Code := sub [true, true, true, true, false, true, false, false, true, true, false, false, true, false] (bodyOf Try.f54)
noncomputable def q54_30 : List Oper := ops [true, true, true, true, false, true, false, false, true, true, false, false, true, false] Try.f54
noncomputable def n54_31 : Code := sub [true, true, true, true, false, true, false, false, true, true, false, false, true, true] (bodyOf Try.f54)
noncomputable def n54_32 : Code := sub [true, true, true, true, false, true, false, false, true, true, false, false, true, true, false] (bodyOf Try.f54)
noncomputable def q54_32 : List Oper := ops [true, true, true, true, false, true, false, false, true, true, false, false, true, true, false] Try.f54
noncomputable def n54_33 : Code := sub [true, true, true, true, false, true, false, false, true, true, false, false, true, true, true] (bodyOf Try.f54)
noncomputable def n54_34 : Code := sub [true, true, true, true, false, true, false, false, true, true, false, false, true, true, true, false] (bodyOf Try.f54)
noncomputable def q54_34 : List Oper := ops [true, true, true, true, false, true, false, false, true, true, false, false, true, true, true, false] Try.f54
noncomputable def n54_35 : Code := sub [true, true, true, true, false, true, false, false, true, true, false, false, true, true, true, true] (bodyOf Try.f54)
noncomputable def n54_36 : Code := sub [true, true, true, true, false, true, false, false, true, true, false, false, true, true, true, true, false] (bodyOf Try.f54)
noncomputable def q54_36 : List Oper := ops [true, true, true, true, false, true, false, false, true, true, false, false, true, true, true, true, false] Try.f54
noncomputable def n54_37 : Code := sub [true, true, true, true, false, true, false, false, true, true, false, false, true, true, true, true, true] (bodyOf Try.f54)
noncomputable def n54_38 : Code := sub [true, true, true, true, false, true, false, false, true, true, true] (bodyOf Try.f54)
noncomputable def q54_38 : List Oper := ops [true, true, true, true, false, true, false, false, true, true, true] Try.f54
noncomputable def n54_39 : Code := sub [true, true, true, true, true] (bodyOf Try.f54)
noncomputable def n54_40 : Code := sub [true, true, true, true, true, false] (bodyOf Try.f54)
noncomputable def q54_40 : List Oper := ops [true, true, true, true, true, false] Try.f54
noncomputable def n54_41 : Code := sub [true, true, true, true, true, true] (bodyOf Try.f54)
noncomputable def n54_42 : Code := sub [true, true, true, true, true, true, false] (bodyOf Try.f54)
noncomputable def q54_42 : List Oper := ops [true, true, true, true, true, true, false] Try.f54
noncomputable def n54_43 : Code := sub [true, true, true, true, true, true, true] (bodyOf Try.f54)
theorem body54 : Try.f54.body = some n54_0 := by kernel_rfl
theorem run54 (E : Ev) (args : List Value) (h : List Blk) (hl : args.length ≤ 98) : runB Try.prog E 54 args h = endS Try.prog [.tmp 4] h.length (codeB Try.prog E ⟨54, 98, h.length, none⟩ n54_0 ⟨enumT 0 args, h, []⟩) := GE.run_step Try.func54 body54 (by kernel_rfl) (by decide) (by kernel_rfl) hl
theorem n54_1s (E : Ev) (f : FuncId) (b : Nat) (ro : Option Nat) (st : St) : codeB Try.prog E ⟨f, 98, b, ro⟩ n54_1 st = plainS (runOps Try.prog E b q54_1 (ops [false] Try.f54) st) := GE.region_step (id := 0) (by kernel_rfl) (by kernel_rfl)
theorem q54_4g3 : gd q54_4 3 = some 15 := by kernel_rfl
theorem q54_4g8 : gd q54_4 8 = some 20 := by kernel_rfl
theorem n54_4s (E : Ev) (f : FuncId) (b : Nat) (ro : Option Nat) (st : St) : codeB Try.prog E ⟨f, 98, b, ro⟩ n54_4 st = drawS [0, 1, 3, 7, 15, 31, 63, 127, 255, 511, 511, 1535, 511, 4607, 1023, 17407, 53247, 131071, 262143, 524287, 1048575] (runOpsF Try.prog E b q54_4 (ops [true, false, false] Try.f54) st) := GE.draw_step (id := 1) (by kernel_rfl) (by kernel_rfl) (by kernel_rfl) (by kernel_rfl)
theorem n54_7s (E : Ev) (f : FuncId) (b : Nat) (ro : Option Nat) (st : St) : codeB Try.prog E ⟨f, 98, b, ro⟩ n54_7 st = drawS [0, 0, 2, 0, 8, 1, 33, 103, 255, 511, 1023] (runOpsF Try.prog E b q54_7 (ops [true, false, true, false, false] Try.f54) st) := GE.draw_step (id := 2) (by kernel_rfl) (by kernel_rfl) (by kernel_rfl) (by kernel_rfl)
theorem n54_8s (E : Ev) (cx : Cx) (st : St) : codeB Try.prog E cx n54_8 st = some (.ret, st) := GE.ret_step (by kernel_rfl)
theorem n54_6s (E : Ev) (cx : Cx) (st : St) : codeB Try.prog E cx n54_6 st = thenS (codeB Try.prog E cx n54_7 st) (codeB Try.prog E cx n54_8) := GE.seq_step (by kernel_rfl)
theorem n54_9s (E : Ev) (cx : Cx) (st : St) : codeB Try.prog E cx n54_9 st = some (.normal, st) := GE.skip_step (by kernel_rfl)
theorem n54_5s (E : Ev) (cx : Cx) (st : St) : codeB Try.prog E cx n54_5 st = condS (codeB Try.prog E cx n54_6) (codeB Try.prog E cx n54_9) (lk st.σ 32) st := GE.cond_step (c := .tmp 32) (by kernel_rfl)
theorem n54_3s (E : Ev) (cx : Cx) (st : St) : codeB Try.prog E cx n54_3 st = thenS (codeB Try.prog E cx n54_4 st) (codeB Try.prog E cx n54_5) := GE.seq_step (by kernel_rfl)
theorem n54_11s (E : Ev) (f : FuncId) (b : Nat) (ro : Option Nat) (st : St) : codeB Try.prog E ⟨f, 98, b, ro⟩ n54_11 st = plainS (runOps Try.prog E b q54_11 (ops [true, true, false] Try.f54) st) := GE.region_step (id := 3) (by kernel_rfl) (by kernel_rfl)
theorem n54_13s (E : Ev) (f : FuncId) (b : Nat) (ro : Option Nat) (st : St) : codeB Try.prog E ⟨f, 98, b, ro⟩ n54_13 st = plainS (runOps Try.prog E b q54_13 (ops [true, true, true, false] Try.f54) st) := GE.region_step (id := 4) (by kernel_rfl) (by kernel_rfl)
theorem n54_16s (E : Ev) (f : FuncId) (b : Nat) (ro : Option Nat) (st : St) : codeB Try.prog E ⟨f, 98, b, ro⟩ n54_16 st = plainS (runOps Try.prog E b q54_16 (ops [true, true, true, true, false, false] Try.f54) st) := GE.region_step (id := 5) (by kernel_rfl) (by kernel_rfl)
theorem n54_20s (E : Ev) (f : FuncId) (b : Nat) (ro : Option Nat) (st : St) : codeB Try.prog E ⟨f, 98, b, ro⟩ n54_20 st = plainS (runOps Try.prog E b q54_20 (ops [true, true, true, true, false, true, false, false, false] Try.f54) st) := GE.region_step (id := 6) (by kernel_rfl) (by kernel_rfl)
theorem n54_23s (E : Ev) (cx : Cx) (st : St) : codeB Try.prog E cx n54_23 st = some (.normal, st) := GE.skip_step (by kernel_rfl)
theorem n54_24s (E : Ev) (cx : Cx) (st : St) : codeB Try.prog E cx n54_24 st = some (.exit 0, st) := GE.exit_step (by kernel_rfl)
theorem n54_22s (E : Ev) (cx : Cx) (st : St) : codeB Try.prog E cx n54_22 st = condS (codeB Try.prog E cx n54_23) (codeB Try.prog E cx n54_24) (lk st.σ 47) st := GE.cond_step (c := .tmp 47) (by kernel_rfl)
theorem n54_28s (E : Ev) (f : FuncId) (b : Nat) (ro : Option Nat) (st : St) : codeB Try.prog E ⟨f, 98, b, ro⟩ n54_28 st = plainS (runOps Try.prog E b q54_28 (ops [true, true, true, true, false, true, false, false, true, true, false, false, false] Try.f54) st) := GE.region_step (id := 7) (by kernel_rfl) (by kernel_rfl)
theorem n54_30s (E : Ev) (f : FuncId) (b : Nat) (ro : Option Nat) (st : St) : codeB Try.prog E ⟨f, 98, b, ro⟩ n54_30 st = plainS (runOps Try.prog E b q54_30 (ops [true, true, true, true, false, true, false, false, true, true, false, false, true, false] Try.f54) st) := GE.region_step (id := 8) (by kernel_rfl) (by kernel_rfl)
theorem n54_32s (E : Ev) (f : FuncId) (b : Nat) (ro : Option Nat) (st : St) : codeB Try.prog E ⟨f, 98, b, ro⟩ n54_32 st = drawS [0, 0, 3, 0, 0, 31, 0, 0, 255, 511, 1023, 2047] (runOpsF Try.prog E b q54_32 (ops [true, true, true, true, false, true, false, false, true, true, false, false, true, true, false] Try.f54) st) := GE.draw_step (id := 9) (by kernel_rfl) (by kernel_rfl) (by kernel_rfl) (by kernel_rfl)
theorem q54_34g2 : gd q54_34 2 = some 69 := by kernel_rfl
theorem n54_34s (E : Ev) (f : FuncId) (b : Nat) (ro : Option Nat) (st : St) : codeB Try.prog E ⟨f, 98, b, ro⟩ n54_34 st = plainS (runOps Try.prog E b q54_34 (ops [true, true, true, true, false, true, false, false, true, true, false, false, true, true, true, false] Try.f54) st) := GE.region_step (id := 10) (by kernel_rfl) (by kernel_rfl)
theorem n54_36s (E : Ev) (f : FuncId) (b : Nat) (ro : Option Nat) (st : St) : codeB Try.prog E ⟨f, 98, b, ro⟩ n54_36 st = plainS (runOps Try.prog E b q54_36 (ops [true, true, true, true, false, true, false, false, true, true, false, false, true, true, true, true, false] Try.f54) st) := GE.region_step (id := 11) (by kernel_rfl) (by kernel_rfl)
theorem n54_37s (E : Ev) (cx : Cx) (st : St) : codeB Try.prog E cx n54_37 st = some (.normal, st) := GE.skip_step (by kernel_rfl)
theorem n54_35s (E : Ev) (cx : Cx) (st : St) : codeB Try.prog E cx n54_35 st = condS (codeB Try.prog E cx n54_36) (codeB Try.prog E cx n54_37) (lk st.σ 73) st := GE.cond_step (c := .tmp 73) (by kernel_rfl)
theorem n54_33s (E : Ev) (cx : Cx) (st : St) : codeB Try.prog E cx n54_33 st = thenS (codeB Try.prog E cx n54_34 st) (codeB Try.prog E cx n54_35) := GE.seq_step (by kernel_rfl)
theorem n54_31s (E : Ev) (cx : Cx) (st : St) : codeB Try.prog E cx n54_31 st = thenS (codeB Try.prog E cx n54_32 st) (codeB Try.prog E cx n54_33) := GE.seq_step (by kernel_rfl)
theorem n54_29s (E : Ev) (cx : Cx) (st : St) : codeB Try.prog E cx n54_29 st = thenS (codeB Try.prog E cx n54_30 st) (codeB Try.prog E cx n54_31) := GE.seq_step (by kernel_rfl)
theorem n54_27s (E : Ev) (cx : Cx) (st : St) : codeB Try.prog E cx n54_27 st = thenS (codeB Try.prog E cx n54_28 st) (codeB Try.prog E cx n54_29) := GE.seq_step (by kernel_rfl)
theorem n54_26s (E : Ev) (cx : Cx) (st : St) : codeB Try.prog E cx n54_26 st = blockS 1 (codeB Try.prog E cx n54_27 st) st := GE.block_step (by kernel_rfl)
theorem n54_38s (E : Ev) (f : FuncId) (b : Nat) (ro : Option Nat) (st : St) : codeB Try.prog E ⟨f, 98, b, ro⟩ n54_38 st = plainS (runOps Try.prog E b q54_38 (ops [true, true, true, true, false, true, false, false, true, true, true] Try.f54) st) := GE.region_step (id := 12) (by kernel_rfl) (by kernel_rfl)
theorem n54_25s (E : Ev) (cx : Cx) (st : St) : codeB Try.prog E cx n54_25 st = thenS (codeB Try.prog E cx n54_26 st) (codeB Try.prog E cx n54_38) := GE.seq_step (by kernel_rfl)
theorem n54_21s (E : Ev) (cx : Cx) (st : St) : codeB Try.prog E cx n54_21 st = thenS (codeB Try.prog E cx n54_22 st) (codeB Try.prog E cx n54_25) := GE.seq_step (by kernel_rfl)
theorem n54_19s (E : Ev) (cx : Cx) (st : St) : codeB Try.prog E cx n54_19 st = thenS (codeB Try.prog E cx n54_20 st) (codeB Try.prog E cx n54_21) := GE.seq_step (by kernel_rfl)
theorem n54_18s (E : Ev) (cx : Cx) (st : St) : codeB Try.prog E cx n54_18 st = loopS (fun st' => E.code cx n54_18 st') cx.base (codeB Try.prog E cx n54_19 st) st := GE.loop_step (by kernel_rfl)
theorem n54_17s (E : Ev) (cx : Cx) (st : St) : codeB Try.prog E cx n54_17 st = blockS 0 (codeB Try.prog E cx n54_18 st) st := GE.block_step (by kernel_rfl)
theorem n54_15s (E : Ev) (cx : Cx) (st : St) : codeB Try.prog E cx n54_15 st = thenS (codeB Try.prog E cx n54_16 st) (codeB Try.prog E cx n54_17) := GE.seq_step (by kernel_rfl)
theorem n54_40s (E : Ev) (f : FuncId) (b : Nat) (ro : Option Nat) (st : St) : codeB Try.prog E ⟨f, 98, b, ro⟩ n54_40 st = drawS [0, 0, 2, 0, 8, 0, 0, 64, 0, 256, 0, 0, 1, 4097, 12295, 29727, 62495, 32, 131104, 393440, 1048575, 2097151] (runOpsF Try.prog E b q54_40 (ops [true, true, true, true, true, false] Try.f54) st) := GE.draw_step (id := 13) (by kernel_rfl) (by kernel_rfl) (by kernel_rfl) (by kernel_rfl)
theorem n54_42s (E : Ev) (f : FuncId) (b : Nat) (ro : Option Nat) (st : St) : codeB Try.prog E ⟨f, 98, b, ro⟩ n54_42 st = plainS (runOps Try.prog E b q54_42 (ops [true, true, true, true, true, true, false] Try.f54) st) := GE.region_step (id := 14) (by kernel_rfl) (by kernel_rfl)
theorem n54_43s (E : Ev) (cx : Cx) (st : St) : codeB Try.prog E cx n54_43 st = some (.ret, st) := GE.ret_step (by kernel_rfl)
theorem n54_41s (E : Ev) (cx : Cx) (st : St) : codeB Try.prog E cx n54_41 st = thenS (codeB Try.prog E cx n54_42 st) (codeB Try.prog E cx n54_43) := GE.seq_step (by kernel_rfl)
theorem n54_39s (E : Ev) (cx : Cx) (st : St) : codeB Try.prog E cx n54_39 st = thenS (codeB Try.prog E cx n54_40 st) (codeB Try.prog E cx n54_41) := GE.seq_step (by kernel_rfl)
theorem n54_14s (E : Ev) (cx : Cx) (st : St) : codeB Try.prog E cx n54_14 st = thenS (codeB Try.prog E cx n54_15 st) (codeB Try.prog E cx n54_39) := GE.seq_step (by kernel_rfl)
theorem n54_12s (E : Ev) (cx : Cx) (st : St) : codeB Try.prog E cx n54_12 st = thenS (codeB Try.prog E cx n54_13 st) (codeB Try.prog E cx n54_14) := GE.seq_step (by kernel_rfl)
theorem n54_10s (E : Ev) (cx : Cx) (st : St) : codeB Try.prog E cx n54_10 st = thenS (codeB Try.prog E cx n54_11 st) (codeB Try.prog E cx n54_12) := GE.seq_step (by kernel_rfl)
theorem n54_2s (E : Ev) (cx : Cx) (st : St) : codeB Try.prog E cx n54_2 st = thenS (codeB Try.prog E cx n54_3 st) (codeB Try.prog E cx n54_10) := GE.seq_step (by kernel_rfl)
theorem n54_0s (E : Ev) (cx : Cx) (st : St) : codeB Try.prog E cx n54_0 st = thenS (codeB Try.prog E cx n54_1 st) (codeB Try.prog E cx n54_2) := GE.seq_step (by kernel_rfl)
noncomputable def n55_0 : Code := sub [] (bodyOf Try.f55)
noncomputable def n55_1 : Code := sub [false] (bodyOf Try.f55)
noncomputable def q55_1 : List Oper := ops [false] Try.f55
noncomputable def n55_2 : Code := sub [true] (bodyOf Try.f55)
noncomputable def n55_3 : Code := sub [true, false] (bodyOf Try.f55)
noncomputable def q55_3 : List Oper := ops [true, false] Try.f55
noncomputable def n55_4 : Code := sub [true, true] (bodyOf Try.f55)
noncomputable def n55_5 : Code := sub [true, true, false] (bodyOf Try.f55)
noncomputable def n55_6 : Code := sub [true, true, false, false] (bodyOf Try.f55)
noncomputable def q55_6 : List Oper := ops [true, true, false, false] Try.f55
noncomputable def n55_7 : Code := sub [true, true, false, true] (bodyOf Try.f55)
noncomputable def n55_8 : Code := sub [true, true, false, true, false] (bodyOf Try.f55)
noncomputable def n55_9 : Code := sub [true, true, false, true, false, false] (bodyOf Try.f55)
noncomputable def n55_10 : Code := sub [true, true, false, true, false, false, false] (bodyOf Try.f55)
noncomputable def n55_11 : Code := sub [true, true, false, true, false, false, false, false] (bodyOf Try.f55)
noncomputable def q55_11 : List Oper := ops [true, true, false, true, false, false, false, false] Try.f55
noncomputable def n55_12 : Code := sub [true, true, false, true, false, false, false, true] (bodyOf Try.f55)
noncomputable def n55_13 : Code := sub [true, true, false, true, false, false, false, true, false] (bodyOf Try.f55)
noncomputable def n55_14 : Code := sub [true, true, false, true, false, false, false, true, true] (bodyOf Try.f55)
noncomputable def n55_15 : Code := sub [true, true, false, true, false, false, true] (bodyOf Try.f55)
noncomputable def n55_16 : Code := sub [true, true, false, true, false, false, true, false] (bodyOf Try.f55)
noncomputable def n55_17 : Code := sub [true, true, false, true, false, false, true, false, false] (bodyOf Try.f55)
noncomputable def q55_17 : List Oper := ops [true, true, false, true, false, false, true, false, false] Try.f55
noncomputable def n55_18 : Code := sub [true, true, false, true, false, false, true, true] (bodyOf Try.f55)
noncomputable def q55_18 : List Oper := ops [true, true, false, true, false, false, true, true] Try.f55
noncomputable def n55_19 : Code := sub [true, true, true] (bodyOf Try.f55)
noncomputable def n55_20 : Code := sub [true, true, true, false] (bodyOf Try.f55)
noncomputable def n55_21 : Code := sub [true, true, true, false, false] (bodyOf Try.f55)
noncomputable def q55_21 : List Oper := ops [true, true, true, false, false] Try.f55
noncomputable def n55_22 : Code := sub [true, true, true, false, true] (bodyOf Try.f55)
noncomputable def n55_23 : Code := sub [true, true, true, false, true, false] (bodyOf Try.f55)
noncomputable def n55_24 : Code := sub [true, true, true, false, true, false, false] (bodyOf Try.f55)
noncomputable def n55_25 : Code := sub [true, true, true, false, true, false, false, false] (bodyOf Try.f55)
noncomputable def n55_26 : Code := sub [true, true, true, false, true, false, false, false, false] (bodyOf Try.f55)
noncomputable def q55_26 : List Oper := ops [true, true, true, false, true, false, false, false, false] Try.f55
noncomputable def n55_27 : Code := sub [true, true, true, false, true, false, false, false, true] (bodyOf Try.f55)
noncomputable def n55_28 : Code := sub [true, true, true, false, true, false, false, false, true, false] (bodyOf Try.f55)
noncomputable def n55_29 : Code := sub [true, true, true, false, true, false, false, false, true, true] (bodyOf Try.f55)
noncomputable def n55_30 : Code := sub [true, true, true, false, true, false, false, true] (bodyOf Try.f55)
noncomputable def n55_31 : Code := sub [true, true, true, false, true, false, false, true, false] (bodyOf Try.f55)
noncomputable def n55_32 : Code := sub [true, true, true, false, true, false, false, true, false, false] (bodyOf Try.f55)
noncomputable def q55_32 : List Oper := ops [true, true, true, false, true, false, false, true, false, false] Try.f55
noncomputable def n55_33 : Code := sub [true, true, true, false, true, false, false, true, true] (bodyOf Try.f55)
noncomputable def q55_33 : List Oper := ops [true, true, true, false, true, false, false, true, true] Try.f55
noncomputable def n55_34 : Code := sub [true, true, true, true] (bodyOf Try.f55)
noncomputable def n55_35 : Code := sub [true, true, true, true, false] (bodyOf Try.f55)
noncomputable def q55_35 : List Oper := ops [true, true, true, true, false] Try.f55
noncomputable def n55_36 : Code := sub [true, true, true, true, true] (bodyOf Try.f55)
theorem body55 : Try.f55.body = some n55_0 := by kernel_rfl
theorem run55 (E : Ev) (args : List Value) (h : List Blk) (hl : args.length ≤ 29) : runB Try.prog E 55 args h = endS Try.prog [.tmp 2] h.length (codeB Try.prog E ⟨55, 29, h.length, none⟩ n55_0 ⟨enumT 0 args, h, []⟩) := GE.run_step Try.func55 body55 (by kernel_rfl) (by decide) (by kernel_rfl) hl
theorem n55_1s (E : Ev) (f : FuncId) (b : Nat) (ro : Option Nat) (st : St) : codeB Try.prog E ⟨f, 29, b, ro⟩ n55_1 st = plainS (runOps Try.prog E b q55_1 (ops [false] Try.f55) st) := GE.region_step (id := 0) (by kernel_rfl) (by kernel_rfl)
theorem n55_3s (E : Ev) (f : FuncId) (b : Nat) (ro : Option Nat) (st : St) : codeB Try.prog E ⟨f, 29, b, ro⟩ n55_3 st = plainS (runOps Try.prog E b q55_3 (ops [true, false] Try.f55) st) := GE.region_step (id := 1) (by kernel_rfl) (by kernel_rfl)
theorem n55_6s (E : Ev) (f : FuncId) (b : Nat) (ro : Option Nat) (st : St) : codeB Try.prog E ⟨f, 29, b, ro⟩ n55_6 st = plainS (runOps Try.prog E b q55_6 (ops [true, true, false, false] Try.f55) st) := GE.region_step (id := 2) (by kernel_rfl) (by kernel_rfl)
theorem n55_11s (E : Ev) (f : FuncId) (b : Nat) (ro : Option Nat) (st : St) : codeB Try.prog E ⟨f, 29, b, ro⟩ n55_11 st = plainS (runOps Try.prog E b q55_11 (ops [true, true, false, true, false, false, false, false] Try.f55) st) := GE.region_step (id := 3) (by kernel_rfl) (by kernel_rfl)
theorem n55_13s (E : Ev) (cx : Cx) (st : St) : codeB Try.prog E cx n55_13 st = some (.normal, st) := GE.skip_step (by kernel_rfl)
theorem n55_14s (E : Ev) (cx : Cx) (st : St) : codeB Try.prog E cx n55_14 st = some (.exit 0, st) := GE.exit_step (by kernel_rfl)
theorem n55_12s (E : Ev) (cx : Cx) (st : St) : codeB Try.prog E cx n55_12 st = condS (codeB Try.prog E cx n55_13) (codeB Try.prog E cx n55_14) (lk st.σ 9) st := GE.cond_step (c := .tmp 9) (by kernel_rfl)
theorem n55_10s (E : Ev) (cx : Cx) (st : St) : codeB Try.prog E cx n55_10 st = thenS (codeB Try.prog E cx n55_11 st) (codeB Try.prog E cx n55_12) := GE.seq_step (by kernel_rfl)
theorem n55_17s (E : Ev) (f : FuncId) (b : Nat) (ro : Option Nat) (st : St) : codeB Try.prog E ⟨f, 29, b, ro⟩ n55_17 st = plainS (runOps Try.prog E b q55_17 (ops [true, true, false, true, false, false, true, false, false] Try.f55) st) := GE.region_step (id := 5) (by kernel_rfl) (by kernel_rfl)
theorem n55_16s (E : Ev) (cx : Cx) (st : St) : codeB Try.prog E cx n55_16 st = blockS 1 (codeB Try.prog E cx n55_17 st) st := GE.block_step (by kernel_rfl)
theorem n55_18s (E : Ev) (f : FuncId) (b : Nat) (ro : Option Nat) (st : St) : codeB Try.prog E ⟨f, 29, b, ro⟩ n55_18 st = plainS (runOps Try.prog E b q55_18 (ops [true, true, false, true, false, false, true, true] Try.f55) st) := GE.region_step (id := 4) (by kernel_rfl) (by kernel_rfl)
theorem n55_15s (E : Ev) (cx : Cx) (st : St) : codeB Try.prog E cx n55_15 st = thenS (codeB Try.prog E cx n55_16 st) (codeB Try.prog E cx n55_18) := GE.seq_step (by kernel_rfl)
theorem n55_9s (E : Ev) (cx : Cx) (st : St) : codeB Try.prog E cx n55_9 st = thenS (codeB Try.prog E cx n55_10 st) (codeB Try.prog E cx n55_15) := GE.seq_step (by kernel_rfl)
theorem n55_8s (E : Ev) (cx : Cx) (st : St) : codeB Try.prog E cx n55_8 st = loopS (fun st' => E.code cx n55_8 st') cx.base (codeB Try.prog E cx n55_9 st) st := GE.loop_step (by kernel_rfl)
theorem n55_7s (E : Ev) (cx : Cx) (st : St) : codeB Try.prog E cx n55_7 st = blockS 0 (codeB Try.prog E cx n55_8 st) st := GE.block_step (by kernel_rfl)
theorem n55_5s (E : Ev) (cx : Cx) (st : St) : codeB Try.prog E cx n55_5 st = thenS (codeB Try.prog E cx n55_6 st) (codeB Try.prog E cx n55_7) := GE.seq_step (by kernel_rfl)
theorem n55_21s (E : Ev) (f : FuncId) (b : Nat) (ro : Option Nat) (st : St) : codeB Try.prog E ⟨f, 29, b, ro⟩ n55_21 st = plainS (runOps Try.prog E b q55_21 (ops [true, true, true, false, false] Try.f55) st) := GE.region_step (id := 6) (by kernel_rfl) (by kernel_rfl)
theorem n55_26s (E : Ev) (f : FuncId) (b : Nat) (ro : Option Nat) (st : St) : codeB Try.prog E ⟨f, 29, b, ro⟩ n55_26 st = plainS (runOps Try.prog E b q55_26 (ops [true, true, true, false, true, false, false, false, false] Try.f55) st) := GE.region_step (id := 7) (by kernel_rfl) (by kernel_rfl)
theorem n55_28s (E : Ev) (cx : Cx) (st : St) : codeB Try.prog E cx n55_28 st = some (.normal, st) := GE.skip_step (by kernel_rfl)
theorem n55_29s (E : Ev) (cx : Cx) (st : St) : codeB Try.prog E cx n55_29 st = some (.exit 2, st) := GE.exit_step (by kernel_rfl)
theorem n55_27s (E : Ev) (cx : Cx) (st : St) : codeB Try.prog E cx n55_27 st = condS (codeB Try.prog E cx n55_28) (codeB Try.prog E cx n55_29) (lk st.σ 20) st := GE.cond_step (c := .tmp 20) (by kernel_rfl)
theorem n55_25s (E : Ev) (cx : Cx) (st : St) : codeB Try.prog E cx n55_25 st = thenS (codeB Try.prog E cx n55_26 st) (codeB Try.prog E cx n55_27) := GE.seq_step (by kernel_rfl)
theorem n55_32s (E : Ev) (f : FuncId) (b : Nat) (ro : Option Nat) (st : St) : codeB Try.prog E ⟨f, 29, b, ro⟩ n55_32 st = plainS (runOps Try.prog E b q55_32 (ops [true, true, true, false, true, false, false, true, false, false] Try.f55) st) := GE.region_step (id := 9) (by kernel_rfl) (by kernel_rfl)
theorem n55_31s (E : Ev) (cx : Cx) (st : St) : codeB Try.prog E cx n55_31 st = blockS 3 (codeB Try.prog E cx n55_32 st) st := GE.block_step (by kernel_rfl)
theorem n55_33s (E : Ev) (f : FuncId) (b : Nat) (ro : Option Nat) (st : St) : codeB Try.prog E ⟨f, 29, b, ro⟩ n55_33 st = plainS (runOps Try.prog E b q55_33 (ops [true, true, true, false, true, false, false, true, true] Try.f55) st) := GE.region_step (id := 8) (by kernel_rfl) (by kernel_rfl)
theorem n55_30s (E : Ev) (cx : Cx) (st : St) : codeB Try.prog E cx n55_30 st = thenS (codeB Try.prog E cx n55_31 st) (codeB Try.prog E cx n55_33) := GE.seq_step (by kernel_rfl)
theorem n55_24s (E : Ev) (cx : Cx) (st : St) : codeB Try.prog E cx n55_24 st = thenS (codeB Try.prog E cx n55_25 st) (codeB Try.prog E cx n55_30) := GE.seq_step (by kernel_rfl)
theorem n55_23s (E : Ev) (cx : Cx) (st : St) : codeB Try.prog E cx n55_23 st = loopS (fun st' => E.code cx n55_23 st') cx.base (codeB Try.prog E cx n55_24 st) st := GE.loop_step (by kernel_rfl)
theorem n55_22s (E : Ev) (cx : Cx) (st : St) : codeB Try.prog E cx n55_22 st = blockS 2 (codeB Try.prog E cx n55_23 st) st := GE.block_step (by kernel_rfl)
theorem n55_20s (E : Ev) (cx : Cx) (st : St) : codeB Try.prog E cx n55_20 st = thenS (codeB Try.prog E cx n55_21 st) (codeB Try.prog E cx n55_22) := GE.seq_step (by kernel_rfl)
theorem n55_35s (E : Ev) (f : FuncId) (b : Nat) (ro : Option Nat) (st : St) : codeB Try.prog E ⟨f, 29, b, ro⟩ n55_35 st = plainS (runOps Try.prog E b q55_35 (ops [true, true, true, true, false] Try.f55) st) := GE.region_step (id := 10) (by kernel_rfl) (by kernel_rfl)
theorem n55_36s (E : Ev) (cx : Cx) (st : St) : codeB Try.prog E cx n55_36 st = some (.ret, st) := GE.ret_step (by kernel_rfl)
theorem n55_34s (E : Ev) (cx : Cx) (st : St) : codeB Try.prog E cx n55_34 st = thenS (codeB Try.prog E cx n55_35 st) (codeB Try.prog E cx n55_36) := GE.seq_step (by kernel_rfl)
theorem n55_19s (E : Ev) (cx : Cx) (st : St) : codeB Try.prog E cx n55_19 st = thenS (codeB Try.prog E cx n55_20 st) (codeB Try.prog E cx n55_34) := GE.seq_step (by kernel_rfl)
theorem n55_4s (E : Ev) (cx : Cx) (st : St) : codeB Try.prog E cx n55_4 st = thenS (codeB Try.prog E cx n55_5 st) (codeB Try.prog E cx n55_19) := GE.seq_step (by kernel_rfl)
theorem n55_2s (E : Ev) (cx : Cx) (st : St) : codeB Try.prog E cx n55_2 st = thenS (codeB Try.prog E cx n55_3 st) (codeB Try.prog E cx n55_4) := GE.seq_step (by kernel_rfl)
theorem n55_0s (E : Ev) (cx : Cx) (st : St) : codeB Try.prog E cx n55_0 st = thenS (codeB Try.prog E cx n55_1 st) (codeB Try.prog E cx n55_2) := GE.seq_step (by kernel_rfl)
noncomputable def n72_0 : Code := sub [] (bodyOf Try.f72)
noncomputable def n72_1 : Code := sub [false] (bodyOf Try.f72)
noncomputable def q72_1 : List Oper := ops [false] Try.f72
noncomputable def n72_2 : Code := sub [true] (bodyOf Try.f72)
noncomputable def n72_3 : Code := sub [true, false] (bodyOf Try.f72)
noncomputable def q72_3 : List Oper := ops [true, false] Try.f72
noncomputable def n72_4 : Code := sub [true, true] (bodyOf Try.f72)
theorem body72 : Try.f72.body = some n72_0 := by kernel_rfl
theorem run72 (E : Ev) (args : List Value) (h : List Blk) (hl : args.length ≤ 8) : runB Try.prog E 72 args h = endS Try.prog [.tmp 4] h.length (codeB Try.prog E ⟨72, 8, h.length, none⟩ n72_0 ⟨enumT 0 args, h, []⟩) := GE.run_step Try.func72 body72 (by kernel_rfl) (by decide) (by kernel_rfl) hl
theorem n72_1s (E : Ev) (f : FuncId) (b : Nat) (ro : Option Nat) (st : St) : codeB Try.prog E ⟨f, 8, b, ro⟩ n72_1 st = plainS (runOps Try.prog E b q72_1 (ops [false] Try.f72) st) := GE.region_step (id := 0) (by kernel_rfl) (by kernel_rfl)
theorem n72_3s (E : Ev) (f : FuncId) (b : Nat) (ro : Option Nat) (st : St) : codeB Try.prog E ⟨f, 8, b, ro⟩ n72_3 st = plainS (runOps Try.prog E b q72_3 (ops [true, false] Try.f72) st) := GE.region_step (id := 1) (by kernel_rfl) (by kernel_rfl)
theorem n72_4s (E : Ev) (cx : Cx) (st : St) : codeB Try.prog E cx n72_4 st = some (.ret, st) := GE.ret_step (by kernel_rfl)
theorem n72_2s (E : Ev) (cx : Cx) (st : St) : codeB Try.prog E cx n72_2 st = thenS (codeB Try.prog E cx n72_3 st) (codeB Try.prog E cx n72_4) := GE.seq_step (by kernel_rfl)
theorem n72_0s (E : Ev) (cx : Cx) (st : St) : codeB Try.prog E cx n72_0 st = thenS (codeB Try.prog E cx n72_1 st) (codeB Try.prog E cx n72_2) := GE.seq_step (by kernel_rfl)
noncomputable def n73_0 : Code := sub [] (bodyOf Try.f73)
noncomputable def n73_1 : Code := sub [false] (bodyOf Try.f73)
noncomputable def q73_1 : List Oper := ops [false] Try.f73
noncomputable def n73_2 : Code := sub [true] (bodyOf Try.f73)
noncomputable def n73_3 : Code := sub [true, false] (bodyOf Try.f73)
noncomputable def q73_3 : List Oper := ops [true, false] Try.f73
noncomputable def n73_4 : Code := sub [true, true] (bodyOf Try.f73)
noncomputable def n73_5 : Code := sub [true, true, false] (bodyOf Try.f73)
noncomputable def q73_5 : List Oper := ops [true, true, false] Try.f73
noncomputable def n73_6 : Code := sub [true, true, true] (bodyOf Try.f73)
theorem body73 : Try.f73.body = some n73_0 := by kernel_rfl
theorem run73 (E : Ev) (args : List Value) (h : List Blk) (hl : args.length ≤ 29) : runB Try.prog E 73 args h = endS Try.prog [.cell 4 35, .cell 5 35] h.length (codeB Try.prog E ⟨73, 29, h.length, none⟩ n73_0 ⟨enumT 0 args, h, []⟩) := GE.run_step Try.func73 body73 (by kernel_rfl) (by decide) (by kernel_rfl) hl
theorem n73_1s (E : Ev) (f : FuncId) (b : Nat) (ro : Option Nat) (st : St) : codeB Try.prog E ⟨f, 29, b, ro⟩ n73_1 st = plainS (runOps Try.prog E b q73_1 (ops [false] Try.f73) st) := GE.region_step (id := 0) (by kernel_rfl) (by kernel_rfl)
theorem n73_3s (E : Ev) (f : FuncId) (b : Nat) (ro : Option Nat) (st : St) : codeB Try.prog E ⟨f, 29, b, ro⟩ n73_3 st = plainS (runOps Try.prog E b q73_3 (ops [true, false] Try.f73) st) := GE.region_step (id := 1) (by kernel_rfl) (by kernel_rfl)
theorem n73_5s (E : Ev) (f : FuncId) (b : Nat) (ro : Option Nat) (st : St) : codeB Try.prog E ⟨f, 29, b, ro⟩ n73_5 st = drawS [0, 1, 0, 4, 0, 0, 32, 127, 0, 256, 0, 1792, 0, 4096, 0, 16384, 0, 114688, 0, 262144, 1048320, 255, 4194303] (runOpsF Try.prog E b q73_5 (ops [true, true, false] Try.f73) st) := GE.draw_step (id := 2) (by kernel_rfl) (by kernel_rfl) (by kernel_rfl) (by kernel_rfl)
theorem n73_6s (E : Ev) (cx : Cx) (st : St) : codeB Try.prog E cx n73_6 st = some (.ret, st) := GE.ret_step (by kernel_rfl)
theorem n73_4s (E : Ev) (cx : Cx) (st : St) : codeB Try.prog E cx n73_4 st = thenS (codeB Try.prog E cx n73_5 st) (codeB Try.prog E cx n73_6) := GE.seq_step (by kernel_rfl)
theorem n73_2s (E : Ev) (cx : Cx) (st : St) : codeB Try.prog E cx n73_2 st = thenS (codeB Try.prog E cx n73_3 st) (codeB Try.prog E cx n73_4) := GE.seq_step (by kernel_rfl)
theorem n73_0s (E : Ev) (cx : Cx) (st : St) : codeB Try.prog E cx n73_0 st = thenS (codeB Try.prog E cx n73_1 st) (codeB Try.prog E cx n73_2) := GE.seq_step (by kernel_rfl)
noncomputable def n74_0 : Code := sub [] (bodyOf Try.f74)
noncomputable def n74_1 : Code := sub [false] (bodyOf Try.f74)
noncomputable def q74_1 : List Oper := ops [false] Try.f74
noncomputable def n74_2 : Code := sub [true] (bodyOf Try.f74)
noncomputable def n74_3 : Code := sub [true, false] (bodyOf Try.f74)
noncomputable def q74_3 : List Oper := ops [true, false] Try.f74
noncomputable def n74_4 : Code := sub [true, true] (bodyOf Try.f74)
theorem body74 : Try.f74.body = some n74_0 := by kernel_rfl
theorem run74 (E : Ev) (args : List Value) (h : List Blk) (hl : args.length ≤ 8) : runB Try.prog E 74 args h = endS Try.prog [.tmp 4] h.length (codeB Try.prog E ⟨74, 8, h.length, none⟩ n74_0 ⟨enumT 0 args, h, []⟩) := GE.run_step Try.func74 body74 (by kernel_rfl) (by decide) (by kernel_rfl) hl
theorem n74_1s (E : Ev) (f : FuncId) (b : Nat) (ro : Option Nat) (st : St) : codeB Try.prog E ⟨f, 8, b, ro⟩ n74_1 st = plainS (runOps Try.prog E b q74_1 (ops [false] Try.f74) st) := GE.region_step (id := 0) (by kernel_rfl) (by kernel_rfl)
theorem n74_3s (E : Ev) (f : FuncId) (b : Nat) (ro : Option Nat) (st : St) : codeB Try.prog E ⟨f, 8, b, ro⟩ n74_3 st = plainS (runOps Try.prog E b q74_3 (ops [true, false] Try.f74) st) := GE.region_step (id := 1) (by kernel_rfl) (by kernel_rfl)
theorem n74_4s (E : Ev) (cx : Cx) (st : St) : codeB Try.prog E cx n74_4 st = some (.ret, st) := GE.ret_step (by kernel_rfl)
theorem n74_2s (E : Ev) (cx : Cx) (st : St) : codeB Try.prog E cx n74_2 st = thenS (codeB Try.prog E cx n74_3 st) (codeB Try.prog E cx n74_4) := GE.seq_step (by kernel_rfl)
theorem n74_0s (E : Ev) (cx : Cx) (st : St) : codeB Try.prog E cx n74_0 st = thenS (codeB Try.prog E cx n74_1 st) (codeB Try.prog E cx n74_2) := GE.seq_step (by kernel_rfl)
noncomputable def n75_0 : Code := sub [] (bodyOf Try.f75)
noncomputable def n75_1 : Code := sub [false] (bodyOf Try.f75)
noncomputable def q75_1 : List Oper := ops [false] Try.f75
noncomputable def n75_2 : Code := sub [true] (bodyOf Try.f75)
noncomputable def n75_3 : Code := sub [true, false] (bodyOf Try.f75)
noncomputable def q75_3 : List Oper := ops [true, false] Try.f75
noncomputable def n75_4 : Code := sub [true, true] (bodyOf Try.f75)
noncomputable def n75_5 : Code := sub [true, true, false] (bodyOf Try.f75)
noncomputable def q75_5 : List Oper := ops [true, true, false] Try.f75
noncomputable def n75_6 : Code := sub [true, true, true] (bodyOf Try.f75)
theorem body75 : Try.f75.body = some n75_0 := by kernel_rfl
theorem run75 (E : Ev) (args : List Value) (h : List Blk) (hl : args.length ≤ 29) : runB Try.prog E 75 args h = endS Try.prog [.cell 4 35, .cell 5 35] h.length (codeB Try.prog E ⟨75, 29, h.length, none⟩ n75_0 ⟨enumT 0 args, h, []⟩) := GE.run_step Try.func75 body75 (by kernel_rfl) (by decide) (by kernel_rfl) hl
theorem n75_1s (E : Ev) (f : FuncId) (b : Nat) (ro : Option Nat) (st : St) : codeB Try.prog E ⟨f, 29, b, ro⟩ n75_1 st = plainS (runOps Try.prog E b q75_1 (ops [false] Try.f75) st) := GE.region_step (id := 0) (by kernel_rfl) (by kernel_rfl)
theorem n75_3s (E : Ev) (f : FuncId) (b : Nat) (ro : Option Nat) (st : St) : codeB Try.prog E ⟨f, 29, b, ro⟩ n75_3 st = plainS (runOps Try.prog E b q75_3 (ops [true, false] Try.f75) st) := GE.region_step (id := 1) (by kernel_rfl) (by kernel_rfl)
theorem n75_5s (E : Ev) (f : FuncId) (b : Nat) (ro : Option Nat) (st : St) : codeB Try.prog E ⟨f, 29, b, ro⟩ n75_5 st = drawS [0, 1, 0, 4, 0, 16, 0, 127, 0, 256, 0, 1024, 0, 7168, 0, 16384, 0, 65536, 0, 458752, 1048320, 255, 4194303] (runOpsF Try.prog E b q75_5 (ops [true, true, false] Try.f75) st) := GE.draw_step (id := 2) (by kernel_rfl) (by kernel_rfl) (by kernel_rfl) (by kernel_rfl)
theorem n75_6s (E : Ev) (cx : Cx) (st : St) : codeB Try.prog E cx n75_6 st = some (.ret, st) := GE.ret_step (by kernel_rfl)
theorem n75_4s (E : Ev) (cx : Cx) (st : St) : codeB Try.prog E cx n75_4 st = thenS (codeB Try.prog E cx n75_5 st) (codeB Try.prog E cx n75_6) := GE.seq_step (by kernel_rfl)
theorem n75_2s (E : Ev) (cx : Cx) (st : St) : codeB Try.prog E cx n75_2 st = thenS (codeB Try.prog E cx n75_3 st) (codeB Try.prog E cx n75_4) := GE.seq_step (by kernel_rfl)
theorem n75_0s (E : Ev) (cx : Cx) (st : St) : codeB Try.prog E cx n75_0 st = thenS (codeB Try.prog E cx n75_1 st) (codeB Try.prog E cx n75_2) := GE.seq_step (by kernel_rfl)
noncomputable def n24_0 : Code := sub [] (bodyOf Try.f24)
noncomputable def n24_1 : Code := sub [false] (bodyOf Try.f24)
noncomputable def q24_1 : List Oper := ops [false] Try.f24
noncomputable def n24_2 : Code := sub [true] (bodyOf Try.f24)
noncomputable def n24_3 : Code := sub [true, false] (bodyOf Try.f24)
noncomputable def n24_4 : Code := sub [true, false, false] (bodyOf Try.f24)
noncomputable def q24_4 : List Oper := ops [true, false, false] Try.f24
noncomputable def n24_5 : Code := sub [true, false, true] (bodyOf Try.f24)
noncomputable def n24_6 : Code := sub [true, false, true, false] (bodyOf Try.f24)
noncomputable def n24_7 : Code := sub [true, false, true, false, false] (bodyOf Try.f24)
noncomputable def q24_7 : List Oper := ops [true, false, true, false, false] Try.f24
noncomputable def n24_8 : Code := sub [true, false, true, false, true] (bodyOf Try.f24)
noncomputable def n24_9 : Code := sub [true, false, true, true] (bodyOf Try.f24)
noncomputable def n24_10 : Code := sub [true, true] (bodyOf Try.f24)
noncomputable def n24_11 : Code := sub [true, true, false] (bodyOf Try.f24)
noncomputable def q24_11 : List Oper := ops [true, true, false] Try.f24
noncomputable def n24_12 : Code := sub [true, true, true] (bodyOf Try.f24)
theorem body24 : Try.f24.body = some n24_0 := by kernel_rfl
theorem run24 (E : Ev) (args : List Value) (h : List Blk) (hl : args.length ≤ 20) : runB Try.prog E 24 args h = endS Try.prog [.tmp 4, .tmp 5] h.length (codeB Try.prog E ⟨24, 20, h.length, none⟩ n24_0 ⟨enumT 0 args, h, []⟩) := GE.run_step Try.func24 body24 (by kernel_rfl) (by decide) (by kernel_rfl) hl
theorem n24_1s (E : Ev) (f : FuncId) (b : Nat) (ro : Option Nat) (st : St) : codeB Try.prog E ⟨f, 20, b, ro⟩ n24_1 st = plainS (runOps Try.prog E b q24_1 (ops [false] Try.f24) st) := GE.region_step (id := 0) (by kernel_rfl) (by kernel_rfl)
theorem n24_4s (E : Ev) (f : FuncId) (b : Nat) (ro : Option Nat) (st : St) : codeB Try.prog E ⟨f, 20, b, ro⟩ n24_4 st = plainS (runOps Try.prog E b q24_4 (ops [true, false, false] Try.f24) st) := GE.region_step (id := 1) (by kernel_rfl) (by kernel_rfl)
theorem n24_7s (E : Ev) (f : FuncId) (b : Nat) (ro : Option Nat) (st : St) : codeB Try.prog E ⟨f, 20, b, ro⟩ n24_7 st = plainS (runOps Try.prog E b q24_7 (ops [true, false, true, false, false] Try.f24) st) := GE.region_step (id := 2) (by kernel_rfl) (by kernel_rfl)
theorem n24_8s (E : Ev) (cx : Cx) (st : St) : codeB Try.prog E cx n24_8 st = some (.ret, st) := GE.ret_step (by kernel_rfl)
theorem n24_6s (E : Ev) (cx : Cx) (st : St) : codeB Try.prog E cx n24_6 st = thenS (codeB Try.prog E cx n24_7 st) (codeB Try.prog E cx n24_8) := GE.seq_step (by kernel_rfl)
theorem n24_9s (E : Ev) (cx : Cx) (st : St) : codeB Try.prog E cx n24_9 st = some (.normal, st) := GE.skip_step (by kernel_rfl)
theorem n24_5s (E : Ev) (cx : Cx) (st : St) : codeB Try.prog E cx n24_5 st = condS (codeB Try.prog E cx n24_6) (codeB Try.prog E cx n24_9) (lk st.σ 9) st := GE.cond_step (c := .tmp 9) (by kernel_rfl)
theorem n24_3s (E : Ev) (cx : Cx) (st : St) : codeB Try.prog E cx n24_3 st = thenS (codeB Try.prog E cx n24_4 st) (codeB Try.prog E cx n24_5) := GE.seq_step (by kernel_rfl)
theorem n24_11s (E : Ev) (f : FuncId) (b : Nat) (ro : Option Nat) (st : St) : codeB Try.prog E ⟨f, 20, b, ro⟩ n24_11 st = plainS (runOps Try.prog E b q24_11 (ops [true, true, false] Try.f24) st) := GE.region_step (id := 3) (by kernel_rfl) (by kernel_rfl)
theorem n24_12s (E : Ev) (cx : Cx) (st : St) : codeB Try.prog E cx n24_12 st = some (.ret, st) := GE.ret_step (by kernel_rfl)
theorem n24_10s (E : Ev) (cx : Cx) (st : St) : codeB Try.prog E cx n24_10 st = thenS (codeB Try.prog E cx n24_11 st) (codeB Try.prog E cx n24_12) := GE.seq_step (by kernel_rfl)
theorem n24_2s (E : Ev) (cx : Cx) (st : St) : codeB Try.prog E cx n24_2 st = thenS (codeB Try.prog E cx n24_3 st) (codeB Try.prog E cx n24_10) := GE.seq_step (by kernel_rfl)
theorem n24_0s (E : Ev) (cx : Cx) (st : St) : codeB Try.prog E cx n24_0 st = thenS (codeB Try.prog E cx n24_1 st) (codeB Try.prog E cx n24_2) := GE.seq_step (by kernel_rfl)
noncomputable def n26_0 : Code := sub [] (bodyOf Try.f26)
noncomputable def n26_1 : Code := sub [false] (bodyOf Try.f26)
noncomputable def q26_1 : List Oper := ops [false] Try.f26
noncomputable def n26_2 : Code := sub [true] (bodyOf Try.f26)
noncomputable def n26_3 : Code := sub [true, false] (bodyOf Try.f26)
noncomputable def n26_4 : Code := sub [true, false, false] (bodyOf Try.f26)
noncomputable def q26_4 : List Oper := ops [true, false, false] Try.f26
noncomputable def n26_5 : Code := sub [true, false, true] (bodyOf Try.f26)
noncomputable def n26_6 : Code := sub [true, false, true, false] (bodyOf Try.f26)
noncomputable def n26_7 : Code := sub [true, false, true, false, false] (bodyOf Try.f26)
noncomputable def q26_7 : List Oper := ops [true, false, true, false, false] Try.f26
noncomputable def n26_8 : Code := sub [true, false, true, false, true] (bodyOf Try.f26)
noncomputable def n26_9 : Code := sub [true, false, true, true] (bodyOf Try.f26)
noncomputable def n26_10 : Code := sub [true, true] (bodyOf Try.f26)
noncomputable def n26_11 : Code := sub [true, true, false] (bodyOf Try.f26)
noncomputable def n26_12 : Code := sub [true, true, false, false] (bodyOf Try.f26)
noncomputable def q26_12 : List Oper := ops [true, true, false, false] Try.f26
noncomputable def n26_13 : Code := sub [true, true, false, true] (bodyOf Try.f26)
noncomputable def n26_14 : Code := sub [true, true, false, true, false] (bodyOf Try.f26)
noncomputable def n26_15 : Code := sub [true, true, false, true, false, false] (bodyOf Try.f26)
noncomputable def q26_15 : List Oper := ops [true, true, false, true, false, false] Try.f26
noncomputable def n26_16 : Code := sub [true, true, false, true, false, true] (bodyOf Try.f26)
noncomputable def n26_17 : Code := sub [true, true, false, true, false, true, false] (bodyOf Try.f26)
noncomputable def n26_18 : Code := sub [true, true, false, true, false, true, false, false] (bodyOf Try.f26)
noncomputable def q26_18 : List Oper := ops [true, true, false, true, false, true, false, false] Try.f26
noncomputable def n26_19 : Code := sub [true, true, false, true, false, true, false, true] (bodyOf Try.f26)
noncomputable def n26_20 : Code := sub [true, true, false, true, false, true, false, true, false] (bodyOf Try.f26)
noncomputable def q26_20 : List Oper := ops [true, true, false, true, false, true, false, true, false] Try.f26
noncomputable def n26_21 : Code := sub [true, true, false, true, false, true, false, true, true] (bodyOf Try.f26)
noncomputable def n26_22 : Code := sub [true, true, false, true, false, true, true] (bodyOf Try.f26)
noncomputable def n26_23 : Code := sub [true, true, false, true, false, true, true, false] (bodyOf Try.f26)
noncomputable def q26_23 : List Oper := ops [true, true, false, true, false, true, true, false] Try.f26
noncomputable def n26_24 : Code := sub [true, true, false, true, false, true, true, true] (bodyOf Try.f26)
noncomputable def n26_25 : Code := sub [true, true, false, true, false, true, true, true, false] (bodyOf Try.f26)
noncomputable def n26_26 : Code := sub [true, true, false, true, false, true, true, true, false, false] (bodyOf Try.f26)
noncomputable def q26_26 : List Oper := ops [true, true, false, true, false, true, true, true, false, false] Try.f26
noncomputable def n26_27 : Code := sub [true, true, false, true, false, true, true, true, false, true] (bodyOf Try.f26)
noncomputable def n26_28 : Code := sub [true, true, false, true, false, true, true, true, false, true, false] (bodyOf Try.f26)
noncomputable def q26_28 : List Oper := ops [true, true, false, true, false, true, true, true, false, true, false] Try.f26
noncomputable def n26_29 : Code := sub [true, true, false, true, false, true, true, true, false, true, true] (bodyOf Try.f26)
noncomputable def n26_30 : Code := sub [true, true, false, true, false, true, true, true, true] (bodyOf Try.f26)
noncomputable def n26_31 : Code := sub [true, true, true] (bodyOf Try.f26)
noncomputable def n26_32 : Code := sub [true, true, true, false] (bodyOf Try.f26)
noncomputable def q26_32 : List Oper := ops [true, true, true, false] Try.f26
noncomputable def n26_33 : Code := sub [true, true, true, true] (bodyOf Try.f26)
theorem body26 : Try.f26.body = some n26_0 := by kernel_rfl
theorem run26 (E : Ev) (args : List Value) (h : List Blk) (hl : args.length ≤ 34) : runB Try.prog E 26 args h = endS Try.prog [.cell 4 47, .tmp 5] h.length (codeB Try.prog E ⟨26, 34, h.length, none⟩ n26_0 ⟨enumT 0 args, h, []⟩) := GE.run_step Try.func26 body26 (by kernel_rfl) (by decide) (by kernel_rfl) hl
theorem n26_1s (E : Ev) (f : FuncId) (b : Nat) (ro : Option Nat) (st : St) : codeB Try.prog E ⟨f, 34, b, ro⟩ n26_1 st = plainS (runOps Try.prog E b q26_1 (ops [false] Try.f26) st) := GE.region_step (id := 0) (by kernel_rfl) (by kernel_rfl)
theorem n26_4s (E : Ev) (f : FuncId) (b : Nat) (ro : Option Nat) (st : St) : codeB Try.prog E ⟨f, 34, b, ro⟩ n26_4 st = plainS (runOps Try.prog E b q26_4 (ops [true, false, false] Try.f26) st) := GE.region_step (id := 1) (by kernel_rfl) (by kernel_rfl)
theorem n26_7s (E : Ev) (f : FuncId) (b : Nat) (ro : Option Nat) (st : St) : codeB Try.prog E ⟨f, 34, b, ro⟩ n26_7 st = plainS (runOps Try.prog E b q26_7 (ops [true, false, true, false, false] Try.f26) st) := GE.region_step (id := 2) (by kernel_rfl) (by kernel_rfl)
theorem n26_8s (E : Ev) (cx : Cx) (st : St) : codeB Try.prog E cx n26_8 st = some (.ret, st) := GE.ret_step (by kernel_rfl)
theorem n26_6s (E : Ev) (cx : Cx) (st : St) : codeB Try.prog E cx n26_6 st = thenS (codeB Try.prog E cx n26_7 st) (codeB Try.prog E cx n26_8) := GE.seq_step (by kernel_rfl)
theorem n26_9s (E : Ev) (cx : Cx) (st : St) : codeB Try.prog E cx n26_9 st = some (.normal, st) := GE.skip_step (by kernel_rfl)
theorem n26_5s (E : Ev) (cx : Cx) (st : St) : codeB Try.prog E cx n26_5 st = condS (codeB Try.prog E cx n26_6) (codeB Try.prog E cx n26_9) (lk st.σ 11) st := GE.cond_step (c := .tmp 11) (by kernel_rfl)
theorem n26_3s (E : Ev) (cx : Cx) (st : St) : codeB Try.prog E cx n26_3 st = thenS (codeB Try.prog E cx n26_4 st) (codeB Try.prog E cx n26_5) := GE.seq_step (by kernel_rfl)
theorem n26_12s (E : Ev) (f : FuncId) (b : Nat) (ro : Option Nat) (st : St) : codeB Try.prog E ⟨f, 34, b, ro⟩ n26_12 st = plainS (runOps Try.prog E b q26_12 (ops [true, true, false, false] Try.f26) st) := GE.region_step (id := 3) (by kernel_rfl) (by kernel_rfl)
theorem n26_15s (E : Ev) (f : FuncId) (b : Nat) (ro : Option Nat) (st : St) : codeB Try.prog E ⟨f, 34, b, ro⟩ n26_15 st = plainS (runOps Try.prog E b q26_15 (ops [true, true, false, true, false, false] Try.f26) st) := GE.region_step (id := 4) (by kernel_rfl) (by kernel_rfl)
theorem n26_18s (E : Ev) (f : FuncId) (b : Nat) (ro : Option Nat) (st : St) : codeB Try.prog E ⟨f, 34, b, ro⟩ n26_18 st = plainS (runOps Try.prog E b q26_18 (ops [true, true, false, true, false, true, false, false] Try.f26) st) := GE.region_step (id := 5) (by kernel_rfl) (by kernel_rfl)
theorem n26_20s (E : Ev) (f : FuncId) (b : Nat) (ro : Option Nat) (st : St) : codeB Try.prog E ⟨f, 34, b, ro⟩ n26_20 st = plainS (runOps Try.prog E b q26_20 (ops [true, true, false, true, false, true, false, true, false] Try.f26) st) := GE.region_step (id := 6) (by kernel_rfl) (by kernel_rfl)
theorem n26_21s (E : Ev) (cx : Cx) (st : St) : codeB Try.prog E cx n26_21 st = some (.ret, st) := GE.ret_step (by kernel_rfl)
theorem n26_19s (E : Ev) (cx : Cx) (st : St) : codeB Try.prog E cx n26_19 st = thenS (codeB Try.prog E cx n26_20 st) (codeB Try.prog E cx n26_21) := GE.seq_step (by kernel_rfl)
theorem n26_17s (E : Ev) (cx : Cx) (st : St) : codeB Try.prog E cx n26_17 st = thenS (codeB Try.prog E cx n26_18 st) (codeB Try.prog E cx n26_19) := GE.seq_step (by kernel_rfl)
theorem n26_23s (E : Ev) (f : FuncId) (b : Nat) (ro : Option Nat) (st : St) : codeB Try.prog E ⟨f, 34, b, ro⟩ n26_23 st = plainS (runOps Try.prog E b q26_23 (ops [true, true, false, true, false, true, true, false] Try.f26) st) := GE.region_step (id := 7) (by kernel_rfl) (by kernel_rfl)
theorem n26_26s (E : Ev) (f : FuncId) (b : Nat) (ro : Option Nat) (st : St) : codeB Try.prog E ⟨f, 34, b, ro⟩ n26_26 st = plainS (runOps Try.prog E b q26_26 (ops [true, true, false, true, false, true, true, true, false, false] Try.f26) st) := GE.region_step (id := 8) (by kernel_rfl) (by kernel_rfl)
theorem n26_28s (E : Ev) (f : FuncId) (b : Nat) (ro : Option Nat) (st : St) : codeB Try.prog E ⟨f, 34, b, ro⟩ n26_28 st = plainS (runOps Try.prog E b q26_28 (ops [true, true, false, true, false, true, true, true, false, true, false] Try.f26) st) := GE.region_step (id := 9) (by kernel_rfl) (by kernel_rfl)
theorem n26_29s (E : Ev) (cx : Cx) (st : St) : codeB Try.prog E cx n26_29 st = some (.ret, st) := GE.ret_step (by kernel_rfl)
theorem n26_27s (E : Ev) (cx : Cx) (st : St) : codeB Try.prog E cx n26_27 st = thenS (codeB Try.prog E cx n26_28 st) (codeB Try.prog E cx n26_29) := GE.seq_step (by kernel_rfl)
theorem n26_25s (E : Ev) (cx : Cx) (st : St) : codeB Try.prog E cx n26_25 st = thenS (codeB Try.prog E cx n26_26 st) (codeB Try.prog E cx n26_27) := GE.seq_step (by kernel_rfl)
theorem n26_30s (E : Ev) (cx : Cx) (st : St) : codeB Try.prog E cx n26_30 st = some (.normal, st) := GE.skip_step (by kernel_rfl)
theorem n26_24s (E : Ev) (cx : Cx) (st : St) : codeB Try.prog E cx n26_24 st = condS (codeB Try.prog E cx n26_25) (codeB Try.prog E cx n26_30) (lk st.σ 29) st := GE.cond_step (c := .tmp 29) (by kernel_rfl)
theorem n26_22s (E : Ev) (cx : Cx) (st : St) : codeB Try.prog E cx n26_22 st = thenS (codeB Try.prog E cx n26_23 st) (codeB Try.prog E cx n26_24) := GE.seq_step (by kernel_rfl)
theorem n26_16s (E : Ev) (cx : Cx) (st : St) : codeB Try.prog E cx n26_16 st = condS (codeB Try.prog E cx n26_17) (codeB Try.prog E cx n26_22) (lk st.σ 24) st := GE.cond_step (c := .tmp 24) (by kernel_rfl)
theorem n26_14s (E : Ev) (cx : Cx) (st : St) : codeB Try.prog E cx n26_14 st = thenS (codeB Try.prog E cx n26_15 st) (codeB Try.prog E cx n26_16) := GE.seq_step (by kernel_rfl)
theorem n26_13s (E : Ev) (cx : Cx) (st : St) : codeB Try.prog E cx n26_13 st = blockS 0 (codeB Try.prog E cx n26_14 st) st := GE.block_step (by kernel_rfl)
theorem n26_11s (E : Ev) (cx : Cx) (st : St) : codeB Try.prog E cx n26_11 st = thenS (codeB Try.prog E cx n26_12 st) (codeB Try.prog E cx n26_13) := GE.seq_step (by kernel_rfl)
theorem n26_32s (E : Ev) (f : FuncId) (b : Nat) (ro : Option Nat) (st : St) : codeB Try.prog E ⟨f, 34, b, ro⟩ n26_32 st = plainS (runOps Try.prog E b q26_32 (ops [true, true, true, false] Try.f26) st) := GE.region_step (id := 10) (by kernel_rfl) (by kernel_rfl)
theorem n26_33s (E : Ev) (cx : Cx) (st : St) : codeB Try.prog E cx n26_33 st = some (.ret, st) := GE.ret_step (by kernel_rfl)
theorem n26_31s (E : Ev) (cx : Cx) (st : St) : codeB Try.prog E cx n26_31 st = thenS (codeB Try.prog E cx n26_32 st) (codeB Try.prog E cx n26_33) := GE.seq_step (by kernel_rfl)
theorem n26_10s (E : Ev) (cx : Cx) (st : St) : codeB Try.prog E cx n26_10 st = thenS (codeB Try.prog E cx n26_11 st) (codeB Try.prog E cx n26_31) := GE.seq_step (by kernel_rfl)
theorem n26_2s (E : Ev) (cx : Cx) (st : St) : codeB Try.prog E cx n26_2 st = thenS (codeB Try.prog E cx n26_3 st) (codeB Try.prog E cx n26_10) := GE.seq_step (by kernel_rfl)
theorem n26_0s (E : Ev) (cx : Cx) (st : St) : codeB Try.prog E cx n26_0 st = thenS (codeB Try.prog E cx n26_1 st) (codeB Try.prog E cx n26_2) := GE.seq_step (by kernel_rfl)
noncomputable def n25_0 : Code := sub [] (bodyOf Try.f25)
noncomputable def n25_1 : Code := sub [false] (bodyOf Try.f25)
noncomputable def q25_1 : List Oper := ops [false] Try.f25
noncomputable def n25_2 : Code := sub [true] (bodyOf Try.f25)
noncomputable def n25_3 : Code := sub [true, false] (bodyOf Try.f25)
noncomputable def n25_4 : Code := sub [true, false, false] (bodyOf Try.f25)
noncomputable def q25_4 : List Oper := ops [true, false, false] Try.f25
noncomputable def n25_5 : Code := sub [true, false, true] (bodyOf Try.f25)
noncomputable def n25_6 : Code := sub [true, false, true, false] (bodyOf Try.f25)
noncomputable def n25_7 : Code := sub [true, false, true, false, false] (bodyOf Try.f25)
noncomputable def q25_7 : List Oper := ops [true, false, true, false, false] Try.f25
noncomputable def n25_8 : Code := sub [true, false, true, false, true] (bodyOf Try.f25)
noncomputable def n25_9 : Code := sub [true, false, true, true] (bodyOf Try.f25)
noncomputable def n25_10 : Code := sub [true, true] (bodyOf Try.f25)
noncomputable def n25_11 : Code := sub [true, true, false] (bodyOf Try.f25)
noncomputable def q25_11 : List Oper := ops [true, true, false] Try.f25
noncomputable def n25_12 : Code := sub [true, true, true] (bodyOf Try.f25)
theorem body25 : Try.f25.body = some n25_0 := by kernel_rfl
theorem run25 (E : Ev) (args : List Value) (h : List Blk) (hl : args.length ≤ 19) : runB Try.prog E 25 args h = endS Try.prog [.tmp 4, .tmp 5] h.length (codeB Try.prog E ⟨25, 19, h.length, none⟩ n25_0 ⟨enumT 0 args, h, []⟩) := GE.run_step Try.func25 body25 (by kernel_rfl) (by decide) (by kernel_rfl) hl
theorem n25_1s (E : Ev) (f : FuncId) (b : Nat) (ro : Option Nat) (st : St) : codeB Try.prog E ⟨f, 19, b, ro⟩ n25_1 st = plainS (runOps Try.prog E b q25_1 (ops [false] Try.f25) st) := GE.region_step (id := 0) (by kernel_rfl) (by kernel_rfl)
theorem q25_4g3 : gd q25_4 3 = some 9 := by kernel_rfl
theorem n25_4s (E : Ev) (f : FuncId) (b : Nat) (ro : Option Nat) (st : St) : codeB Try.prog E ⟨f, 19, b, ro⟩ n25_4 st = plainS (runOps Try.prog E b q25_4 (ops [true, false, false] Try.f25) st) := GE.region_step (id := 1) (by kernel_rfl) (by kernel_rfl)
theorem n25_7s (E : Ev) (f : FuncId) (b : Nat) (ro : Option Nat) (st : St) : codeB Try.prog E ⟨f, 19, b, ro⟩ n25_7 st = plainS (runOps Try.prog E b q25_7 (ops [true, false, true, false, false] Try.f25) st) := GE.region_step (id := 2) (by kernel_rfl) (by kernel_rfl)
theorem n25_8s (E : Ev) (cx : Cx) (st : St) : codeB Try.prog E cx n25_8 st = some (.ret, st) := GE.ret_step (by kernel_rfl)
theorem n25_6s (E : Ev) (cx : Cx) (st : St) : codeB Try.prog E cx n25_6 st = thenS (codeB Try.prog E cx n25_7 st) (codeB Try.prog E cx n25_8) := GE.seq_step (by kernel_rfl)
theorem n25_9s (E : Ev) (cx : Cx) (st : St) : codeB Try.prog E cx n25_9 st = some (.normal, st) := GE.skip_step (by kernel_rfl)
theorem n25_5s (E : Ev) (cx : Cx) (st : St) : codeB Try.prog E cx n25_5 st = condS (codeB Try.prog E cx n25_6) (codeB Try.prog E cx n25_9) (lk st.σ 13) st := GE.cond_step (c := .tmp 13) (by kernel_rfl)
theorem n25_3s (E : Ev) (cx : Cx) (st : St) : codeB Try.prog E cx n25_3 st = thenS (codeB Try.prog E cx n25_4 st) (codeB Try.prog E cx n25_5) := GE.seq_step (by kernel_rfl)
theorem n25_11s (E : Ev) (f : FuncId) (b : Nat) (ro : Option Nat) (st : St) : codeB Try.prog E ⟨f, 19, b, ro⟩ n25_11 st = plainS (runOps Try.prog E b q25_11 (ops [true, true, false] Try.f25) st) := GE.region_step (id := 3) (by kernel_rfl) (by kernel_rfl)
theorem n25_12s (E : Ev) (cx : Cx) (st : St) : codeB Try.prog E cx n25_12 st = some (.ret, st) := GE.ret_step (by kernel_rfl)
theorem n25_10s (E : Ev) (cx : Cx) (st : St) : codeB Try.prog E cx n25_10 st = thenS (codeB Try.prog E cx n25_11 st) (codeB Try.prog E cx n25_12) := GE.seq_step (by kernel_rfl)
theorem n25_2s (E : Ev) (cx : Cx) (st : St) : codeB Try.prog E cx n25_2 st = thenS (codeB Try.prog E cx n25_3 st) (codeB Try.prog E cx n25_10) := GE.seq_step (by kernel_rfl)
theorem n25_0s (E : Ev) (cx : Cx) (st : St) : codeB Try.prog E cx n25_0 st = thenS (codeB Try.prog E cx n25_1 st) (codeB Try.prog E cx n25_2) := GE.seq_step (by kernel_rfl)
noncomputable def n27_0 : Code := sub [] (bodyOf Try.f27)
noncomputable def n27_1 : Code := sub [false] (bodyOf Try.f27)
noncomputable def q27_1 : List Oper := ops [false] Try.f27
noncomputable def n27_2 : Code := sub [true] (bodyOf Try.f27)
noncomputable def n27_3 : Code := sub [true, false] (bodyOf Try.f27)
noncomputable def q27_3 : List Oper := ops [true, false] Try.f27
noncomputable def n27_4 : Code := sub [true, true] (bodyOf Try.f27)
noncomputable def n27_5 : Code := sub [true, true, false] (bodyOf Try.f27)
noncomputable def n27_6 : Code := sub [true, true, false, false] (bodyOf Try.f27)
noncomputable def q27_6 : List Oper := ops [true, true, false, false] Try.f27
noncomputable def n27_7 : Code := sub [true, true, false, true] (bodyOf Try.f27)
noncomputable def n27_8 : Code := sub [true, true, false, true, false] (bodyOf Try.f27)
noncomputable def q27_8 : List Oper := ops [true, true, false, true, false] Try.f27
noncomputable def n27_9 : Code := sub [true, true, false, true, true] (bodyOf Try.f27)
noncomputable def n27_10 : Code := sub [true, true, true] (bodyOf Try.f27)
noncomputable def n27_11 : Code := sub [true, true, true, false] (bodyOf Try.f27)
noncomputable def q27_11 : List Oper := ops [true, true, true, false] Try.f27
noncomputable def n27_12 : Code := sub [true, true, true, true] (bodyOf Try.f27)
theorem body27 : Try.f27.body = some n27_0 := by kernel_rfl
theorem run27 (E : Ev) (args : List Value) (h : List Blk) (hl : args.length ≤ 24) : runB Try.prog E 27 args h = endS Try.prog [.tmp 4] h.length (codeB Try.prog E ⟨27, 24, h.length, none⟩ n27_0 ⟨enumT 0 args, h, []⟩) := GE.run_step Try.func27 body27 (by kernel_rfl) (by decide) (by kernel_rfl) hl
theorem n27_1s (E : Ev) (f : FuncId) (b : Nat) (ro : Option Nat) (st : St) : codeB Try.prog E ⟨f, 24, b, ro⟩ n27_1 st = plainS (runOps Try.prog E b q27_1 (ops [false] Try.f27) st) := GE.region_step (id := 0) (by kernel_rfl) (by kernel_rfl)
theorem n27_3s (E : Ev) (f : FuncId) (b : Nat) (ro : Option Nat) (st : St) : codeB Try.prog E ⟨f, 24, b, ro⟩ n27_3 st = plainS (runOps Try.prog E b q27_3 (ops [true, false] Try.f27) st) := GE.region_step (id := 1) (by kernel_rfl) (by kernel_rfl)
theorem q27_6g2 : gd q27_6 2 = some 15 := by kernel_rfl
theorem q27_6g6 : gd q27_6 6 = some 19 := by kernel_rfl
theorem n27_6s (E : Ev) (f : FuncId) (b : Nat) (ro : Option Nat) (st : St) : codeB Try.prog E ⟨f, 24, b, ro⟩ n27_6 st = plainS (runOps Try.prog E b q27_6 (ops [true, true, false, false] Try.f27) st) := GE.region_step (id := 2) (by kernel_rfl) (by kernel_rfl)
theorem n27_8s (E : Ev) (f : FuncId) (b : Nat) (ro : Option Nat) (st : St) : codeB Try.prog E ⟨f, 24, b, ro⟩ n27_8 st = plainS (runOps Try.prog E b q27_8 (ops [true, true, false, true, false] Try.f27) st) := GE.region_step (id := 3) (by kernel_rfl) (by kernel_rfl)
theorem n27_9s (E : Ev) (cx : Cx) (st : St) : codeB Try.prog E cx n27_9 st = some (.normal, st) := GE.skip_step (by kernel_rfl)
theorem n27_7s (E : Ev) (cx : Cx) (st : St) : codeB Try.prog E cx n27_7 st = condS (codeB Try.prog E cx n27_8) (codeB Try.prog E cx n27_9) (lk st.σ 22) st := GE.cond_step (c := .tmp 22) (by kernel_rfl)
theorem n27_5s (E : Ev) (cx : Cx) (st : St) : codeB Try.prog E cx n27_5 st = thenS (codeB Try.prog E cx n27_6 st) (codeB Try.prog E cx n27_7) := GE.seq_step (by kernel_rfl)
theorem n27_11s (E : Ev) (f : FuncId) (b : Nat) (ro : Option Nat) (st : St) : codeB Try.prog E ⟨f, 24, b, ro⟩ n27_11 st = plainS (runOps Try.prog E b q27_11 (ops [true, true, true, false] Try.f27) st) := GE.region_step (id := 4) (by kernel_rfl) (by kernel_rfl)
theorem n27_12s (E : Ev) (cx : Cx) (st : St) : codeB Try.prog E cx n27_12 st = some (.ret, st) := GE.ret_step (by kernel_rfl)
theorem n27_10s (E : Ev) (cx : Cx) (st : St) : codeB Try.prog E cx n27_10 st = thenS (codeB Try.prog E cx n27_11 st) (codeB Try.prog E cx n27_12) := GE.seq_step (by kernel_rfl)
theorem n27_4s (E : Ev) (cx : Cx) (st : St) : codeB Try.prog E cx n27_4 st = thenS (codeB Try.prog E cx n27_5 st) (codeB Try.prog E cx n27_10) := GE.seq_step (by kernel_rfl)
theorem n27_2s (E : Ev) (cx : Cx) (st : St) : codeB Try.prog E cx n27_2 st = thenS (codeB Try.prog E cx n27_3 st) (codeB Try.prog E cx n27_4) := GE.seq_step (by kernel_rfl)
theorem n27_0s (E : Ev) (cx : Cx) (st : St) : codeB Try.prog E cx n27_0 st = thenS (codeB Try.prog E cx n27_1 st) (codeB Try.prog E cx n27_2) := GE.seq_step (by kernel_rfl)
noncomputable def n28_0 : Code := sub [] (bodyOf Try.f28)
noncomputable def n28_1 : Code := sub [false] (bodyOf Try.f28)
noncomputable def q28_1 : List Oper := ops [false] Try.f28
noncomputable def n28_2 : Code := sub [true] (bodyOf Try.f28)
noncomputable def n28_3 : Code := sub [true, false] (bodyOf Try.f28)
noncomputable def q28_3 : List Oper := ops [true, false] Try.f28
noncomputable def n28_4 : Code := sub [true, true] (bodyOf Try.f28)
noncomputable def n28_5 : Code := sub [true, true, false] (bodyOf Try.f28)
noncomputable def n28_6 : Code := sub [true, true, false, false] (bodyOf Try.f28)
noncomputable def q28_6 : List Oper := ops [true, true, false, false] Try.f28
noncomputable def n28_7 : Code := sub [true, true, false, true] (bodyOf Try.f28)
noncomputable def n28_8 : Code := sub [true, true, false, true, false] (bodyOf Try.f28)
noncomputable def n28_9 : Code := sub [true, true, false, true, false, false] (bodyOf Try.f28)
noncomputable def q28_9 : List Oper := ops [true, true, false, true, false, false] Try.f28
noncomputable def n28_10 : Code := sub [true, true, false, true, false, true] (bodyOf Try.f28)
noncomputable def n28_11 : Code := sub [true, true, false, true, true] (bodyOf Try.f28)
noncomputable def n28_12 : Code := sub [true, true, true] (bodyOf Try.f28)
noncomputable def n28_13 : Code := sub [true, true, true, false] (bodyOf Try.f28)
noncomputable def q28_13 : List Oper := ops [true, true, true, false] Try.f28
noncomputable def n28_14 : Code := sub [true, true, true, true] (bodyOf Try.f28)
theorem body28 : Try.f28.body = some n28_0 := by kernel_rfl
theorem run28 (E : Ev) (args : List Value) (h : List Blk) (hl : args.length ≤ 73) : runB Try.prog E 28 args h = endS Try.prog [.tmp 6] h.length (codeB Try.prog E ⟨28, 73, h.length, none⟩ n28_0 ⟨enumT 0 args, h, []⟩) := GE.run_step Try.func28 body28 (by kernel_rfl) (by decide) (by kernel_rfl) hl
theorem n28_1s (E : Ev) (f : FuncId) (b : Nat) (ro : Option Nat) (st : St) : codeB Try.prog E ⟨f, 73, b, ro⟩ n28_1 st = plainS (runOps Try.prog E b q28_1 (ops [false] Try.f28) st) := GE.region_step (id := 0) (by kernel_rfl) (by kernel_rfl)
theorem n28_3s (E : Ev) (f : FuncId) (b : Nat) (ro : Option Nat) (st : St) : codeB Try.prog E ⟨f, 73, b, ro⟩ n28_3 st = plainS (runOps Try.prog E b q28_3 (ops [true, false] Try.f28) st) := GE.region_step (id := 1) (by kernel_rfl) (by kernel_rfl)
theorem n28_6s (E : Ev) (f : FuncId) (b : Nat) (ro : Option Nat) (st : St) : codeB Try.prog E ⟨f, 73, b, ro⟩ n28_6 st = plainS (runOps Try.prog E b q28_6 (ops [true, true, false, false] Try.f28) st) := GE.region_step (id := 2) (by kernel_rfl) (by kernel_rfl)
theorem q28_9g5 : gd q28_9 5 = some 16 := by kernel_rfl
theorem n28_9s (E : Ev) (f : FuncId) (b : Nat) (ro : Option Nat) (st : St) : codeB Try.prog E ⟨f, 73, b, ro⟩ n28_9 st = drawS [0, 1, 0, 4, 15, 31, 63, 127, 63, 319, 63, 831, 3903, 7999, 63, 63, 32831, 114751, 63, 245823, 1032255, 2080831, 4194111, 8388607, 63, 63, 16777279, 117440575, 251658303, 536870911, 1073741823, 2147483647] (runOpsF Try.prog E b q28_9 (ops [true, true, false, true, false, false] Try.f28) st) := GE.draw_step (id := 3) (by kernel_rfl) (by kernel_rfl) (by kernel_rfl) (by kernel_rfl)
theorem n28_10s (E : Ev) (cx : Cx) (st : St) : codeB Try.prog E cx n28_10 st = some (.ret, st) := GE.ret_step (by kernel_rfl)
theorem n28_8s (E : Ev) (cx : Cx) (st : St) : codeB Try.prog E cx n28_8 st = thenS (codeB Try.prog E cx n28_9 st) (codeB Try.prog E cx n28_10) := GE.seq_step (by kernel_rfl)
theorem n28_11s (E : Ev) (cx : Cx) (st : St) : codeB Try.prog E cx n28_11 st = some (.normal, st) := GE.skip_step (by kernel_rfl)
theorem n28_7s (E : Ev) (cx : Cx) (st : St) : codeB Try.prog E cx n28_7 st = condS (codeB Try.prog E cx n28_8) (codeB Try.prog E cx n28_11) (lk st.σ 10) st := GE.cond_step (c := .tmp 10) (by kernel_rfl)
theorem n28_5s (E : Ev) (cx : Cx) (st : St) : codeB Try.prog E cx n28_5 st = thenS (codeB Try.prog E cx n28_6 st) (codeB Try.prog E cx n28_7) := GE.seq_step (by kernel_rfl)
theorem q28_13g5 : gd q28_13 5 = some 47 := by kernel_rfl
theorem n28_13s (E : Ev) (f : FuncId) (b : Nat) (ro : Option Nat) (st : St) : codeB Try.prog E ⟨f, 73, b, ro⟩ n28_13 st = drawS [0, 1, 0, 4, 15, 31, 63, 127, 63, 63, 575, 319, 3903, 7999, 63, 63, 63, 65599, 229439, 16447, 1032255, 2080831, 4194111, 8388607, 63, 63, 16777279, 117440575, 251658303, 536870911, 1073741823, 2147483647] (runOpsF Try.prog E b q28_13 (ops [true, true, true, false] Try.f28) st) := GE.draw_step (id := 4) (by kernel_rfl) (by kernel_rfl) (by kernel_rfl) (by kernel_rfl)
theorem n28_14s (E : Ev) (cx : Cx) (st : St) : codeB Try.prog E cx n28_14 st = some (.ret, st) := GE.ret_step (by kernel_rfl)
theorem n28_12s (E : Ev) (cx : Cx) (st : St) : codeB Try.prog E cx n28_12 st = thenS (codeB Try.prog E cx n28_13 st) (codeB Try.prog E cx n28_14) := GE.seq_step (by kernel_rfl)
theorem n28_4s (E : Ev) (cx : Cx) (st : St) : codeB Try.prog E cx n28_4 st = thenS (codeB Try.prog E cx n28_5 st) (codeB Try.prog E cx n28_12) := GE.seq_step (by kernel_rfl)
theorem n28_2s (E : Ev) (cx : Cx) (st : St) : codeB Try.prog E cx n28_2 st = thenS (codeB Try.prog E cx n28_3 st) (codeB Try.prog E cx n28_4) := GE.seq_step (by kernel_rfl)
theorem n28_0s (E : Ev) (cx : Cx) (st : St) : codeB Try.prog E cx n28_0 st = thenS (codeB Try.prog E cx n28_1 st) (codeB Try.prog E cx n28_2) := GE.seq_step (by kernel_rfl)
noncomputable def n49_0 : Code := sub [] (bodyOf Try.f49)
noncomputable def n49_1 : Code := sub [false] (bodyOf Try.f49)
noncomputable def q49_1 : List Oper := ops [false] Try.f49
noncomputable def n49_2 : Code := sub [true] (bodyOf Try.f49)
noncomputable def n49_3 : Code := sub [true, false] (bodyOf Try.f49)
noncomputable def q49_3 : List Oper := ops [true, false] Try.f49
noncomputable def n49_4 : Code := sub [true, true] (bodyOf Try.f49)
noncomputable def n49_5 : Code := sub [true, true, false] (bodyOf Try.f49)
noncomputable def n49_6 : Code := sub [true, true, false, false] (bodyOf Try.f49)
noncomputable def q49_6 : List Oper := ops [true, true, false, false] Try.f49
noncomputable def n49_7 : Code := sub [true, true, false, true] (bodyOf Try.f49)
noncomputable def n49_8 : Code := sub [true, true, false, true, false] (bodyOf Try.f49)
noncomputable def n49_9 : Code := sub [true, true, false, true, false, false] (bodyOf Try.f49)
noncomputable def n49_10 : Code := sub [true, true, false, true, false, false, false] (bodyOf Try.f49)
noncomputable def n49_11 : Code := sub [true, true, false, true, false, false, false, false] (bodyOf Try.f49)
noncomputable def q49_11 : List Oper := ops [true, true, false, true, false, false, false, false] Try.f49
noncomputable def n49_12 : Code := sub [true, true, false, true, false, false, false, true] (bodyOf Try.f49)
noncomputable def n49_13 : Code := sub [true, true, false, true, false, false, false, true, false] (bodyOf Try.f49)
noncomputable def n49_14 : Code := sub [true, true, false, true, false, false, false, true, true] (bodyOf Try.f49)
noncomputable def n49_15 : Code := sub [true, true, false, true, false, false, true] (bodyOf Try.f49)
noncomputable def n49_16 : Code := sub [true, true, false, true, false, false, true, false] (bodyOf Try.f49)
noncomputable def n49_17 : Code := sub [true, true, false, true, false, false, true, false, false] (bodyOf Try.f49)
noncomputable def n49_18 : Code := sub [true, true, false, true, false, false, true, false, false, false] (bodyOf Try.f49)
noncomputable def q49_18 : List Oper := ops [true, true, false, true, false, false, true, false, false, false] Try.f49
noncomputable def n49_19 : Code := sub [true, true, false, true, false, false, true, false, false, true] (bodyOf Try.f49)
noncomputable def n49_20 : Code := sub [true, true, false, true, false, false, true, false, false, true, false] (bodyOf Try.f49)
noncomputable def n49_21 : Code := sub [true, true, false, true, false, false, true, false, false, true, false, false] (bodyOf Try.f49)
noncomputable def n49_22 : Code := sub [true, true, false, true, false, false, true, false, false, true, false, false, false] (bodyOf Try.f49)
noncomputable def n49_23 : Code := sub [true, true, false, true, false, false, true, false, false, true, false, false, false, false] (bodyOf Try.f49)
noncomputable def q49_23 : List Oper := ops [true, true, false, true, false, false, true, false, false, true, false, false, false, false] Try.f49
noncomputable def n49_24 : Code := sub [true, true, false, true, false, false, true, false, false, true, false, false, false, true] (bodyOf Try.f49)
noncomputable def n49_25 : Code := sub [true, true, false, true, false, false, true, false, false, true, false, false, false, true, false] (bodyOf Try.f49)
noncomputable def n49_26 : Code := sub [true, true, false, true, false, false, true, false, false, true, false, false, false, true, true] (bodyOf Try.f49)
noncomputable def n49_27 : Code := sub [true, true, false, true, false, false, true, false, false, true, false, false, true] (bodyOf Try.f49)
noncomputable def n49_28 : Code := sub [true, true, false, true, false, false, true, false, false, true, false, false, true, false] (bodyOf Try.f49)
noncomputable def n49_29 : Code := sub [true, true, false, true, false, false, true, false, false, true, false, false, true, false, false] (bodyOf Try.f49)
noncomputable def n49_30 : Code := sub [true, true, false, true, false, false, true, false, false, true, false, false, true, false, false, false] (bodyOf Try.f49)
noncomputable def q49_30 : List Oper := ops [true, true, false, true, false, false, true, false, false, true, false, false, true, false, false, false] Try.f49
noncomputable def n49_31 : Code := sub [true, true, false, true, false, false, true, false, false, true, false, false, true, false, false, true] (bodyOf Try.f49)
noncomputable def n49_32 : Code := sub [true, true, false, true, false, false, true, false, false, true, false, false, true, false, false, true, false] (bodyOf Try.f49)
noncomputable def n49_33 : Code := sub [true, true, false, true, false, false, true, false, false, true, false, false, true, false, false, true, false, false] (bodyOf Try.f49)
noncomputable def q49_33 : List Oper := ops [true, true, false, true, false, false, true, false, false, true, false, false, true, false, false, true, false, false] Try.f49
noncomputable def n49_34 : Code := sub [true, true, false, true, false, false, true, false, false, true, false, false, true, false, false, true, false, true] (bodyOf Try.f49)
noncomputable def n49_35 : Code := sub [true, true, false, true, false, false, true, false, false, true, false, false, true, false, false, true, false, true, false] (bodyOf Try.f49)
noncomputable def n49_36 : Code := sub [true, true, false, true, false, false, true, false, false, true, false, false, true, false, false, true, false, true, true] (bodyOf Try.f49)
noncomputable def n49_37 : Code := sub [true, true, false, true, false, false, true, false, false, true, false, false, true, false, false, true, true] (bodyOf Try.f49)
noncomputable def n49_38 : Code := sub [true, true, false, true, false, false, true, false, false, true, false, false, true, false, false, true, true, false] (bodyOf Try.f49)
noncomputable def q49_38 : List Oper := ops [true, true, false, true, false, false, true, false, false, true, false, false, true, false, false, true, true, false] Try.f49
noncomputable def n49_39 : Code := sub [true, true, false, true, false, false, true, false, false, true, false, false, true, false, false, true, true, true] (bodyOf Try.f49)
noncomputable def n49_40 : Code := sub [true, true, false, true, false, false, true, false, false, true, false, false, true, false, false, true, true, true, false] (bodyOf Try.f49)
noncomputable def n49_41 : Code := sub [true, true, false, true, false, false, true, false, false, true, false, false, true, false, false, true, true, true, false, false] (bodyOf Try.f49)
noncomputable def q49_41 : List Oper := ops [true, true, false, true, false, false, true, false, false, true, false, false, true, false, false, true, true, true, false, false] Try.f49
noncomputable def n49_42 : Code := sub [true, true, false, true, false, false, true, false, false, true, false, false, true, false, false, true, true, true, false, true] (bodyOf Try.f49)
noncomputable def n49_43 : Code := sub [true, true, false, true, false, false, true, false, false, true, false, false, true, false, false, true, true, true, false, true, false] (bodyOf Try.f49)
noncomputable def n49_44 : Code := sub [true, true, false, true, false, false, true, false, false, true, false, false, true, false, false, true, true, true, false, true, false, false] (bodyOf Try.f49)
noncomputable def n49_45 : Code := sub [true, true, false, true, false, false, true, false, false, true, false, false, true, false, false, true, true, true, false, true, false, false, false] (bodyOf Try.f49)
noncomputable def n49_46 : Code := sub [true, true, false, true, false, false, true, false, false, true, false, false, true, false, false, true, true, true, false, true, false, false, false, false] (bodyOf Try.f49)
noncomputable def q49_46 : List Oper := ops [true, true, false, true, false, false, true, false, false, true, false, false, true, false, false, true, true, true, false, true, false, false, false, false] Try.f49
noncomputable def n49_47 : Code := sub [true, true, false, true, false, false, true, false, false, true, false, false, true, false, false, true, true, true, false, true, false, false, false, true] (bodyOf Try.f49)
noncomputable def n49_48 : Code := sub [true, true, false, true, false, false, true, false, false, true, false, false, true, false, false, true, true, true, false, true, false, false, false, true, false] (bodyOf Try.f49)
noncomputable def n49_49 : Code := sub [true, true, false, true, false, false, true, false, false, true, false, false, true, false, false, true, true, true, false, true, false, false, false, true, true] (bodyOf Try.f49)
noncomputable def n49_50 : Code := sub [true, true, false, true, false, false, true, false, false, true, false, false, true, false, false, true, true, true, false, true, false, false, true] (bodyOf Try.f49)
noncomputable def n49_51 : Code := sub [true, true, false, true, false, false, true, false, false, true, false, false, true, false, false, true, true, true, false, true, false, false, true, false] (bodyOf Try.f49)
noncomputable def n49_52 : Code := sub [true, true, false, true, false, false, true, false, false, true, false, false, true, false, false, true, true, true, false, true, false, false, true, false, false] (bodyOf Try.f49)
noncomputable def n49_53 : Code := sub [true, true, false, true, false, false, true, false, false, true, false, false, true, false, false, true, true, true, false, true, false, false, true, false, false, false] (bodyOf Try.f49)
noncomputable def q49_53 : List Oper := ops [true, true, false, true, false, false, true, false, false, true, false, false, true, false, false, true, true, true, false, true, false, false, true, false, false, false] Try.f49
noncomputable def n49_54 : Code := sub [true, true, false, true, false, false, true, false, false, true, false, false, true, false, false, true, true, true, false, true, false, false, true, false, false, true] (bodyOf Try.f49)
noncomputable def n49_55 : Code := sub [true, true, false, true, false, false, true, false, false, true, false, false, true, false, false, true, true, true, false, true, false, false, true, false, false, true, false] (bodyOf Try.f49)
noncomputable def q49_55 : List Oper := ops [true, true, false, true, false, false, true, false, false, true, false, false, true, false, false, true, true, true, false, true, false, false, true, false, false, true, false] Try.f49
noncomputable def n49_56 : Code := sub [true, true, false, true, false, false, true, false, false, true, false, false, true, false, false, true, true, true, false, true, false, false, true, false, false, true, true] (bodyOf Try.f49)
noncomputable def n49_57 : Code := sub [true, true, false, true, false, false, true, false, false, true, false, false, true, false, false, true, true, true, false, true, false, false, true, false, false, true, true, false] (bodyOf Try.f49)
noncomputable def q49_57 : List Oper := ops [true, true, false, true, false, false, true, false, false, true, false, false, true, false, false, true, true, true, false, true, false, false, true, false, false, true, true, false] Try.f49
noncomputable def n49_58 : Code := sub [true, true, false, true, false, false, true, false, false, true, false, false, true, false, false, true, true, true, false, true, false, false, true, false, false, true, true, true] (bodyOf Try.f49)
noncomputable def n49_59 : Code := sub [true, true, false, true, false, false, true, false, false, true, false, false, true, false, false, true, true, true, false, true, false, false, true, true] (bodyOf Try.f49)
noncomputable def q49_59 : List Oper := ops [true, true, false, true, false, false, true, false, false, true, false, false, true, false, false, true, true, true, false, true, false, false, true, true] Try.f49
noncomputable def n49_60 : Code := sub [true, true, false, true, false, false, true, false, false, true, false, false, true, false, false, true, true, true, true] (bodyOf Try.f49)
noncomputable def n49_61 : Code := sub [true, true, false, true, false, false, true, false, false, true, false, false, true, false, false, true, true, true, true, false] (bodyOf Try.f49)
noncomputable def n49_62 : Code := sub [true, true, false, true, false, false, true, false, false, true, false, false, true, false, false, true, true, true, true, false, false] (bodyOf Try.f49)
noncomputable def q49_62 : List Oper := ops [true, true, false, true, false, false, true, false, false, true, false, false, true, false, false, true, true, true, true, false, false] Try.f49
noncomputable def n49_63 : Code := sub [true, true, false, true, false, false, true, false, false, true, false, false, true, false, false, true, true, true, true, false, true] (bodyOf Try.f49)
noncomputable def n49_64 : Code := sub [true, true, false, true, false, false, true, false, false, true, false, false, true, false, false, true, true, true, true, false, true, false] (bodyOf Try.f49)
noncomputable def n49_65 : Code := sub [true, true, false, true, false, false, true, false, false, true, false, false, true, false, false, true, true, true, true, false, true, false, false] (bodyOf Try.f49)
noncomputable def n49_66 : Code := sub [true, true, false, true, false, false, true, false, false, true, false, false, true, false, false, true, true, true, true, false, true, false, false, false] (bodyOf Try.f49)
noncomputable def n49_67 : Code := sub [true, true, false, true, false, false, true, false, false, true, false, false, true, false, false, true, true, true, true, false, true, false, false, false, false] (bodyOf Try.f49)
noncomputable def q49_67 : List Oper := ops [true, true, false, true, false, false, true, false, false, true, false, false, true, false, false, true, true, true, true, false, true, false, false, false, false] Try.f49
noncomputable def n49_68 : Code := sub [true, true, false, true, false, false, true, false, false, true, false, false, true, false, false, true, true, true, true, false, true, false, false, false, true] (bodyOf Try.f49)
noncomputable def n49_69 : Code := sub [true, true, false, true, false, false, true, false, false, true, false, false, true, false, false, true, true, true, true, false, true, false, false, false, true, false] (bodyOf Try.f49)
noncomputable def n49_70 : Code := sub [true, true, false, true, false, false, true, false, false, true, false, false, true, false, false, true, true, true, true, false, true, false, false, false, true, true] (bodyOf Try.f49)
noncomputable def n49_71 : Code := sub [true, true, false, true, false, false, true, false, false, true, false, false, true, false, false, true, true, true, true, false, true, false, false, true] (bodyOf Try.f49)
noncomputable def n49_72 : Code := sub [true, true, false, true, false, false, true, false, false, true, false, false, true, false, false, true, true, true, true, false, true, false, false, true, false] (bodyOf Try.f49)
noncomputable def n49_73 : Code := sub [true, true, false, true, false, false, true, false, false, true, false, false, true, false, false, true, true, true, true, false, true, false, false, true, false, false] (bodyOf Try.f49)
noncomputable def n49_74 : Code := sub [true, true, false, true, false, false, true, false, false, true, false, false, true, false, false, true, true, true, true, false, true, false, false, true, false, false, false] (bodyOf Try.f49)
noncomputable def q49_74 : List Oper := ops [true, true, false, true, false, false, true, false, false, true, false, false, true, false, false, true, true, true, true, false, true, false, false, true, false, false, false] Try.f49
noncomputable def n49_75 : Code := sub [true, true, false, true, false, false, true, false, false, true, false, false, true, false, false, true, true, true, true, false, true, false, false, true, false, false, true] (bodyOf Try.f49)
noncomputable def n49_76 : Code := sub [true, true, false, true, false, false, true, false, false, true, false, false, true, false, false, true, true, true, true, false, true, false, false, true, false, false, true, false] (bodyOf Try.f49)
noncomputable def q49_76 : List Oper := ops [true, true, false, true, false, false, true, false, false, true, false, false, true, false, false, true, true, true, true, false, true, false, false, true, false, false, true, false] Try.f49
noncomputable def n49_77 : Code := sub [true, true, false, true, false, false, true, false, false, true, false, false, true, false, false, true, true, true, true, false, true, false, false, true, false, false, true, true] (bodyOf Try.f49)
noncomputable def n49_78 : Code := sub [true, true, false, true, false, false, true, false, false, true, false, false, true, false, false, true, true, true, true, false, true, false, false, true, false, false, true, true, false] (bodyOf Try.f49)
noncomputable def q49_78 : List Oper := ops [true, true, false, true, false, false, true, false, false, true, false, false, true, false, false, true, true, true, true, false, true, false, false, true, false, false, true, true, false] Try.f49
noncomputable def n49_79 : Code := sub [true, true, false, true, false, false, true, false, false, true, false, false, true, false, false, true, true, true, true, false, true, false, false, true, false, false, true, true, true] (bodyOf Try.f49)
noncomputable def n49_80 : Code := sub [true, true, false, true, false, false, true, false, false, true, false, false, true, false, false, true, true, true, true, false, true, false, false, true, true] (bodyOf Try.f49)
noncomputable def q49_80 : List Oper := ops [true, true, false, true, false, false, true, false, false, true, false, false, true, false, false, true, true, true, true, false, true, false, false, true, true] Try.f49
noncomputable def n49_81 : Code := sub [true, true, false, true, false, false, true, false, false, true, false, false, true, false, false, true, true, true, true, true] (bodyOf Try.f49)
noncomputable def q49_81 : List Oper := ops [true, true, false, true, false, false, true, false, false, true, false, false, true, false, false, true, true, true, true, true] Try.f49
noncomputable def n49_82 : Code := sub [true, true, false, true, false, false, true, false, false, true, false, false, true, true] (bodyOf Try.f49)
noncomputable def q49_82 : List Oper := ops [true, true, false, true, false, false, true, false, false, true, false, false, true, true] Try.f49
noncomputable def n49_83 : Code := sub [true, true, false, true, false, false, true, true] (bodyOf Try.f49)
noncomputable def q49_83 : List Oper := ops [true, true, false, true, false, false, true, true] Try.f49
noncomputable def n49_84 : Code := sub [true, true, true] (bodyOf Try.f49)
noncomputable def n49_85 : Code := sub [true, true, true, false] (bodyOf Try.f49)
noncomputable def q49_85 : List Oper := ops [true, true, true, false] Try.f49
noncomputable def n49_86 : Code := sub [true, true, true, true] (bodyOf Try.f49)
theorem body49 : Try.f49.body = some n49_0 := by kernel_rfl
theorem run49 (E : Ev) (args : List Value) (h : List Blk) (hl : args.length ≤ 88) : runB Try.prog E 49 args h = endS Try.prog [.cell 0 83] h.length (codeB Try.prog E ⟨49, 88, h.length, none⟩ n49_0 ⟨enumT 0 args, h, []⟩) := GE.run_step Try.func49 body49 (by kernel_rfl) (by decide) (by kernel_rfl) hl
theorem n49_1s (E : Ev) (f : FuncId) (b : Nat) (ro : Option Nat) (st : St) : codeB Try.prog E ⟨f, 88, b, ro⟩ n49_1 st = plainS (runOps Try.prog E b q49_1 (ops [false] Try.f49) st) := GE.region_step (id := 0) (by kernel_rfl) (by kernel_rfl)
theorem n49_3s (E : Ev) (f : FuncId) (b : Nat) (ro : Option Nat) (st : St) : codeB Try.prog E ⟨f, 88, b, ro⟩ n49_3 st = plainS (runOps Try.prog E b q49_3 (ops [true, false] Try.f49) st) := GE.region_step (id := 1) (by kernel_rfl) (by kernel_rfl)
theorem n49_6s (E : Ev) (f : FuncId) (b : Nat) (ro : Option Nat) (st : St) : codeB Try.prog E ⟨f, 88, b, ro⟩ n49_6 st = plainS (runOps Try.prog E b q49_6 (ops [true, true, false, false] Try.f49) st) := GE.region_step (id := 2) (by kernel_rfl) (by kernel_rfl)
theorem n49_11s (E : Ev) (f : FuncId) (b : Nat) (ro : Option Nat) (st : St) : codeB Try.prog E ⟨f, 88, b, ro⟩ n49_11 st = plainS (runOps Try.prog E b q49_11 (ops [true, true, false, true, false, false, false, false] Try.f49) st) := GE.region_step (id := 3) (by kernel_rfl) (by kernel_rfl)
theorem n49_13s (E : Ev) (cx : Cx) (st : St) : codeB Try.prog E cx n49_13 st = some (.normal, st) := GE.skip_step (by kernel_rfl)
theorem n49_14s (E : Ev) (cx : Cx) (st : St) : codeB Try.prog E cx n49_14 st = some (.exit 0, st) := GE.exit_step (by kernel_rfl)
theorem n49_12s (E : Ev) (cx : Cx) (st : St) : codeB Try.prog E cx n49_12 st = condS (codeB Try.prog E cx n49_13) (codeB Try.prog E cx n49_14) (lk st.σ 11) st := GE.cond_step (c := .tmp 11) (by kernel_rfl)
theorem n49_10s (E : Ev) (cx : Cx) (st : St) : codeB Try.prog E cx n49_10 st = thenS (codeB Try.prog E cx n49_11 st) (codeB Try.prog E cx n49_12) := GE.seq_step (by kernel_rfl)
theorem n49_18s (E : Ev) (f : FuncId) (b : Nat) (ro : Option Nat) (st : St) : codeB Try.prog E ⟨f, 88, b, ro⟩ n49_18 st = plainS (runOps Try.prog E b q49_18 (ops [true, true, false, true, false, false, true, false, false, false] Try.f49) st) := GE.region_step (id := 5) (by kernel_rfl) (by kernel_rfl)
theorem n49_23s (E : Ev) (f : FuncId) (b : Nat) (ro : Option Nat) (st : St) : codeB Try.prog E ⟨f, 88, b, ro⟩ n49_23 st = plainS (runOps Try.prog E b q49_23 (ops [true, true, false, true, false, false, true, false, false, true, false, false, false, false] Try.f49) st) := GE.region_step (id := 6) (by kernel_rfl) (by kernel_rfl)
theorem n49_25s (E : Ev) (cx : Cx) (st : St) : codeB Try.prog E cx n49_25 st = some (.normal, st) := GE.skip_step (by kernel_rfl)
theorem n49_26s (E : Ev) (cx : Cx) (st : St) : codeB Try.prog E cx n49_26 st = some (.exit 2, st) := GE.exit_step (by kernel_rfl)
theorem n49_24s (E : Ev) (cx : Cx) (st : St) : codeB Try.prog E cx n49_24 st = condS (codeB Try.prog E cx n49_25) (codeB Try.prog E cx n49_26) (lk st.σ 15) st := GE.cond_step (c := .tmp 15) (by kernel_rfl)
theorem n49_22s (E : Ev) (cx : Cx) (st : St) : codeB Try.prog E cx n49_22 st = thenS (codeB Try.prog E cx n49_23 st) (codeB Try.prog E cx n49_24) := GE.seq_step (by kernel_rfl)
theorem n49_30s (E : Ev) (f : FuncId) (b : Nat) (ro : Option Nat) (st : St) : codeB Try.prog E ⟨f, 88, b, ro⟩ n49_30 st = plainS (runOps Try.prog E b q49_30 (ops [true, true, false, true, false, false, true, false, false, true, false, false, true, false, false, false] Try.f49) st) := GE.region_step (id := 8) (by kernel_rfl) (by kernel_rfl)
theorem n49_33s (E : Ev) (f : FuncId) (b : Nat) (ro : Option Nat) (st : St) : codeB Try.prog E ⟨f, 88, b, ro⟩ n49_33 st = plainS (runOps Try.prog E b q49_33 (ops [true, true, false, true, false, false, true, false, false, true, false, false, true, false, false, true, false, false] Try.f49) st) := GE.region_step (id := 9) (by kernel_rfl) (by kernel_rfl)
theorem n49_35s (E : Ev) (cx : Cx) (st : St) : codeB Try.prog E cx n49_35 st = some (.exit 3, st) := GE.exit_step (by kernel_rfl)
theorem n49_36s (E : Ev) (cx : Cx) (st : St) : codeB Try.prog E cx n49_36 st = some (.normal, st) := GE.skip_step (by kernel_rfl)
theorem n49_34s (E : Ev) (cx : Cx) (st : St) : codeB Try.prog E cx n49_34 st = condS (codeB Try.prog E cx n49_35) (codeB Try.prog E cx n49_36) (lk st.σ 23) st := GE.cond_step (c := .tmp 23) (by kernel_rfl)
theorem n49_32s (E : Ev) (cx : Cx) (st : St) : codeB Try.prog E cx n49_32 st = thenS (codeB Try.prog E cx n49_33 st) (codeB Try.prog E cx n49_34) := GE.seq_step (by kernel_rfl)
theorem n49_38s (E : Ev) (f : FuncId) (b : Nat) (ro : Option Nat) (st : St) : codeB Try.prog E ⟨f, 88, b, ro⟩ n49_38 st = plainS (runOps Try.prog E b q49_38 (ops [true, true, false, true, false, false, true, false, false, true, false, false, true, false, false, true, true, false] Try.f49) st) := GE.region_step (id := 10) (by kernel_rfl) (by kernel_rfl)
theorem n49_41s (E : Ev) (f : FuncId) (b : Nat) (ro : Option Nat) (st : St) : codeB Try.prog E ⟨f, 88, b, ro⟩ n49_41 st = plainS (runOps Try.prog E b q49_41 (ops [true, true, false, true, false, false, true, false, false, true, false, false, true, false, false, true, true, true, false, false] Try.f49) st) := GE.region_step (id := 11) (by kernel_rfl) (by kernel_rfl)
theorem n49_46s (E : Ev) (f : FuncId) (b : Nat) (ro : Option Nat) (st : St) : codeB Try.prog E ⟨f, 88, b, ro⟩ n49_46 st = plainS (runOps Try.prog E b q49_46 (ops [true, true, false, true, false, false, true, false, false, true, false, false, true, false, false, true, true, true, false, true, false, false, false, false] Try.f49) st) := GE.region_step (id := 12) (by kernel_rfl) (by kernel_rfl)
theorem n49_48s (E : Ev) (cx : Cx) (st : St) : codeB Try.prog E cx n49_48 st = some (.normal, st) := GE.skip_step (by kernel_rfl)
theorem n49_49s (E : Ev) (cx : Cx) (st : St) : codeB Try.prog E cx n49_49 st = some (.exit 4, st) := GE.exit_step (by kernel_rfl)
theorem n49_47s (E : Ev) (cx : Cx) (st : St) : codeB Try.prog E cx n49_47 st = condS (codeB Try.prog E cx n49_48) (codeB Try.prog E cx n49_49) (lk st.σ 26) st := GE.cond_step (c := .tmp 26) (by kernel_rfl)
theorem n49_45s (E : Ev) (cx : Cx) (st : St) : codeB Try.prog E cx n49_45 st = thenS (codeB Try.prog E cx n49_46 st) (codeB Try.prog E cx n49_47) := GE.seq_step (by kernel_rfl)
theorem n49_53s (E : Ev) (f : FuncId) (b : Nat) (ro : Option Nat) (st : St) : codeB Try.prog E ⟨f, 88, b, ro⟩ n49_53 st = drawS [0, 1, 0, 0, 4, 28, 60, 0, 0, 384, 0, 896, 3968, 8064, 16380, 32767, 65535] (runOpsF Try.prog E b q49_53 (ops [true, true, false, true, false, false, true, false, false, true, false, false, true, false, false, true, true, true, false, true, false, false, true, false, false, false] Try.f49) st) := GE.draw_step (id := 14) (by kernel_rfl) (by kernel_rfl) (by kernel_rfl) (by kernel_rfl)
theorem q49_55g2 : gd q49_55 2 = some 47 := by kernel_rfl
theorem n49_55s (E : Ev) (f : FuncId) (b : Nat) (ro : Option Nat) (st : St) : codeB Try.prog E ⟨f, 88, b, ro⟩ n49_55 st = plainS (runOps Try.prog E b q49_55 (ops [true, true, false, true, false, false, true, false, false, true, false, false, true, false, false, true, true, true, false, true, false, false, true, false, false, true, false] Try.f49) st) := GE.region_step (id := 15) (by kernel_rfl) (by kernel_rfl)
theorem n49_57s (E : Ev) (f : FuncId) (b : Nat) (ro : Option Nat) (st : St) : codeB Try.prog E ⟨f, 88, b, ro⟩ n49_57 st = plainS (runOps Try.prog E b q49_57 (ops [true, true, false, true, false, false, true, false, false, true, false, false, true, false, false, true, true, true, false, true, false, false, true, false, false, true, true, false] Try.f49) st) := GE.region_step (id := 16) (by kernel_rfl) (by kernel_rfl)
theorem n49_58s (E : Ev) (cx : Cx) (st : St) : codeB Try.prog E cx n49_58 st = some (.normal, st) := GE.skip_step (by kernel_rfl)
theorem n49_56s (E : Ev) (cx : Cx) (st : St) : codeB Try.prog E cx n49_56 st = condS (codeB Try.prog E cx n49_57) (codeB Try.prog E cx n49_58) (lk st.σ 51) st := GE.cond_step (c := .tmp 51) (by kernel_rfl)
theorem n49_54s (E : Ev) (cx : Cx) (st : St) : codeB Try.prog E cx n49_54 st = thenS (codeB Try.prog E cx n49_55 st) (codeB Try.prog E cx n49_56) := GE.seq_step (by kernel_rfl)
theorem n49_52s (E : Ev) (cx : Cx) (st : St) : codeB Try.prog E cx n49_52 st = thenS (codeB Try.prog E cx n49_53 st) (codeB Try.prog E cx n49_54) := GE.seq_step (by kernel_rfl)
theorem n49_51s (E : Ev) (cx : Cx) (st : St) : codeB Try.prog E cx n49_51 st = blockS 5 (codeB Try.prog E cx n49_52 st) st := GE.block_step (by kernel_rfl)
theorem n49_59s (E : Ev) (f : FuncId) (b : Nat) (ro : Option Nat) (st : St) : codeB Try.prog E ⟨f, 88, b, ro⟩ n49_59 st = plainS (runOps Try.prog E b q49_59 (ops [true, true, false, true, false, false, true, false, false, true, false, false, true, false, false, true, true, true, false, true, false, false, true, true] Try.f49) st) := GE.region_step (id := 13) (by kernel_rfl) (by kernel_rfl)
theorem n49_50s (E : Ev) (cx : Cx) (st : St) : codeB Try.prog E cx n49_50 st = thenS (codeB Try.prog E cx n49_51 st) (codeB Try.prog E cx n49_59) := GE.seq_step (by kernel_rfl)
theorem n49_44s (E : Ev) (cx : Cx) (st : St) : codeB Try.prog E cx n49_44 st = thenS (codeB Try.prog E cx n49_45 st) (codeB Try.prog E cx n49_50) := GE.seq_step (by kernel_rfl)
theorem n49_43s (E : Ev) (cx : Cx) (st : St) : codeB Try.prog E cx n49_43 st = loopS (fun st' => E.code cx n49_43 st') cx.base (codeB Try.prog E cx n49_44 st) st := GE.loop_step (by kernel_rfl)
theorem n49_42s (E : Ev) (cx : Cx) (st : St) : codeB Try.prog E cx n49_42 st = blockS 4 (codeB Try.prog E cx n49_43 st) st := GE.block_step (by kernel_rfl)
theorem n49_40s (E : Ev) (cx : Cx) (st : St) : codeB Try.prog E cx n49_40 st = thenS (codeB Try.prog E cx n49_41 st) (codeB Try.prog E cx n49_42) := GE.seq_step (by kernel_rfl)
theorem n49_62s (E : Ev) (f : FuncId) (b : Nat) (ro : Option Nat) (st : St) : codeB Try.prog E ⟨f, 88, b, ro⟩ n49_62 st = plainS (runOps Try.prog E b q49_62 (ops [true, true, false, true, false, false, true, false, false, true, false, false, true, false, false, true, true, true, true, false, false] Try.f49) st) := GE.region_step (id := 17) (by kernel_rfl) (by kernel_rfl)
theorem n49_67s (E : Ev) (f : FuncId) (b : Nat) (ro : Option Nat) (st : St) : codeB Try.prog E ⟨f, 88, b, ro⟩ n49_67 st = plainS (runOps Try.prog E b q49_67 (ops [true, true, false, true, false, false, true, false, false, true, false, false, true, false, false, true, true, true, true, false, true, false, false, false, false] Try.f49) st) := GE.region_step (id := 18) (by kernel_rfl) (by kernel_rfl)
theorem n49_69s (E : Ev) (cx : Cx) (st : St) : codeB Try.prog E cx n49_69 st = some (.normal, st) := GE.skip_step (by kernel_rfl)
theorem n49_70s (E : Ev) (cx : Cx) (st : St) : codeB Try.prog E cx n49_70 st = some (.exit 6, st) := GE.exit_step (by kernel_rfl)
theorem n49_68s (E : Ev) (cx : Cx) (st : St) : codeB Try.prog E cx n49_68 st = condS (codeB Try.prog E cx n49_69) (codeB Try.prog E cx n49_70) (lk st.σ 55) st := GE.cond_step (c := .tmp 55) (by kernel_rfl)
theorem n49_66s (E : Ev) (cx : Cx) (st : St) : codeB Try.prog E cx n49_66 st = thenS (codeB Try.prog E cx n49_67 st) (codeB Try.prog E cx n49_68) := GE.seq_step (by kernel_rfl)
theorem n49_74s (E : Ev) (f : FuncId) (b : Nat) (ro : Option Nat) (st : St) : codeB Try.prog E ⟨f, 88, b, ro⟩ n49_74 st = drawS [0, 1, 0, 0, 4, 28, 60, 0, 0, 0, 768, 128, 3968, 8064, 16380, 32767, 65535] (runOpsF Try.prog E b q49_74 (ops [true, true, false, true, false, false, true, false, false, true, false, false, true, false, false, true, true, true, true, false, true, false, false, true, false, false, false] Try.f49) st) := GE.draw_step (id := 20) (by kernel_rfl) (by kernel_rfl) (by kernel_rfl) (by kernel_rfl)
theorem q49_76g2 : gd q49_76 2 = some 76 := by kernel_rfl
theorem n49_76s (E : Ev) (f : FuncId) (b : Nat) (ro : Option Nat) (st : St) : codeB Try.prog E ⟨f, 88, b, ro⟩ n49_76 st = plainS (runOps Try.prog E b q49_76 (ops [true, true, false, true, false, false, true, false, false, true, false, false, true, false, false, true, true, true, true, false, true, false, false, true, false, false, true, false] Try.f49) st) := GE.region_step (id := 21) (by kernel_rfl) (by kernel_rfl)
theorem n49_78s (E : Ev) (f : FuncId) (b : Nat) (ro : Option Nat) (st : St) : codeB Try.prog E ⟨f, 88, b, ro⟩ n49_78 st = plainS (runOps Try.prog E b q49_78 (ops [true, true, false, true, false, false, true, false, false, true, false, false, true, false, false, true, true, true, true, false, true, false, false, true, false, false, true, true, false] Try.f49) st) := GE.region_step (id := 22) (by kernel_rfl) (by kernel_rfl)
theorem n49_79s (E : Ev) (cx : Cx) (st : St) : codeB Try.prog E cx n49_79 st = some (.normal, st) := GE.skip_step (by kernel_rfl)
theorem n49_77s (E : Ev) (cx : Cx) (st : St) : codeB Try.prog E cx n49_77 st = condS (codeB Try.prog E cx n49_78) (codeB Try.prog E cx n49_79) (lk st.σ 80) st := GE.cond_step (c := .tmp 80) (by kernel_rfl)
theorem n49_75s (E : Ev) (cx : Cx) (st : St) : codeB Try.prog E cx n49_75 st = thenS (codeB Try.prog E cx n49_76 st) (codeB Try.prog E cx n49_77) := GE.seq_step (by kernel_rfl)
theorem n49_73s (E : Ev) (cx : Cx) (st : St) : codeB Try.prog E cx n49_73 st = thenS (codeB Try.prog E cx n49_74 st) (codeB Try.prog E cx n49_75) := GE.seq_step (by kernel_rfl)
theorem n49_72s (E : Ev) (cx : Cx) (st : St) : codeB Try.prog E cx n49_72 st = blockS 7 (codeB Try.prog E cx n49_73 st) st := GE.block_step (by kernel_rfl)
theorem n49_80s (E : Ev) (f : FuncId) (b : Nat) (ro : Option Nat) (st : St) : codeB Try.prog E ⟨f, 88, b, ro⟩ n49_80 st = plainS (runOps Try.prog E b q49_80 (ops [true, true, false, true, false, false, true, false, false, true, false, false, true, false, false, true, true, true, true, false, true, false, false, true, true] Try.f49) st) := GE.region_step (id := 19) (by kernel_rfl) (by kernel_rfl)
theorem n49_71s (E : Ev) (cx : Cx) (st : St) : codeB Try.prog E cx n49_71 st = thenS (codeB Try.prog E cx n49_72 st) (codeB Try.prog E cx n49_80) := GE.seq_step (by kernel_rfl)
theorem n49_65s (E : Ev) (cx : Cx) (st : St) : codeB Try.prog E cx n49_65 st = thenS (codeB Try.prog E cx n49_66 st) (codeB Try.prog E cx n49_71) := GE.seq_step (by kernel_rfl)
theorem n49_64s (E : Ev) (cx : Cx) (st : St) : codeB Try.prog E cx n49_64 st = loopS (fun st' => E.code cx n49_64 st') cx.base (codeB Try.prog E cx n49_65 st) st := GE.loop_step (by kernel_rfl)
theorem n49_63s (E : Ev) (cx : Cx) (st : St) : codeB Try.prog E cx n49_63 st = blockS 6 (codeB Try.prog E cx n49_64 st) st := GE.block_step (by kernel_rfl)
theorem n49_61s (E : Ev) (cx : Cx) (st : St) : codeB Try.prog E cx n49_61 st = thenS (codeB Try.prog E cx n49_62 st) (codeB Try.prog E cx n49_63) := GE.seq_step (by kernel_rfl)
theorem n49_81s (E : Ev) (f : FuncId) (b : Nat) (ro : Option Nat) (st : St) : codeB Try.prog E ⟨f, 88, b, ro⟩ n49_81 st = plainS (runOps Try.prog E b q49_81 (ops [true, true, false, true, false, false, true, false, false, true, false, false, true, false, false, true, true, true, true, true] Try.f49) st) := GE.region_step (id := 23) (by kernel_rfl) (by kernel_rfl)
theorem n49_60s (E : Ev) (cx : Cx) (st : St) : codeB Try.prog E cx n49_60 st = thenS (codeB Try.prog E cx n49_61 st) (codeB Try.prog E cx n49_81) := GE.seq_step (by kernel_rfl)
theorem n49_39s (E : Ev) (cx : Cx) (st : St) : codeB Try.prog E cx n49_39 st = thenS (codeB Try.prog E cx n49_40 st) (codeB Try.prog E cx n49_60) := GE.seq_step (by kernel_rfl)
theorem n49_37s (E : Ev) (cx : Cx) (st : St) : codeB Try.prog E cx n49_37 st = thenS (codeB Try.prog E cx n49_38 st) (codeB Try.prog E cx n49_39) := GE.seq_step (by kernel_rfl)
theorem n49_31s (E : Ev) (cx : Cx) (st : St) : codeB Try.prog E cx n49_31 st = thenS (codeB Try.prog E cx n49_32 st) (codeB Try.prog E cx n49_37) := GE.seq_step (by kernel_rfl)
theorem n49_29s (E : Ev) (cx : Cx) (st : St) : codeB Try.prog E cx n49_29 st = thenS (codeB Try.prog E cx n49_30 st) (codeB Try.prog E cx n49_31) := GE.seq_step (by kernel_rfl)
theorem n49_28s (E : Ev) (cx : Cx) (st : St) : codeB Try.prog E cx n49_28 st = blockS 3 (codeB Try.prog E cx n49_29 st) st := GE.block_step (by kernel_rfl)
theorem n49_82s (E : Ev) (f : FuncId) (b : Nat) (ro : Option Nat) (st : St) : codeB Try.prog E ⟨f, 88, b, ro⟩ n49_82 st = plainS (runOps Try.prog E b q49_82 (ops [true, true, false, true, false, false, true, false, false, true, false, false, true, true] Try.f49) st) := GE.region_step (id := 7) (by kernel_rfl) (by kernel_rfl)
theorem n49_27s (E : Ev) (cx : Cx) (st : St) : codeB Try.prog E cx n49_27 st = thenS (codeB Try.prog E cx n49_28 st) (codeB Try.prog E cx n49_82) := GE.seq_step (by kernel_rfl)
theorem n49_21s (E : Ev) (cx : Cx) (st : St) : codeB Try.prog E cx n49_21 st = thenS (codeB Try.prog E cx n49_22 st) (codeB Try.prog E cx n49_27) := GE.seq_step (by kernel_rfl)
theorem n49_20s (E : Ev) (cx : Cx) (st : St) : codeB Try.prog E cx n49_20 st = loopS (fun st' => E.code cx n49_20 st') cx.base (codeB Try.prog E cx n49_21 st) st := GE.loop_step (by kernel_rfl)
theorem n49_19s (E : Ev) (cx : Cx) (st : St) : codeB Try.prog E cx n49_19 st = blockS 2 (codeB Try.prog E cx n49_20 st) st := GE.block_step (by kernel_rfl)
theorem n49_17s (E : Ev) (cx : Cx) (st : St) : codeB Try.prog E cx n49_17 st = thenS (codeB Try.prog E cx n49_18 st) (codeB Try.prog E cx n49_19) := GE.seq_step (by kernel_rfl)
theorem n49_16s (E : Ev) (cx : Cx) (st : St) : codeB Try.prog E cx n49_16 st = blockS 1 (codeB Try.prog E cx n49_17 st) st := GE.block_step (by kernel_rfl)
theorem n49_83s (E : Ev) (f : FuncId) (b : Nat) (ro : Option Nat) (st : St) : codeB Try.prog E ⟨f, 88, b, ro⟩ n49_83 st = plainS (runOps Try.prog E b q49_83 (ops [true, true, false, true, false, false, true, true] Try.f49) st) := GE.region_step (id := 4) (by kernel_rfl) (by kernel_rfl)
theorem n49_15s (E : Ev) (cx : Cx) (st : St) : codeB Try.prog E cx n49_15 st = thenS (codeB Try.prog E cx n49_16 st) (codeB Try.prog E cx n49_83) := GE.seq_step (by kernel_rfl)
theorem n49_9s (E : Ev) (cx : Cx) (st : St) : codeB Try.prog E cx n49_9 st = thenS (codeB Try.prog E cx n49_10 st) (codeB Try.prog E cx n49_15) := GE.seq_step (by kernel_rfl)
theorem n49_8s (E : Ev) (cx : Cx) (st : St) : codeB Try.prog E cx n49_8 st = loopS (fun st' => E.code cx n49_8 st') cx.base (codeB Try.prog E cx n49_9 st) st := GE.loop_step (by kernel_rfl)
theorem n49_7s (E : Ev) (cx : Cx) (st : St) : codeB Try.prog E cx n49_7 st = blockS 0 (codeB Try.prog E cx n49_8 st) st := GE.block_step (by kernel_rfl)
theorem n49_5s (E : Ev) (cx : Cx) (st : St) : codeB Try.prog E cx n49_5 st = thenS (codeB Try.prog E cx n49_6 st) (codeB Try.prog E cx n49_7) := GE.seq_step (by kernel_rfl)
theorem n49_85s (E : Ev) (f : FuncId) (b : Nat) (ro : Option Nat) (st : St) : codeB Try.prog E ⟨f, 88, b, ro⟩ n49_85 st = plainS (runOps Try.prog E b q49_85 (ops [true, true, true, false] Try.f49) st) := GE.region_step (id := 24) (by kernel_rfl) (by kernel_rfl)
theorem n49_86s (E : Ev) (cx : Cx) (st : St) : codeB Try.prog E cx n49_86 st = some (.ret, st) := GE.ret_step (by kernel_rfl)
theorem n49_84s (E : Ev) (cx : Cx) (st : St) : codeB Try.prog E cx n49_84 st = thenS (codeB Try.prog E cx n49_85 st) (codeB Try.prog E cx n49_86) := GE.seq_step (by kernel_rfl)
theorem n49_4s (E : Ev) (cx : Cx) (st : St) : codeB Try.prog E cx n49_4 st = thenS (codeB Try.prog E cx n49_5 st) (codeB Try.prog E cx n49_84) := GE.seq_step (by kernel_rfl)
theorem n49_2s (E : Ev) (cx : Cx) (st : St) : codeB Try.prog E cx n49_2 st = thenS (codeB Try.prog E cx n49_3 st) (codeB Try.prog E cx n49_4) := GE.seq_step (by kernel_rfl)
theorem n49_0s (E : Ev) (cx : Cx) (st : St) : codeB Try.prog E cx n49_0 st = thenS (codeB Try.prog E cx n49_1 st) (codeB Try.prog E cx n49_2) := GE.seq_step (by kernel_rfl)
noncomputable def n5_0 : Code := sub [] (bodyOf Try.f5)
noncomputable def n5_1 : Code := sub [false] (bodyOf Try.f5)
noncomputable def q5_1 : List Oper := ops [false] Try.f5
noncomputable def n5_2 : Code := sub [true] (bodyOf Try.f5)
noncomputable def n5_3 : Code := sub [true, false] (bodyOf Try.f5)
noncomputable def q5_3 : List Oper := ops [true, false] Try.f5
noncomputable def n5_4 : Code := sub [true, true] (bodyOf Try.f5)
noncomputable def n5_5 : Code := sub [true, true, false] (bodyOf Try.f5)
noncomputable def q5_5 : List Oper := ops [true, true, false] Try.f5
noncomputable def n5_6 : Code := sub [true, true, true] (bodyOf Try.f5)
noncomputable def n5_7 : Code := sub [true, true, true, false] (bodyOf Try.f5)
noncomputable def q5_7 : List Oper := ops [true, true, true, false] Try.f5
noncomputable def n5_8 : Code := sub [true, true, true, true] (bodyOf Try.f5)
noncomputable def n5_9 : Code := sub [true, true, true, true, false] (bodyOf Try.f5)
noncomputable def n5_10 : Code := sub [true, true, true, true, false, false] (bodyOf Try.f5)
noncomputable def q5_10 : List Oper := ops [true, true, true, true, false, false] Try.f5
noncomputable def n5_11 : Code := sub [true, true, true, true, false, true] (bodyOf Try.f5)
noncomputable def n5_12 : Code := sub [true, true, true, true, false, true, false] (bodyOf Try.f5)
noncomputable def n5_13 : Code := sub [true, true, true, true, false, true, false, false] (bodyOf Try.f5)
noncomputable def q5_13 : List Oper := ops [true, true, true, true, false, true, false, false] Try.f5
noncomputable def n5_14 : Code := sub [true, true, true, true, false, true, false, true] (bodyOf Try.f5)
noncomputable def n5_15 : Code := sub [true, true, true, true, false, true, true] (bodyOf Try.f5)
noncomputable def n5_16 : Code := sub [true, true, true, true, true] (bodyOf Try.f5)
noncomputable def n5_17 : Code := sub [true, true, true, true, true, false] (bodyOf Try.f5)
noncomputable def n5_18 : Code := sub [true, true, true, true, true, false, false] (bodyOf Try.f5)
noncomputable def q5_18 : List Oper := ops [true, true, true, true, true, false, false] Try.f5
noncomputable def n5_19 : Code := sub [true, true, true, true, true, false, true] (bodyOf Try.f5)
noncomputable def n5_20 : Code := sub [true, true, true, true, true, false, true, false] (bodyOf Try.f5)
noncomputable def n5_21 : Code := sub [true, true, true, true, true, false, true, false, false] (bodyOf Try.f5)
noncomputable def q5_21 : List Oper := ops [true, true, true, true, true, false, true, false, false] Try.f5
noncomputable def n5_22 : Code := sub [true, true, true, true, true, false, true, false, true] (bodyOf Try.f5)
noncomputable def n5_23 : Code := sub [true, true, true, true, true, false, true, true] (bodyOf Try.f5)
noncomputable def n5_24 : Code := sub [true, true, true, true, true, true] (bodyOf Try.f5)
noncomputable def n5_25 : Code := sub [true, true, true, true, true, true, false] (bodyOf Try.f5)
noncomputable def q5_25 : List Oper := ops [true, true, true, true, true, true, false] Try.f5
noncomputable def n5_26 : Code := sub [true, true, true, true, true, true, true] (bodyOf Try.f5)
theorem body5 : Try.f5.body = some n5_0 := by kernel_rfl
theorem run5 (E : Ev) (args : List Value) (h : List Blk) (hl : args.length ≤ 59) : runB Try.prog E 5 args h = endS Try.prog [.tmp 4] h.length (codeB Try.prog E ⟨5, 59, h.length, none⟩ n5_0 ⟨enumT 0 args, h, []⟩) := GE.run_step Try.func5 body5 (by kernel_rfl) (by decide) (by kernel_rfl) hl
theorem n5_1s (E : Ev) (f : FuncId) (b : Nat) (ro : Option Nat) (st : St) : codeB Try.prog E ⟨f, 59, b, ro⟩ n5_1 st = plainS (runOps Try.prog E b q5_1 (ops [false] Try.f5) st) := GE.region_step (id := 0) (by kernel_rfl) (by kernel_rfl)
theorem n5_3s (E : Ev) (f : FuncId) (b : Nat) (ro : Option Nat) (st : St) : codeB Try.prog E ⟨f, 59, b, ro⟩ n5_3 st = plainS (runOps Try.prog E b q5_3 (ops [true, false] Try.f5) st) := GE.region_step (id := 1) (by kernel_rfl) (by kernel_rfl)
theorem n5_5s (E : Ev) (f : FuncId) (b : Nat) (ro : Option Nat) (st : St) : codeB Try.prog E ⟨f, 59, b, ro⟩ n5_5 st = plainS (runOps Try.prog E b q5_5 (ops [true, true, false] Try.f5) st) := GE.region_step (id := 2) (by kernel_rfl) (by kernel_rfl)
theorem n5_7s (E : Ev) (f : FuncId) (b : Nat) (ro : Option Nat) (st : St) : codeB Try.prog E ⟨f, 59, b, ro⟩ n5_7 st = plainS (runOps Try.prog E b q5_7 (ops [true, true, true, false] Try.f5) st) := GE.region_step (id := 3) (by kernel_rfl) (by kernel_rfl)
theorem q5_10g3 : gd q5_10 3 = some 32 := by kernel_rfl
theorem q5_10g8 : gd q5_10 8 = some 37 := by kernel_rfl
theorem n5_10s (E : Ev) (f : FuncId) (b : Nat) (ro : Option Nat) (st : St) : codeB Try.prog E ⟨f, 59, b, ro⟩ n5_10 st = plainS (runOps Try.prog E b q5_10 (ops [true, true, true, true, false, false] Try.f5) st) := GE.region_step (id := 4) (by kernel_rfl) (by kernel_rfl)
theorem n5_13s (E : Ev) (f : FuncId) (b : Nat) (ro : Option Nat) (st : St) : codeB Try.prog E ⟨f, 59, b, ro⟩ n5_13 st = plainS (runOps Try.prog E b q5_13 (ops [true, true, true, true, false, true, false, false] Try.f5) st) := GE.region_step (id := 5) (by kernel_rfl) (by kernel_rfl)
theorem n5_14s (E : Ev) (cx : Cx) (st : St) : codeB Try.prog E cx n5_14 st = some (.ret, st) := GE.ret_step (by kernel_rfl)
theorem n5_12s (E : Ev) (cx : Cx) (st : St) : codeB Try.prog E cx n5_12 st = thenS (codeB Try.prog E cx n5_13 st) (codeB Try.prog E cx n5_14) := GE.seq_step (by kernel_rfl)
theorem n5_15s (E : Ev) (cx : Cx) (st : St) : codeB Try.prog E cx n5_15 st = some (.normal, st) := GE.skip_step (by kernel_rfl)
theorem n5_11s (E : Ev) (cx : Cx) (st : St) : codeB Try.prog E cx n5_11 st = condS (codeB Try.prog E cx n5_12) (codeB Try.prog E cx n5_15) (lk st.σ 43) st := GE.cond_step (c := .tmp 43) (by kernel_rfl)
theorem n5_9s (E : Ev) (cx : Cx) (st : St) : codeB Try.prog E cx n5_9 st = thenS (codeB Try.prog E cx n5_10 st) (codeB Try.prog E cx n5_11) := GE.seq_step (by kernel_rfl)
theorem n5_18s (E : Ev) (f : FuncId) (b : Nat) (ro : Option Nat) (st : St) : codeB Try.prog E ⟨f, 59, b, ro⟩ n5_18 st = plainS (runOps Try.prog E b q5_18 (ops [true, true, true, true, true, false, false] Try.f5) st) := GE.region_step (id := 6) (by kernel_rfl) (by kernel_rfl)
theorem q5_21g3 : gd q5_21 3 = some 49 := by kernel_rfl
theorem n5_21s (E : Ev) (f : FuncId) (b : Nat) (ro : Option Nat) (st : St) : codeB Try.prog E ⟨f, 59, b, ro⟩ n5_21 st = plainS (runOps Try.prog E b q5_21 (ops [true, true, true, true, true, false, true, false, false] Try.f5) st) := GE.region_step (id := 7) (by kernel_rfl) (by kernel_rfl)
theorem n5_22s (E : Ev) (cx : Cx) (st : St) : codeB Try.prog E cx n5_22 st = some (.ret, st) := GE.ret_step (by kernel_rfl)
theorem n5_20s (E : Ev) (cx : Cx) (st : St) : codeB Try.prog E cx n5_20 st = thenS (codeB Try.prog E cx n5_21 st) (codeB Try.prog E cx n5_22) := GE.seq_step (by kernel_rfl)
theorem n5_23s (E : Ev) (cx : Cx) (st : St) : codeB Try.prog E cx n5_23 st = some (.normal, st) := GE.skip_step (by kernel_rfl)
theorem n5_19s (E : Ev) (cx : Cx) (st : St) : codeB Try.prog E cx n5_19 st = condS (codeB Try.prog E cx n5_20) (codeB Try.prog E cx n5_23) (lk st.σ 45) st := GE.cond_step (c := .tmp 45) (by kernel_rfl)
theorem n5_17s (E : Ev) (cx : Cx) (st : St) : codeB Try.prog E cx n5_17 st = thenS (codeB Try.prog E cx n5_18 st) (codeB Try.prog E cx n5_19) := GE.seq_step (by kernel_rfl)
theorem q5_25g4 : gd q5_25 4 = some 56 := by kernel_rfl
theorem n5_25s (E : Ev) (f : FuncId) (b : Nat) (ro : Option Nat) (st : St) : codeB Try.prog E ⟨f, 59, b, ro⟩ n5_25 st = plainS (runOps Try.prog E b q5_25 (ops [true, true, true, true, true, true, false] Try.f5) st) := GE.region_step (id := 8) (by kernel_rfl) (by kernel_rfl)
theorem n5_26s (E : Ev) (cx : Cx) (st : St) : codeB Try.prog E cx n5_26 st = some (.ret, st) := GE.ret_step (by kernel_rfl)
theorem n5_24s (E : Ev) (cx : Cx) (st : St) : codeB Try.prog E cx n5_24 st = thenS (codeB Try.prog E cx n5_25 st) (codeB Try.prog E cx n5_26) := GE.seq_step (by kernel_rfl)
theorem n5_16s (E : Ev) (cx : Cx) (st : St) : codeB Try.prog E cx n5_16 st = thenS (codeB Try.prog E cx n5_17 st) (codeB Try.prog E cx n5_24) := GE.seq_step (by kernel_rfl)
theorem n5_8s (E : Ev) (cx : Cx) (st : St) : codeB Try.prog E cx n5_8 st = thenS (codeB Try.prog E cx n5_9 st) (codeB Try.prog E cx n5_16) := GE.seq_step (by kernel_rfl)
theorem n5_6s (E : Ev) (cx : Cx) (st : St) : codeB Try.prog E cx n5_6 st = thenS (codeB Try.prog E cx n5_7 st) (codeB Try.prog E cx n5_8) := GE.seq_step (by kernel_rfl)
theorem n5_4s (E : Ev) (cx : Cx) (st : St) : codeB Try.prog E cx n5_4 st = thenS (codeB Try.prog E cx n5_5 st) (codeB Try.prog E cx n5_6) := GE.seq_step (by kernel_rfl)
theorem n5_2s (E : Ev) (cx : Cx) (st : St) : codeB Try.prog E cx n5_2 st = thenS (codeB Try.prog E cx n5_3 st) (codeB Try.prog E cx n5_4) := GE.seq_step (by kernel_rfl)
theorem n5_0s (E : Ev) (cx : Cx) (st : St) : codeB Try.prog E cx n5_0 st = thenS (codeB Try.prog E cx n5_1 st) (codeB Try.prog E cx n5_2) := GE.seq_step (by kernel_rfl)
theorem za_89 : zeroA Try.prog 89 = some (.agg #[(.int .i64 (0)), (.int .i64 (0)), (.int .i64 (0)), (.int .i64 (0)), (.int .i64 (0)), (.int .i64 (0)), (.int .i64 (0)), (.int .i64 (0)), (.int .i64 (0)), (.int .i64 (0)), (.int .i64 (0)), (.int .i64 (0)), (.int .i64 (0)), (.int .i64 (0)), (.int .i64 (0)), (.int .i64 (0)), (.int .i64 (0)), (.int .i64 (0)), (.int .i64 (0)), (.int .i64 (0)), (.int .i64 (0)), (.int .i64 (0)), (.int .i64 (0)), (.int .i64 (0)), (.int .i64 (0)), (.int .i64 (0)), (.int .i64 (0)), (.int .i64 (0)), (.int .i64 (0)), (.int .i64 (0)), (.int .i64 (0)), (.int .i64 (0)), (.int .i64 (0)), (.int .i64 (0)), (.int .i64 (0)), (.int .i64 (0)), (.int .i64 (0)), (.int .i64 (0)), (.int .i64 (0)), (.int .i64 (0)), (.int .i64 (0)), (.int .i64 (0)), (.int .i64 (0)), (.int .i64 (0)), (.int .i64 (0)), (.int .i64 (0)), (.int .i64 (0)), (.int .i64 (0)), (.int .i64 (0)), (.int .i64 (0)), (.int .i64 (0)), (.int .i64 (0)), (.int .i64 (0)), (.int .i64 (0)), (.int .i64 (0)), (.int .i64 (0)), (.int .i64 (0)), (.int .i64 (0)), (.int .i64 (0)), (.int .i64 (0)), (.int .i64 (0)), (.int .i64 (0)), (.int .i64 (0)), (.int .i64 (0)), (.int .i64 (0)), (.int .i64 (0)), (.int .i64 (0)), (.int .i64 (0)), (.int .i64 (0)), (.int .i64 (0)), (.int .i64 (0)), (.int .i64 (0)), (.int .i64 (0)), (.int .i64 (0)), (.int .i64 (0)), (.int .i64 (0)), (.int .i64 (0)), (.int .i64 (0)), (.int .i64 (0)), (.int .i64 (0)), (.int .i64 (0)), .nilIface, .nilIface, .nilIface, .nilIface, .nilIface, .nilIface, .nilIface, .nilIface, .nilIface, .nilIface, .nilIface, .nilIface, .nilIface, .nilIface, .nilIface, .nilIface, .nilIface, .nilIface, .nilIface, .nilIface, .nilIface, .nilIface, .nilIface, .nilIface, .nilIface, .nilIface, .nilIface, .nilIface, .nilIface, .nilIface, .nilIface, .nilIface, .nilIface, .nilIface, .nilIface, .nilIface, .nilIface, .nilIface, .nilIface, .nilIface, .nilIface, .nilIface, .nilIface, .nilIface, .nilIface, .nilIface, .nilIface, .nilIface, .nilIface, .nilIface, .nilIface, .nilIface, .nilIface, .nilIface, .nilIface, .nilIface, .nilIface, .nilIface, .nilIface, .nilIface, .nilIface, .nilIface, .nilIface, .nilIface, .nilIface, .nilIface, .nilIface, .nilIface, .nilIface, .nilIface, .nilIface, .nilIface, .nilIface, .nilIface, .nilIface, .nilIface, .nilIface, .nilIface, .nilIface, .nilIface, .nilIface]) := by kernel_rfl
theorem pl_89 : plK Try.prog 89 = some [(0, 81), (81, 81)] := by kernel_rfl
theorem za_90 : zeroA Try.prog 90 = some (.pointer none) := by kernel_rfl
theorem sz_90 : aggSize Try.prog 90 = some 1 := by kernel_rfl
theorem za_79 : zeroA Try.prog 79 = some .nilFunc := by kernel_rfl
theorem sz_79 : aggSize Try.prog 79 = some 1 := by kernel_rfl
theorem ia_79 : aggK Try.prog 79 = some (false, 1) := by kernel_rfl
theorem za_35 : zeroA Try.prog 35 = some (.agg #[(.int .i64 (0)), (.int .i64 (0)), (.int .i64 (0)), (.int .i64 (0))]) := by kernel_rfl
theorem pl_35 : plK Try.prog 35 = some [(0, 1), (1, 1), (2, 1), (3, 1)] := by kernel_rfl
theorem ia_90 : aggK Try.prog 90 = some (false, 1) := by kernel_rfl
theorem fa_35_2 : fieldAt Try.prog 35 2 = some (2, 1) := by kernel_rfl
theorem ia_3 : aggK Try.prog 3 = some (false, 1) := by kernel_rfl
theorem fa_35_3 : fieldAt Try.prog 35 3 = some (3, 1) := by kernel_rfl
theorem fa_89_1 : fieldAt Try.prog 89 1 = some (81, 81) := by kernel_rfl
theorem ea_87 : elemK Try.prog 87 = some (some 9, 9) := by kernel_rfl
theorem ea_86 : elemK Try.prog 86 = some (some 9, 1) := by kernel_rfl
theorem ia_85 : aggK Try.prog 85 = some (false, 1) := by kernel_rfl
theorem fa_89_0 : fieldAt Try.prog 89 0 = some (0, 81) := by kernel_rfl
theorem ea_83 : elemK Try.prog 83 = some (some 9, 9) := by kernel_rfl
theorem ea_82 : elemK Try.prog 82 = some (some 9, 1) := by kernel_rfl
theorem ia_35 : aggK Try.prog 35 = some (true, 4) := by kernel_rfl
theorem lk_101 : lenK Try.prog 101 = some .sl := by kernel_rfl
theorem es_101 : elemK Try.prog 101 = some (none, 1) := by kernel_rfl
theorem sz_35 : aggSize Try.prog 35 = some 4 := by kernel_rfl
theorem sz_3 : aggSize Try.prog 3 = some 1 := by kernel_rfl
theorem sz_85 : aggSize Try.prog 85 = some 1 := by kernel_rfl
theorem ii_93 : notI Try.prog 93 = true := by kernel_rfl
theorem ze_101 : zeroE Try.prog 101 = some .nilIface := by kernel_rfl
theorem ba_101_1 : baseArr (Value.cells .nilIface) (1 * 1) = #[.nilIface] := by kernel_rfl
theorem ap_101 : apK Try.prog 101 = some (1, 16) := by kernel_rfl
theorem ni_101 : notInt Try.prog 101 = true := by kernel_rfl
theorem ii_94 : notI Try.prog 94 = true := by kernel_rfl
theorem fa_35_0 : fieldAt Try.prog 35 0 = some (0, 1) := by kernel_rfl
theorem fa_35_1 : fieldAt Try.prog 35 1 = some (1, 1) := by kernel_rfl
theorem za_47 : zeroA Try.prog 47 = some (.agg #[(.bool false), (.int .i64 (0))]) := by kernel_rfl
theorem pl_47 : plK Try.prog 47 = some [(0, 1), (1, 1)] := by kernel_rfl
theorem sz_47 : aggSize Try.prog 47 = some 2 := by kernel_rfl
theorem za_93 : zeroA Try.prog 93 = some (.int .i64 (0)) := by kernel_rfl
theorem ta_93 : notI Try.prog 93 = true ∧ zeroA Try.prog 93 = some (.int .i64 (0)) := ⟨ii_93, za_93⟩
theorem za_94 : zeroA Try.prog 94 = some (.int .i64 (0)) := by kernel_rfl
theorem ta_94 : notI Try.prog 94 = true ∧ zeroA Try.prog 94 = some (.int .i64 (0)) := ⟨ii_94, za_94⟩
theorem ix_83 : arrK Try.prog 83 = some (9, 9, true) := by kernel_rfl
theorem ix_82 : arrK Try.prog 82 = some (9, 1, false) := by kernel_rfl
theorem za_83 : zeroA Try.prog 83 = some (.agg #[(.int .i64 (0)), (.int .i64 (0)), (.int .i64 (0)), (.int .i64 (0)), (.int .i64 (0)), (.int .i64 (0)), (.int .i64 (0)), (.int .i64 (0)), (.int .i64 (0)), (.int .i64 (0)), (.int .i64 (0)), (.int .i64 (0)), (.int .i64 (0)), (.int .i64 (0)), (.int .i64 (0)), (.int .i64 (0)), (.int .i64 (0)), (.int .i64 (0)), (.int .i64 (0)), (.int .i64 (0)), (.int .i64 (0)), (.int .i64 (0)), (.int .i64 (0)), (.int .i64 (0)), (.int .i64 (0)), (.int .i64 (0)), (.int .i64 (0)), (.int .i64 (0)), (.int .i64 (0)), (.int .i64 (0)), (.int .i64 (0)), (.int .i64 (0)), (.int .i64 (0)), (.int .i64 (0)), (.int .i64 (0)), (.int .i64 (0)), (.int .i64 (0)), (.int .i64 (0)), (.int .i64 (0)), (.int .i64 (0)), (.int .i64 (0)), (.int .i64 (0)), (.int .i64 (0)), (.int .i64 (0)), (.int .i64 (0)), (.int .i64 (0)), (.int .i64 (0)), (.int .i64 (0)), (.int .i64 (0)), (.int .i64 (0)), (.int .i64 (0)), (.int .i64 (0)), (.int .i64 (0)), (.int .i64 (0)), (.int .i64 (0)), (.int .i64 (0)), (.int .i64 (0)), (.int .i64 (0)), (.int .i64 (0)), (.int .i64 (0)), (.int .i64 (0)), (.int .i64 (0)), (.int .i64 (0)), (.int .i64 (0)), (.int .i64 (0)), (.int .i64 (0)), (.int .i64 (0)), (.int .i64 (0)), (.int .i64 (0)), (.int .i64 (0)), (.int .i64 (0)), (.int .i64 (0)), (.int .i64 (0)), (.int .i64 (0)), (.int .i64 (0)), (.int .i64 (0)), (.int .i64 (0)), (.int .i64 (0)), (.int .i64 (0)), (.int .i64 (0)), (.int .i64 (0))]) := by kernel_rfl
theorem sz_83 : aggSize Try.prog 83 = some 81 := by kernel_rfl
theorem fa_52_0 : fieldAt Try.prog 52 0 = some (0, 1) := by kernel_rfl
theorem ia_4 : aggK Try.prog 4 = some (false, 1) := by kernel_rfl
theorem fa_52_1 : fieldAt Try.prog 52 1 = some (1, 1) := by kernel_rfl
theorem ia_83 : aggK Try.prog 83 = some (true, 81) := by kernel_rfl
theorem ia_47 : aggK Try.prog 47 = some (true, 2) := by kernel_rfl

end Go.Proofs.Ytgpcjdhlijompaa.ore
