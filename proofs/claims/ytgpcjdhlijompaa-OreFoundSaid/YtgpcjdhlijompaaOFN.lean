/-
  Names for the nodes of the code of some functions (projections of their bodies), the step of each node, and the facts of types that they use.
-/
import Derived.Test.YtgpcjdhlijompaaRows
import Derived.Test.YtgpcjdhlijompaaE35
namespace Go.Proofs.Ytgpcjdhlijompaa.ore
open Go.GE
set_option maxRecDepth 100000
noncomputable def n9_0 : Code := sub [] (bodyOf Try.f9)
noncomputable def n9_1 : Code := sub [false] (bodyOf Try.f9)
noncomputable def q9_1 : List Oper := ops [false] Try.f9
noncomputable def n9_2 : Code := sub [true] (bodyOf Try.f9)
noncomputable def n9_3 : Code := sub [true, false] (bodyOf Try.f9)
noncomputable def q9_3 : List Oper := ops [true, false] Try.f9
noncomputable def n9_4 : Code := sub [true, true] (bodyOf Try.f9)
noncomputable def n9_5 : Code := sub [true, true, false] (bodyOf Try.f9)
noncomputable def q9_5 : List Oper := ops [true, true, false] Try.f9
noncomputable def n9_6 : Code := sub [true, true, true] (bodyOf Try.f9)
noncomputable def n9_7 : Code := sub [true, true, true, false] (bodyOf Try.f9)
noncomputable def q9_7 : List Oper := ops [true, true, true, false] Try.f9
noncomputable def n9_8 : Code := sub [true, true, true, true] (bodyOf Try.f9)
noncomputable def n9_9 : Code := sub [true, true, true, true, false] (bodyOf Try.f9)
noncomputable def q9_9 : List Oper := ops [true, true, true, true, false] Try.f9
noncomputable def n9_10 : Code := sub [true, true, true, true, true] (bodyOf Try.f9)
noncomputable def n9_11 : Code := sub [true, true, true, true, true, false] (bodyOf Try.f9)
noncomputable def q9_11 : List Oper := ops [true, true, true, true, true, false] Try.f9
noncomputable def n9_12 : Code := sub [true, true, true, true, true, true] (bodyOf Try.f9)
noncomputable def n9_13 : Code := sub [true, true, true, true, true, true, false] (bodyOf Try.f9)
noncomputable def n9_14 : Code := sub [true, true, true, true, true, true, false, false] (bodyOf Try.f9)
noncomputable def q9_14 : List Oper := ops [true, true, true, true, true, true, false, false] Try.f9
noncomputable def n9_15 : Code := sub [true, true, true, true, true, true, false, true] (bodyOf Try.f9)
noncomputable def n9_16 : Code := sub [true, true, true, true, true, true, false, true, false] (bodyOf Try.f9)
noncomputable def n9_17 : Code := sub [true, true, true, true, true, true, false, true, false, false] (bodyOf Try.f9)
noncomputable def q9_17 : List Oper := ops [true, true, true, true, true, true, false, true, false, false] Try.f9
noncomputable def n9_18 : Code := sub [true, true, true, true, true, true, false, true, false, true] (bodyOf Try.f9)
noncomputable def n9_19 : Code := sub [true, true, true, true, true, true, false, true, true] (bodyOf Try.f9)
noncomputable def n9_20 : Code := sub [true, true, true, true, true, true, true] (bodyOf Try.f9)
noncomputable def n9_21 : Code := sub [true, true, true, true, true, true, true, false] (bodyOf Try.f9)
noncomputable def n9_22 : Code := sub [true, true, true, true, true, true, true, false, false] (bodyOf Try.f9)
noncomputable def q9_22 : List Oper := ops [true, true, true, true, true, true, true, false, false] Try.f9
noncomputable def n9_23 : Code := sub [true, true, true, true, true, true, true, false, true] (bodyOf Try.f9)
noncomputable def n9_24 : Code := sub [true, true, true, true, true, true, true, false, true, false] (bodyOf Try.f9)
noncomputable def n9_25 : Code := sub [true, true, true, true, true, true, true, false, true, false, false] (bodyOf Try.f9)
noncomputable def q9_25 : List Oper := ops [true, true, true, true, true, true, true, false, true, false, false] Try.f9
noncomputable def n9_26 : Code := sub [true, true, true, true, true, true, true, false, true, false, true] (bodyOf Try.f9)
noncomputable def n9_27 : Code := sub [true, true, true, true, true, true, true, false, true, true] (bodyOf Try.f9)
noncomputable def n9_28 : Code := sub [true, true, true, true, true, true, true, true] (bodyOf Try.f9)
noncomputable def n9_29 : Code := sub [true, true, true, true, true, true, true, true, false] (bodyOf Try.f9)
noncomputable def n9_30 : Code := sub [true, true, true, true, true, true, true, true, false, false] (bodyOf Try.f9)
noncomputable def q9_30 : List Oper := ops [true, true, true, true, true, true, true, true, false, false] Try.f9
noncomputable def n9_31 : Code := sub [true, true, true, true, true, true, true, true, false, true] (bodyOf Try.f9)
noncomputable def n9_32 : Code := sub [true, true, true, true, true, true, true, true, false, true, false] (bodyOf Try.f9)
noncomputable def n9_33 : Code := sub [true, true, true, true, true, true, true, true, false, true, false, false] (bodyOf Try.f9)
noncomputable def q9_33 : List Oper := ops [true, true, true, true, true, true, true, true, false, true, false, false] Try.f9
noncomputable def n9_34 : Code := sub [true, true, true, true, true, true, true, true, false, true, false, true] (bodyOf Try.f9)
noncomputable def n9_35 : Code := sub [true, true, true, true, true, true, true, true, false, true, true] (bodyOf Try.f9)
noncomputable def n9_36 : Code := sub [true, true, true, true, true, true, true, true, true] (bodyOf Try.f9)
noncomputable def n9_37 : Code := sub [true, true, true, true, true, true, true, true, true, false] (bodyOf Try.f9)
noncomputable def q9_37 : List Oper := ops [true, true, true, true, true, true, true, true, true, false] Try.f9
noncomputable def n9_38 : Code := sub [true, true, true, true, true, true, true, true, true, true] (bodyOf Try.f9)
theorem body9 : Try.f9.body = some n9_0 := by kernel_rfl
theorem run9 (E : Ev) (args : List Value) (h : List Blk) (hl : args.length ≤ 122) : runB Try.prog E 9 args h = endS Try.prog [.tmp 4] h.length (codeB Try.prog E ⟨9, 122, h.length, none⟩ n9_0 ⟨enumT 0 args, h, []⟩) := GE.run_step Try.func9 body9 (by kernel_rfl) (by decide) (by kernel_rfl) hl
theorem n9_1s (E : Ev) (f : FuncId) (b : Nat) (ro : Option Nat) (st : St) : codeB Try.prog E ⟨f, 122, b, ro⟩ n9_1 st = plainS (runOps Try.prog E b q9_1 (ops [false] Try.f9) st) := GE.region_step (id := 0) (by kernel_rfl) (by kernel_rfl)
theorem n9_3s (E : Ev) (f : FuncId) (b : Nat) (ro : Option Nat) (st : St) : codeB Try.prog E ⟨f, 122, b, ro⟩ n9_3 st = plainS (runOps Try.prog E b q9_3 (ops [true, false] Try.f9) st) := GE.region_step (id := 1) (by kernel_rfl) (by kernel_rfl)
theorem n9_5s (E : Ev) (f : FuncId) (b : Nat) (ro : Option Nat) (st : St) : codeB Try.prog E ⟨f, 122, b, ro⟩ n9_5 st = plainS (runOps Try.prog E b q9_5 (ops [true, true, false] Try.f9) st) := GE.region_step (id := 2) (by kernel_rfl) (by kernel_rfl)
theorem n9_7s (E : Ev) (f : FuncId) (b : Nat) (ro : Option Nat) (st : St) : codeB Try.prog E ⟨f, 122, b, ro⟩ n9_7 st = plainS (runOps Try.prog E b q9_7 (ops [true, true, true, false] Try.f9) st) := GE.region_step (id := 3) (by kernel_rfl) (by kernel_rfl)
theorem n9_9s (E : Ev) (f : FuncId) (b : Nat) (ro : Option Nat) (st : St) : codeB Try.prog E ⟨f, 122, b, ro⟩ n9_9 st = plainS (runOps Try.prog E b q9_9 (ops [true, true, true, true, false] Try.f9) st) := GE.region_step (id := 4) (by kernel_rfl) (by kernel_rfl)
theorem n9_11s (E : Ev) (f : FuncId) (b : Nat) (ro : Option Nat) (st : St) : codeB Try.prog E ⟨f, 122, b, ro⟩ n9_11 st = plainS (runOps Try.prog E b q9_11 (ops [true, true, true, true, true, false] Try.f9) st) := GE.region_step (id := 5) (by kernel_rfl) (by kernel_rfl)
theorem q9_14g2 : gd q9_14 2 = some 42 := by kernel_rfl
theorem n9_14s (E : Ev) (f : FuncId) (b : Nat) (ro : Option Nat) (st : St) : codeB Try.prog E ⟨f, 122, b, ro⟩ n9_14 st = plainS (runOps Try.prog E b q9_14 (ops [true, true, true, true, true, true, false, false] Try.f9) st) := GE.region_step (id := 6) (by kernel_rfl) (by kernel_rfl)
theorem n9_17s (E : Ev) (f : FuncId) (b : Nat) (ro : Option Nat) (st : St) : codeB Try.prog E ⟨f, 122, b, ro⟩ n9_17 st = plainS (runOps Try.prog E b q9_17 (ops [true, true, true, true, true, true, false, true, false, false] Try.f9) st) := GE.region_step (id := 7) (by kernel_rfl) (by kernel_rfl)
theorem n9_18s (E : Ev) (cx : Cx) (st : St) : codeB Try.prog E cx n9_18 st = some (.ret, st) := GE.ret_step (by kernel_rfl)
theorem n9_16s (E : Ev) (cx : Cx) (st : St) : codeB Try.prog E cx n9_16 st = thenS (codeB Try.prog E cx n9_17 st) (codeB Try.prog E cx n9_18) := GE.seq_step (by kernel_rfl)
theorem n9_19s (E : Ev) (cx : Cx) (st : St) : codeB Try.prog E cx n9_19 st = some (.normal, st) := GE.skip_step (by kernel_rfl)
theorem n9_15s (E : Ev) (cx : Cx) (st : St) : codeB Try.prog E cx n9_15 st = condS (codeB Try.prog E cx n9_16) (codeB Try.prog E cx n9_19) (lk st.σ 45) st := GE.cond_step (c := .tmp 45) (by kernel_rfl)
theorem n9_13s (E : Ev) (cx : Cx) (st : St) : codeB Try.prog E cx n9_13 st = thenS (codeB Try.prog E cx n9_14 st) (codeB Try.prog E cx n9_15) := GE.seq_step (by kernel_rfl)
theorem n9_22s (E : Ev) (f : FuncId) (b : Nat) (ro : Option Nat) (st : St) : codeB Try.prog E ⟨f, 122, b, ro⟩ n9_22 st = plainS (runOps Try.prog E b q9_22 (ops [true, true, true, true, true, true, true, false, false] Try.f9) st) := GE.region_step (id := 8) (by kernel_rfl) (by kernel_rfl)
theorem q9_25g2 : gd q9_25 2 = some 50 := by kernel_rfl
theorem q9_25g6 : gd q9_25 6 = some 54 := by kernel_rfl
theorem n9_25s (E : Ev) (f : FuncId) (b : Nat) (ro : Option Nat) (st : St) : codeB Try.prog E ⟨f, 122, b, ro⟩ n9_25 st = plainS (runOps Try.prog E b q9_25 (ops [true, true, true, true, true, true, true, false, true, false, false] Try.f9) st) := GE.region_step (id := 9) (by kernel_rfl) (by kernel_rfl)
theorem n9_26s (E : Ev) (cx : Cx) (st : St) : codeB Try.prog E cx n9_26 st = some (.ret, st) := GE.ret_step (by kernel_rfl)
theorem n9_24s (E : Ev) (cx : Cx) (st : St) : codeB Try.prog E cx n9_24 st = thenS (codeB Try.prog E cx n9_25 st) (codeB Try.prog E cx n9_26) := GE.seq_step (by kernel_rfl)
theorem n9_27s (E : Ev) (cx : Cx) (st : St) : codeB Try.prog E cx n9_27 st = some (.normal, st) := GE.skip_step (by kernel_rfl)
theorem n9_23s (E : Ev) (cx : Cx) (st : St) : codeB Try.prog E cx n9_23 st = condS (codeB Try.prog E cx n9_24) (codeB Try.prog E cx n9_27) (lk st.σ 47) st := GE.cond_step (c := .tmp 47) (by kernel_rfl)
theorem n9_21s (E : Ev) (cx : Cx) (st : St) : codeB Try.prog E cx n9_21 st = thenS (codeB Try.prog E cx n9_22 st) (codeB Try.prog E cx n9_23) := GE.seq_step (by kernel_rfl)
theorem q9_30g2 : gd q9_30 2 = some 59 := by kernel_rfl
theorem q9_30g6 : gd q9_30 6 = some 63 := by kernel_rfl
theorem q9_30g11 : gd q9_30 11 = some 68 := by kernel_rfl
theorem q9_30g16 : gd q9_30 16 = some 73 := by kernel_rfl
theorem q9_30g21 : gd q9_30 21 = some 78 := by kernel_rfl
theorem q9_30g28 : gd q9_30 28 = some 85 := by kernel_rfl
theorem q9_30g35 : gd q9_30 35 = some 92 := by kernel_rfl
theorem q9_30g45 : gd q9_30 45 = some 102 := by kernel_rfl
theorem n9_30s (E : Ev) (f : FuncId) (b : Nat) (ro : Option Nat) (st : St) : codeB Try.prog E ⟨f, 122, b, ro⟩ n9_30 st = plainS (runOps Try.prog E b q9_30 (ops [true, true, true, true, true, true, true, true, false, false] Try.f9) st) := GE.region_step (id := 10) (by kernel_rfl) (by kernel_rfl)
theorem n9_33s (E : Ev) (f : FuncId) (b : Nat) (ro : Option Nat) (st : St) : codeB Try.prog E ⟨f, 122, b, ro⟩ n9_33 st = plainS (runOps Try.prog E b q9_33 (ops [true, true, true, true, true, true, true, true, false, true, false, false] Try.f9) st) := GE.region_step (id := 11) (by kernel_rfl) (by kernel_rfl)
theorem n9_34s (E : Ev) (cx : Cx) (st : St) : codeB Try.prog E cx n9_34 st = some (.ret, st) := GE.ret_step (by kernel_rfl)
theorem n9_32s (E : Ev) (cx : Cx) (st : St) : codeB Try.prog E cx n9_32 st = thenS (codeB Try.prog E cx n9_33 st) (codeB Try.prog E cx n9_34) := GE.seq_step (by kernel_rfl)
theorem n9_35s (E : Ev) (cx : Cx) (st : St) : codeB Try.prog E cx n9_35 st = some (.normal, st) := GE.skip_step (by kernel_rfl)
theorem n9_31s (E : Ev) (cx : Cx) (st : St) : codeB Try.prog E cx n9_31 st = condS (codeB Try.prog E cx n9_32) (codeB Try.prog E cx n9_35) (lk st.σ 111) st := GE.cond_step (c := .tmp 111) (by kernel_rfl)
theorem n9_29s (E : Ev) (cx : Cx) (st : St) : codeB Try.prog E cx n9_29 st = thenS (codeB Try.prog E cx n9_30 st) (codeB Try.prog E cx n9_31) := GE.seq_step (by kernel_rfl)
theorem q9_37g7 : gd q9_37 7 = some 119 := by kernel_rfl
theorem n9_37s (E : Ev) (f : FuncId) (b : Nat) (ro : Option Nat) (st : St) : codeB Try.prog E ⟨f, 122, b, ro⟩ n9_37 st = plainS (runOps Try.prog E b q9_37 (ops [true, true, true, true, true, true, true, true, true, false] Try.f9) st) := GE.region_step (id := 12) (by kernel_rfl) (by kernel_rfl)
theorem n9_38s (E : Ev) (cx : Cx) (st : St) : codeB Try.prog E cx n9_38 st = some (.ret, st) := GE.ret_step (by kernel_rfl)
theorem n9_36s (E : Ev) (cx : Cx) (st : St) : codeB Try.prog E cx n9_36 st = thenS (codeB Try.prog E cx n9_37 st) (codeB Try.prog E cx n9_38) := GE.seq_step (by kernel_rfl)
theorem n9_28s (E : Ev) (cx : Cx) (st : St) : codeB Try.prog E cx n9_28 st = thenS (codeB Try.prog E cx n9_29 st) (codeB Try.prog E cx n9_36) := GE.seq_step (by kernel_rfl)
theorem n9_20s (E : Ev) (cx : Cx) (st : St) : codeB Try.prog E cx n9_20 st = thenS (codeB Try.prog E cx n9_21 st) (codeB Try.prog E cx n9_28) := GE.seq_step (by kernel_rfl)
theorem n9_12s (E : Ev) (cx : Cx) (st : St) : codeB Try.prog E cx n9_12 st = thenS (codeB Try.prog E cx n9_13 st) (codeB Try.prog E cx n9_20) := GE.seq_step (by kernel_rfl)
theorem n9_10s (E : Ev) (cx : Cx) (st : St) : codeB Try.prog E cx n9_10 st = thenS (codeB Try.prog E cx n9_11 st) (codeB Try.prog E cx n9_12) := GE.seq_step (by kernel_rfl)
theorem n9_8s (E : Ev) (cx : Cx) (st : St) : codeB Try.prog E cx n9_8 st = thenS (codeB Try.prog E cx n9_9 st) (codeB Try.prog E cx n9_10) := GE.seq_step (by kernel_rfl)
theorem n9_6s (E : Ev) (cx : Cx) (st : St) : codeB Try.prog E cx n9_6 st = thenS (codeB Try.prog E cx n9_7 st) (codeB Try.prog E cx n9_8) := GE.seq_step (by kernel_rfl)
theorem n9_4s (E : Ev) (cx : Cx) (st : St) : codeB Try.prog E cx n9_4 st = thenS (codeB Try.prog E cx n9_5 st) (codeB Try.prog E cx n9_6) := GE.seq_step (by kernel_rfl)
theorem n9_2s (E : Ev) (cx : Cx) (st : St) : codeB Try.prog E cx n9_2 st = thenS (codeB Try.prog E cx n9_3 st) (codeB Try.prog E cx n9_4) := GE.seq_step (by kernel_rfl)
theorem n9_0s (E : Ev) (cx : Cx) (st : St) : codeB Try.prog E cx n9_0 st = thenS (codeB Try.prog E cx n9_1 st) (codeB Try.prog E cx n9_2) := GE.seq_step (by kernel_rfl)
noncomputable def n17_0 : Code := sub [] (bodyOf Try.f17)
noncomputable def n17_1 : Code := sub [false] (bodyOf Try.f17)
noncomputable def q17_1 : List Oper := ops [false] Try.f17
noncomputable def n17_2 : Code := sub [true] (bodyOf Try.f17)
noncomputable def n17_3 : Code := sub [true, false] (bodyOf Try.f17)
noncomputable def n17_4 : Code := sub [true, false, false] (bodyOf Try.f17)
noncomputable def n17_5 : Code := sub [true, false, false, false] (bodyOf Try.f17)
noncomputable def q17_5 : List Oper := ops [true, false, false, false] Try.f17
noncomputable def n17_6 : Code := sub [true, false, false, true] (bodyOf Try.f17)
noncomputable def n17_7 : Code := sub [true, false, false, true, false] (bodyOf Try.f17)
noncomputable def n17_8 : Code := sub [true, false, false, true, false, false] (bodyOf Try.f17)
noncomputable def q17_8 : List Oper := ops [true, false, false, true, false, false] Try.f17
noncomputable def n17_9 : Code := sub [true, false, false, true, false, true] (bodyOf Try.f17)
noncomputable def n17_10 : Code := sub [true, false, false, true, true] (bodyOf Try.f17)
noncomputable def n17_11 : Code := sub [true, false, false, true, true, false] (bodyOf Try.f17)
noncomputable def q17_11 : List Oper := ops [true, false, false, true, true, false] Try.f17
noncomputable def n17_12 : Code := sub [true, false, false, true, true, true] (bodyOf Try.f17)
noncomputable def n17_13 : Code := sub [true, false, false, true, true, true, false] (bodyOf Try.f17)
noncomputable def n17_14 : Code := sub [true, false, false, true, true, true, false, false] (bodyOf Try.f17)
noncomputable def q17_14 : List Oper := ops [true, false, false, true, true, true, false, false] Try.f17
noncomputable def n17_15 : Code := sub [true, false, false, true, true, true, false, true] (bodyOf Try.f17)
noncomputable def n17_16 : Code := sub [true, false, false, true, true, true, true] (bodyOf Try.f17)
noncomputable def n17_17 : Code := sub [true, true] (bodyOf Try.f17)
noncomputable def n17_18 : Code := sub [true, true, false] (bodyOf Try.f17)
noncomputable def n17_19 : Code := sub [true, true, false, false] (bodyOf Try.f17)
noncomputable def q17_19 : List Oper := ops [true, true, false, false] Try.f17
noncomputable def n17_20 : Code := sub [true, true, false, true] (bodyOf Try.f17)
noncomputable def n17_21 : Code := sub [true, true, false, true, false] (bodyOf Try.f17)
noncomputable def n17_22 : Code := sub [true, true, false, true, false, false] (bodyOf Try.f17)
noncomputable def n17_23 : Code := sub [true, true, false, true, false, false, false] (bodyOf Try.f17)
noncomputable def q17_23 : List Oper := ops [true, true, false, true, false, false, false] Try.f17
noncomputable def n17_24 : Code := sub [true, true, false, true, false, false, true] (bodyOf Try.f17)
noncomputable def n17_25 : Code := sub [true, true, false, true, false, false, true, false] (bodyOf Try.f17)
noncomputable def n17_26 : Code := sub [true, true, false, true, false, false, true, false, false] (bodyOf Try.f17)
noncomputable def n17_27 : Code := sub [true, true, false, true, false, false, true, false, true] (bodyOf Try.f17)
noncomputable def n17_28 : Code := sub [true, true, false, true, false, false, true, true] (bodyOf Try.f17)
noncomputable def n17_29 : Code := sub [true, true, false, true, false, false, true, true, false] (bodyOf Try.f17)
noncomputable def n17_30 : Code := sub [true, true, false, true, false, false, true, true, false, false] (bodyOf Try.f17)
noncomputable def n17_31 : Code := sub [true, true, false, true, false, false, true, true, false, false, false] (bodyOf Try.f17)
noncomputable def q17_31 : List Oper := ops [true, true, false, true, false, false, true, true, false, false, false] Try.f17
noncomputable def n17_32 : Code := sub [true, true, false, true, false, false, true, true, false, false, true] (bodyOf Try.f17)
noncomputable def n17_33 : Code := sub [true, true, false, true, false, false, true, true, false, false, true, false] (bodyOf Try.f17)
noncomputable def q17_33 : List Oper := ops [true, true, false, true, false, false, true, true, false, false, true, false] Try.f17
noncomputable def n17_34 : Code := sub [true, true, false, true, false, false, true, true, false, false, true, true] (bodyOf Try.f17)
noncomputable def n17_35 : Code := sub [true, true, false, true, false, false, true, true, false, false, true, true, false] (bodyOf Try.f17)
noncomputable def n17_36 : Code := sub [true, true, false, true, false, false, true, true, false, false, true, true, false, false] (bodyOf Try.f17)
noncomputable def q17_36 : List Oper := ops [true, true, false, true, false, false, true, true, false, false, true, true, false, false] Try.f17
noncomputable def n17_37 : Code := sub [true, true, false, true, false, false, true, true, false, false, true, true, false, true] (bodyOf Try.f17)
noncomputable def n17_38 : Code := sub [true, true, false, true, false, false, true, true, false, false, true, true, true] (bodyOf Try.f17)
noncomputable def n17_39 : Code := sub [true, true, false, true, false, false, true, true, true] (bodyOf Try.f17)
noncomputable def q17_39 : List Oper := ops [true, true, false, true, false, false, true, true, true] Try.f17
noncomputable def n17_40 : Code := sub [true, true, true] (bodyOf Try.f17)
noncomputable def n17_41 : Code := sub [true, true, true, false] (bodyOf Try.f17)
noncomputable def n17_42 : Code := sub [true, true, true, false, false] (bodyOf Try.f17)
noncomputable def q17_42 : List Oper := ops [true, true, true, false, false] Try.f17
noncomputable def n17_43 : Code := sub [true, true, true, false, true] (bodyOf Try.f17)
noncomputable def n17_44 : Code := sub [true, true, true, false, true, false] (bodyOf Try.f17)
noncomputable def n17_45 : Code := sub [true, true, true, false, true, false, false] (bodyOf Try.f17)
noncomputable def n17_46 : Code := sub [true, true, true, false, true, false, false, false] (bodyOf Try.f17)
noncomputable def q17_46 : List Oper := ops [true, true, true, false, true, false, false, false] Try.f17
noncomputable def n17_47 : Code := sub [true, true, true, false, true, false, false, true] (bodyOf Try.f17)
noncomputable def n17_48 : Code := sub [true, true, true, false, true, false, false, true, false] (bodyOf Try.f17)
noncomputable def n17_49 : Code := sub [true, true, true, false, true, false, false, true, false, false] (bodyOf Try.f17)
noncomputable def n17_50 : Code := sub [true, true, true, false, true, false, false, true, false, true] (bodyOf Try.f17)
noncomputable def n17_51 : Code := sub [true, true, true, false, true, false, false, true, true] (bodyOf Try.f17)
noncomputable def n17_52 : Code := sub [true, true, true, false, true, false, false, true, true, false] (bodyOf Try.f17)
noncomputable def n17_53 : Code := sub [true, true, true, false, true, false, false, true, true, false, false] (bodyOf Try.f17)
noncomputable def n17_54 : Code := sub [true, true, true, false, true, false, false, true, true, false, false, false] (bodyOf Try.f17)
noncomputable def q17_54 : List Oper := ops [true, true, true, false, true, false, false, true, true, false, false, false] Try.f17
noncomputable def n17_55 : Code := sub [true, true, true, false, true, false, false, true, true, false, false, true] (bodyOf Try.f17)
noncomputable def n17_56 : Code := sub [true, true, true, false, true, false, false, true, true, false, false, true, false] (bodyOf Try.f17)
noncomputable def q17_56 : List Oper := ops [true, true, true, false, true, false, false, true, true, false, false, true, false] Try.f17
noncomputable def n17_57 : Code := sub [true, true, true, false, true, false, false, true, true, false, false, true, true] (bodyOf Try.f17)
noncomputable def n17_58 : Code := sub [true, true, true, false, true, false, false, true, true, false, false, true, true, false] (bodyOf Try.f17)
noncomputable def q17_58 : List Oper := ops [true, true, true, false, true, false, false, true, true, false, false, true, true, false] Try.f17
noncomputable def n17_59 : Code := sub [true, true, true, false, true, false, false, true, true, false, false, true, true, true] (bodyOf Try.f17)
noncomputable def n17_60 : Code := sub [true, true, true, false, true, false, false, true, true, false, false, true, true, true, false] (bodyOf Try.f17)
noncomputable def n17_61 : Code := sub [true, true, true, false, true, false, false, true, true, false, false, true, true, true, false, false] (bodyOf Try.f17)
noncomputable def q17_61 : List Oper := ops [true, true, true, false, true, false, false, true, true, false, false, true, true, true, false, false] Try.f17
noncomputable def n17_62 : Code := sub [true, true, true, false, true, false, false, true, true, false, false, true, true, true, false, true] (bodyOf Try.f17)
noncomputable def n17_63 : Code := sub [true, true, true, false, true, false, false, true, true, false, false, true, true, true, true] (bodyOf Try.f17)
noncomputable def n17_64 : Code := sub [true, true, true, false, true, false, false, true, true, true] (bodyOf Try.f17)
noncomputable def q17_64 : List Oper := ops [true, true, true, false, true, false, false, true, true, true] Try.f17
noncomputable def n17_65 : Code := sub [true, true, true, true] (bodyOf Try.f17)
noncomputable def n17_66 : Code := sub [true, true, true, true, false] (bodyOf Try.f17)
noncomputable def q17_66 : List Oper := ops [true, true, true, true, false] Try.f17
noncomputable def n17_67 : Code := sub [true, true, true, true, true] (bodyOf Try.f17)
theorem body17 : Try.f17.body = some n17_0 := by kernel_rfl
theorem run17 (E : Ev) (args : List Value) (h : List Blk) (hl : args.length ≤ 94) : runB Try.prog E 17 args h = endS Try.prog [.tmp 2] h.length (codeB Try.prog E ⟨17, 94, h.length, none⟩ n17_0 ⟨enumT 0 args, h, []⟩) := GE.run_step Try.func17 body17 (by kernel_rfl) (by decide) (by kernel_rfl) hl
theorem n17_1s (E : Ev) (f : FuncId) (b : Nat) (ro : Option Nat) (st : St) : codeB Try.prog E ⟨f, 94, b, ro⟩ n17_1 st = plainS (runOps Try.prog E b q17_1 (ops [false] Try.f17) st) := GE.region_step (id := 0) (by kernel_rfl) (by kernel_rfl)
theorem q17_5g4 : gd q17_5 4 = some 14 := by kernel_rfl
theorem q17_5g10 : gd q17_5 10 = some 20 := by kernel_rfl
theorem n17_5s (E : Ev) (f : FuncId) (b : Nat) (ro : Option Nat) (st : St) : codeB Try.prog E ⟨f, 94, b, ro⟩ n17_5 st = plainS (runOps Try.prog E b q17_5 (ops [true, false, false, false] Try.f17) st) := GE.region_step (id := 1) (by kernel_rfl) (by kernel_rfl)
theorem n17_8s (E : Ev) (f : FuncId) (b : Nat) (ro : Option Nat) (st : St) : codeB Try.prog E ⟨f, 94, b, ro⟩ n17_8 st = plainS (runOps Try.prog E b q17_8 (ops [true, false, false, true, false, false] Try.f17) st) := GE.region_step (id := 2) (by kernel_rfl) (by kernel_rfl)
theorem n17_9s (E : Ev) (cx : Cx) (st : St) : codeB Try.prog E cx n17_9 st = some (.ret, st) := GE.ret_step (by kernel_rfl)
theorem n17_7s (E : Ev) (cx : Cx) (st : St) : codeB Try.prog E cx n17_7 st = thenS (codeB Try.prog E cx n17_8 st) (codeB Try.prog E cx n17_9) := GE.seq_step (by kernel_rfl)
theorem n17_11s (E : Ev) (f : FuncId) (b : Nat) (ro : Option Nat) (st : St) : codeB Try.prog E ⟨f, 94, b, ro⟩ n17_11 st = plainS (runOps Try.prog E b q17_11 (ops [true, false, false, true, true, false] Try.f17) st) := GE.region_step (id := 3) (by kernel_rfl) (by kernel_rfl)
theorem n17_14s (E : Ev) (f : FuncId) (b : Nat) (ro : Option Nat) (st : St) : codeB Try.prog E ⟨f, 94, b, ro⟩ n17_14 st = plainS (runOps Try.prog E b q17_14 (ops [true, false, false, true, true, true, false, false] Try.f17) st) := GE.region_step (id := 4) (by kernel_rfl) (by kernel_rfl)
theorem n17_15s (E : Ev) (cx : Cx) (st : St) : codeB Try.prog E cx n17_15 st = some (.ret, st) := GE.ret_step (by kernel_rfl)
theorem n17_13s (E : Ev) (cx : Cx) (st : St) : codeB Try.prog E cx n17_13 st = thenS (codeB Try.prog E cx n17_14 st) (codeB Try.prog E cx n17_15) := GE.seq_step (by kernel_rfl)
theorem n17_16s (E : Ev) (cx : Cx) (st : St) : codeB Try.prog E cx n17_16 st = some (.normal, st) := GE.skip_step (by kernel_rfl)
theorem n17_12s (E : Ev) (cx : Cx) (st : St) : codeB Try.prog E cx n17_12 st = condS (codeB Try.prog E cx n17_13) (codeB Try.prog E cx n17_16) (lk st.σ 26) st := GE.cond_step (c := .tmp 26) (by kernel_rfl)
theorem n17_10s (E : Ev) (cx : Cx) (st : St) : codeB Try.prog E cx n17_10 st = thenS (codeB Try.prog E cx n17_11 st) (codeB Try.prog E cx n17_12) := GE.seq_step (by kernel_rfl)
theorem n17_6s (E : Ev) (cx : Cx) (st : St) : codeB Try.prog E cx n17_6 st = condS (codeB Try.prog E cx n17_7) (codeB Try.prog E cx n17_10) (lk st.σ 9) st := GE.cond_step (c := .tmp 9) (by kernel_rfl)
theorem n17_4s (E : Ev) (cx : Cx) (st : St) : codeB Try.prog E cx n17_4 st = thenS (codeB Try.prog E cx n17_5 st) (codeB Try.prog E cx n17_6) := GE.seq_step (by kernel_rfl)
theorem n17_3s (E : Ev) (cx : Cx) (st : St) : codeB Try.prog E cx n17_3 st = blockS 0 (codeB Try.prog E cx n17_4 st) st := GE.block_step (by kernel_rfl)
theorem n17_19s (E : Ev) (f : FuncId) (b : Nat) (ro : Option Nat) (st : St) : codeB Try.prog E ⟨f, 94, b, ro⟩ n17_19 st = plainS (runOps Try.prog E b q17_19 (ops [true, true, false, false] Try.f17) st) := GE.region_step (id := 5) (by kernel_rfl) (by kernel_rfl)
theorem n17_23s (E : Ev) (f : FuncId) (b : Nat) (ro : Option Nat) (st : St) : codeB Try.prog E ⟨f, 94, b, ro⟩ n17_23 st = plainS (runOps Try.prog E b q17_23 (ops [true, true, false, true, false, false, false] Try.f17) st) := GE.region_step (id := 6) (by kernel_rfl) (by kernel_rfl)
theorem n17_26s (E : Ev) (cx : Cx) (st : St) : codeB Try.prog E cx n17_26 st = some (.normal, st) := GE.skip_step (by kernel_rfl)
theorem n17_27s (E : Ev) (cx : Cx) (st : St) : codeB Try.prog E cx n17_27 st = some (.exit 1, st) := GE.exit_step (by kernel_rfl)
theorem n17_25s (E : Ev) (cx : Cx) (st : St) : codeB Try.prog E cx n17_25 st = condS (codeB Try.prog E cx n17_26) (codeB Try.prog E cx n17_27) (lk st.σ 40) st := GE.cond_step (c := .tmp 40) (by kernel_rfl)
theorem n17_31s (E : Ev) (f : FuncId) (b : Nat) (ro : Option Nat) (st : St) : codeB Try.prog E ⟨f, 94, b, ro⟩ n17_31 st = plainS (runOps Try.prog E b q17_31 (ops [true, true, false, true, false, false, true, true, false, false, false] Try.f17) st) := GE.region_step (id := 7) (by kernel_rfl) (by kernel_rfl)
theorem n17_33s (E : Ev) (f : FuncId) (b : Nat) (ro : Option Nat) (st : St) : codeB Try.prog E ⟨f, 94, b, ro⟩ n17_33 st = plainS (runOps Try.prog E b q17_33 (ops [true, true, false, true, false, false, true, true, false, false, true, false] Try.f17) st) := GE.region_step (id := 8) (by kernel_rfl) (by kernel_rfl)
theorem n17_36s (E : Ev) (f : FuncId) (b : Nat) (ro : Option Nat) (st : St) : codeB Try.prog E ⟨f, 94, b, ro⟩ n17_36 st = plainS (runOps Try.prog E b q17_36 (ops [true, true, false, true, false, false, true, true, false, false, true, true, false, false] Try.f17) st) := GE.region_step (id := 9) (by kernel_rfl) (by kernel_rfl)
theorem n17_37s (E : Ev) (cx : Cx) (st : St) : codeB Try.prog E cx n17_37 st = some (.ret, st) := GE.ret_step (by kernel_rfl)
theorem n17_35s (E : Ev) (cx : Cx) (st : St) : codeB Try.prog E cx n17_35 st = thenS (codeB Try.prog E cx n17_36 st) (codeB Try.prog E cx n17_37) := GE.seq_step (by kernel_rfl)
theorem n17_38s (E : Ev) (cx : Cx) (st : St) : codeB Try.prog E cx n17_38 st = some (.normal, st) := GE.skip_step (by kernel_rfl)
theorem n17_34s (E : Ev) (cx : Cx) (st : St) : codeB Try.prog E cx n17_34 st = condS (codeB Try.prog E cx n17_35) (codeB Try.prog E cx n17_38) (lk st.σ 45) st := GE.cond_step (c := .tmp 45) (by kernel_rfl)
theorem n17_32s (E : Ev) (cx : Cx) (st : St) : codeB Try.prog E cx n17_32 st = thenS (codeB Try.prog E cx n17_33 st) (codeB Try.prog E cx n17_34) := GE.seq_step (by kernel_rfl)
theorem n17_30s (E : Ev) (cx : Cx) (st : St) : codeB Try.prog E cx n17_30 st = thenS (codeB Try.prog E cx n17_31 st) (codeB Try.prog E cx n17_32) := GE.seq_step (by kernel_rfl)
theorem n17_29s (E : Ev) (cx : Cx) (st : St) : codeB Try.prog E cx n17_29 st = blockS 2 (codeB Try.prog E cx n17_30 st) st := GE.block_step (by kernel_rfl)
theorem n17_39s (E : Ev) (f : FuncId) (b : Nat) (ro : Option Nat) (st : St) : codeB Try.prog E ⟨f, 94, b, ro⟩ n17_39 st = plainS (runOps Try.prog E b q17_39 (ops [true, true, false, true, false, false, true, true, true] Try.f17) st) := GE.region_step (id := 10) (by kernel_rfl) (by kernel_rfl)
theorem n17_28s (E : Ev) (cx : Cx) (st : St) : codeB Try.prog E cx n17_28 st = thenS (codeB Try.prog E cx n17_29 st) (codeB Try.prog E cx n17_39) := GE.seq_step (by kernel_rfl)
theorem n17_24s (E : Ev) (cx : Cx) (st : St) : codeB Try.prog E cx n17_24 st = thenS (codeB Try.prog E cx n17_25 st) (codeB Try.prog E cx n17_28) := GE.seq_step (by kernel_rfl)
theorem n17_22s (E : Ev) (cx : Cx) (st : St) : codeB Try.prog E cx n17_22 st = thenS (codeB Try.prog E cx n17_23 st) (codeB Try.prog E cx n17_24) := GE.seq_step (by kernel_rfl)
theorem n17_21s (E : Ev) (cx : Cx) (st : St) : codeB Try.prog E cx n17_21 st = loopS (fun st' => E.code cx n17_21 st') cx.base (codeB Try.prog E cx n17_22 st) st := GE.loop_step (by kernel_rfl)
theorem n17_20s (E : Ev) (cx : Cx) (st : St) : codeB Try.prog E cx n17_20 st = blockS 1 (codeB Try.prog E cx n17_21 st) st := GE.block_step (by kernel_rfl)
theorem n17_18s (E : Ev) (cx : Cx) (st : St) : codeB Try.prog E cx n17_18 st = thenS (codeB Try.prog E cx n17_19 st) (codeB Try.prog E cx n17_20) := GE.seq_step (by kernel_rfl)
theorem n17_42s (E : Ev) (f : FuncId) (b : Nat) (ro : Option Nat) (st : St) : codeB Try.prog E ⟨f, 94, b, ro⟩ n17_42 st = plainS (runOps Try.prog E b q17_42 (ops [true, true, true, false, false] Try.f17) st) := GE.region_step (id := 11) (by kernel_rfl) (by kernel_rfl)
theorem n17_46s (E : Ev) (f : FuncId) (b : Nat) (ro : Option Nat) (st : St) : codeB Try.prog E ⟨f, 94, b, ro⟩ n17_46 st = plainS (runOps Try.prog E b q17_46 (ops [true, true, true, false, true, false, false, false] Try.f17) st) := GE.region_step (id := 12) (by kernel_rfl) (by kernel_rfl)
theorem n17_49s (E : Ev) (cx : Cx) (st : St) : codeB Try.prog E cx n17_49 st = some (.normal, st) := GE.skip_step (by kernel_rfl)
theorem n17_50s (E : Ev) (cx : Cx) (st : St) : codeB Try.prog E cx n17_50 st = some (.exit 3, st) := GE.exit_step (by kernel_rfl)
theorem n17_48s (E : Ev) (cx : Cx) (st : St) : codeB Try.prog E cx n17_48 st = condS (codeB Try.prog E cx n17_49) (codeB Try.prog E cx n17_50) (lk st.σ 51) st := GE.cond_step (c := .tmp 51) (by kernel_rfl)
theorem n17_54s (E : Ev) (f : FuncId) (b : Nat) (ro : Option Nat) (st : St) : codeB Try.prog E ⟨f, 94, b, ro⟩ n17_54 st = plainS (runOps Try.prog E b q17_54 (ops [true, true, true, false, true, false, false, true, true, false, false, false] Try.f17) st) := GE.region_step (id := 13) (by kernel_rfl) (by kernel_rfl)
theorem n17_56s (E : Ev) (f : FuncId) (b : Nat) (ro : Option Nat) (st : St) : codeB Try.prog E ⟨f, 94, b, ro⟩ n17_56 st = drawS [0, 0, 2, 7, 0, 0, 32, 112, 15, 511] (runOpsF Try.prog E b q17_56 (ops [true, true, true, false, true, false, false, true, true, false, false, true, false] Try.f17) st) := GE.draw_step (id := 14) (by kernel_rfl) (by kernel_rfl) (by kernel_rfl) (by kernel_rfl)
theorem q17_58g2 : gd q17_58 2 = some 65 := by kernel_rfl
theorem q17_58g14 : gd q17_58 14 = some 77 := by kernel_rfl
theorem q17_58g17 : gd q17_58 17 = some 80 := by kernel_rfl
theorem n17_58s (E : Ev) (f : FuncId) (b : Nat) (ro : Option Nat) (st : St) : codeB Try.prog E ⟨f, 94, b, ro⟩ n17_58 st = drawS [0, 1, 3, 7, 7, 7, 7, 71, 7, 487, 1015, 2047, 4095, 8191, 16383, 32767, 65535, 131071, 262143, 262143, 262143, 262143, 262143, 4456447, 15990783, 33292287, 67108863, 134217727, 268435455, 536870911] (runOpsF Try.prog E b q17_58 (ops [true, true, true, false, true, false, false, true, true, false, false, true, true, false] Try.f17) st) := GE.draw_step (id := 15) (by kernel_rfl) (by kernel_rfl) (by kernel_rfl) (by kernel_rfl)
theorem n17_61s (E : Ev) (f : FuncId) (b : Nat) (ro : Option Nat) (st : St) : codeB Try.prog E ⟨f, 94, b, ro⟩ n17_61 st = plainS (runOps Try.prog E b q17_61 (ops [true, true, true, false, true, false, false, true, true, false, false, true, true, true, false, false] Try.f17) st) := GE.region_step (id := 16) (by kernel_rfl) (by kernel_rfl)
theorem n17_62s (E : Ev) (cx : Cx) (st : St) : codeB Try.prog E cx n17_62 st = some (.ret, st) := GE.ret_step (by kernel_rfl)
theorem n17_60s (E : Ev) (cx : Cx) (st : St) : codeB Try.prog E cx n17_60 st = thenS (codeB Try.prog E cx n17_61 st) (codeB Try.prog E cx n17_62) := GE.seq_step (by kernel_rfl)
theorem n17_63s (E : Ev) (cx : Cx) (st : St) : codeB Try.prog E cx n17_63 st = some (.normal, st) := GE.skip_step (by kernel_rfl)
theorem n17_59s (E : Ev) (cx : Cx) (st : St) : codeB Try.prog E cx n17_59 st = condS (codeB Try.prog E cx n17_60) (codeB Try.prog E cx n17_63) (lk st.σ 92) st := GE.cond_step (c := .tmp 92) (by kernel_rfl)
theorem n17_57s (E : Ev) (cx : Cx) (st : St) : codeB Try.prog E cx n17_57 st = thenS (codeB Try.prog E cx n17_58 st) (codeB Try.prog E cx n17_59) := GE.seq_step (by kernel_rfl)
theorem n17_55s (E : Ev) (cx : Cx) (st : St) : codeB Try.prog E cx n17_55 st = thenS (codeB Try.prog E cx n17_56 st) (codeB Try.prog E cx n17_57) := GE.seq_step (by kernel_rfl)
theorem n17_53s (E : Ev) (cx : Cx) (st : St) : codeB Try.prog E cx n17_53 st = thenS (codeB Try.prog E cx n17_54 st) (codeB Try.prog E cx n17_55) := GE.seq_step (by kernel_rfl)
theorem n17_52s (E : Ev) (cx : Cx) (st : St) : codeB Try.prog E cx n17_52 st = blockS 4 (codeB Try.prog E cx n17_53 st) st := GE.block_step (by kernel_rfl)
theorem n17_64s (E : Ev) (f : FuncId) (b : Nat) (ro : Option Nat) (st : St) : codeB Try.prog E ⟨f, 94, b, ro⟩ n17_64 st = plainS (runOps Try.prog E b q17_64 (ops [true, true, true, false, true, false, false, true, true, true] Try.f17) st) := GE.region_step (id := 17) (by kernel_rfl) (by kernel_rfl)
theorem n17_51s (E : Ev) (cx : Cx) (st : St) : codeB Try.prog E cx n17_51 st = thenS (codeB Try.prog E cx n17_52 st) (codeB Try.prog E cx n17_64) := GE.seq_step (by kernel_rfl)
theorem n17_47s (E : Ev) (cx : Cx) (st : St) : codeB Try.prog E cx n17_47 st = thenS (codeB Try.prog E cx n17_48 st) (codeB Try.prog E cx n17_51) := GE.seq_step (by kernel_rfl)
theorem n17_45s (E : Ev) (cx : Cx) (st : St) : codeB Try.prog E cx n17_45 st = thenS (codeB Try.prog E cx n17_46 st) (codeB Try.prog E cx n17_47) := GE.seq_step (by kernel_rfl)
theorem n17_44s (E : Ev) (cx : Cx) (st : St) : codeB Try.prog E cx n17_44 st = loopS (fun st' => E.code cx n17_44 st') cx.base (codeB Try.prog E cx n17_45 st) st := GE.loop_step (by kernel_rfl)
theorem n17_43s (E : Ev) (cx : Cx) (st : St) : codeB Try.prog E cx n17_43 st = blockS 3 (codeB Try.prog E cx n17_44 st) st := GE.block_step (by kernel_rfl)
theorem n17_41s (E : Ev) (cx : Cx) (st : St) : codeB Try.prog E cx n17_41 st = thenS (codeB Try.prog E cx n17_42 st) (codeB Try.prog E cx n17_43) := GE.seq_step (by kernel_rfl)
theorem n17_66s (E : Ev) (f : FuncId) (b : Nat) (ro : Option Nat) (st : St) : codeB Try.prog E ⟨f, 94, b, ro⟩ n17_66 st = plainS (runOps Try.prog E b q17_66 (ops [true, true, true, true, false] Try.f17) st) := GE.region_step (id := 18) (by kernel_rfl) (by kernel_rfl)
theorem n17_67s (E : Ev) (cx : Cx) (st : St) : codeB Try.prog E cx n17_67 st = some (.ret, st) := GE.ret_step (by kernel_rfl)
theorem n17_65s (E : Ev) (cx : Cx) (st : St) : codeB Try.prog E cx n17_65 st = thenS (codeB Try.prog E cx n17_66 st) (codeB Try.prog E cx n17_67) := GE.seq_step (by kernel_rfl)
theorem n17_40s (E : Ev) (cx : Cx) (st : St) : codeB Try.prog E cx n17_40 st = thenS (codeB Try.prog E cx n17_41 st) (codeB Try.prog E cx n17_65) := GE.seq_step (by kernel_rfl)
theorem n17_17s (E : Ev) (cx : Cx) (st : St) : codeB Try.prog E cx n17_17 st = thenS (codeB Try.prog E cx n17_18 st) (codeB Try.prog E cx n17_40) := GE.seq_step (by kernel_rfl)
theorem n17_2s (E : Ev) (cx : Cx) (st : St) : codeB Try.prog E cx n17_2 st = thenS (codeB Try.prog E cx n17_3 st) (codeB Try.prog E cx n17_17) := GE.seq_step (by kernel_rfl)
theorem n17_0s (E : Ev) (cx : Cx) (st : St) : codeB Try.prog E cx n17_0 st = thenS (codeB Try.prog E cx n17_1 st) (codeB Try.prog E cx n17_2) := GE.seq_step (by kernel_rfl)
noncomputable def n20_0 : Code := sub [] (bodyOf Try.f20)
noncomputable def n20_1 : Code := sub [false] (bodyOf Try.f20)
noncomputable def q20_1 : List Oper := ops [false] Try.f20
noncomputable def n20_2 : Code := sub [true] (bodyOf Try.f20)
noncomputable def n20_3 : Code := sub [true, false] (bodyOf Try.f20)
noncomputable def q20_3 : List Oper := ops [true, false] Try.f20
noncomputable def n20_4 : Code := sub [true, true] (bodyOf Try.f20)
noncomputable def n20_5 : Code := sub [true, true, false] (bodyOf Try.f20)
noncomputable def n20_6 : Code := sub [true, true, false, false] (bodyOf Try.f20)
noncomputable def n20_7 : Code := sub [true, true, false, false, false] (bodyOf Try.f20)
noncomputable def q20_7 : List Oper := ops [true, true, false, false, false] Try.f20
noncomputable def n20_8 : Code := sub [true, true, false, false, true] (bodyOf Try.f20)
noncomputable def n20_9 : Code := sub [true, true, false, false, true, false] (bodyOf Try.f20)
noncomputable def n20_10 : Code := sub [true, true, false, false, true, false, false] (bodyOf Try.f20)
noncomputable def q20_10 : List Oper := ops [true, true, false, false, true, false, false] Try.f20
noncomputable def n20_11 : Code := sub [true, true, false, false, true, false, true] (bodyOf Try.f20)
noncomputable def n20_12 : Code := sub [true, true, false, false, true, true] (bodyOf Try.f20)
noncomputable def n20_13 : Code := sub [true, true, false, false, true, true, false] (bodyOf Try.f20)
noncomputable def q20_13 : List Oper := ops [true, true, false, false, true, true, false] Try.f20
noncomputable def n20_14 : Code := sub [true, true, false, false, true, true, true] (bodyOf Try.f20)
noncomputable def n20_15 : Code := sub [true, true, false, false, true, true, true, false] (bodyOf Try.f20)
noncomputable def n20_16 : Code := sub [true, true, false, false, true, true, true, false, false] (bodyOf Try.f20)
noncomputable def q20_16 : List Oper := ops [true, true, false, false, true, true, true, false, false] Try.f20
noncomputable def n20_17 : Code := sub [true, true, false, false, true, true, true, false, true] (bodyOf Try.f20)
noncomputable def n20_18 : Code := sub [true, true, false, false, true, true, true, true] (bodyOf Try.f20)
noncomputable def n20_19 : Code := sub [true, true, true] (bodyOf Try.f20)
noncomputable def n20_20 : Code := sub [true, true, true, false] (bodyOf Try.f20)
noncomputable def q20_20 : List Oper := ops [true, true, true, false] Try.f20
noncomputable def n20_21 : Code := sub [true, true, true, true] (bodyOf Try.f20)
theorem body20 : Try.f20.body = some n20_0 := by kernel_rfl
theorem run20 (E : Ev) (args : List Value) (h : List Blk) (hl : args.length ≤ 21) : runB Try.prog E 20 args h = endS Try.prog [.tmp 4, .tmp 5] h.length (codeB Try.prog E ⟨20, 21, h.length, none⟩ n20_0 ⟨enumT 0 args, h, []⟩) := GE.run_step Try.func20 body20 (by kernel_rfl) (by decide) (by kernel_rfl) hl
theorem n20_1s (E : Ev) (f : FuncId) (b : Nat) (ro : Option Nat) (st : St) : codeB Try.prog E ⟨f, 21, b, ro⟩ n20_1 st = plainS (runOps Try.prog E b q20_1 (ops [false] Try.f20) st) := GE.region_step (id := 0) (by kernel_rfl) (by kernel_rfl)
theorem n20_3s (E : Ev) (f : FuncId) (b : Nat) (ro : Option Nat) (st : St) : codeB Try.prog E ⟨f, 21, b, ro⟩ n20_3 st = plainS (runOps Try.prog E b q20_3 (ops [true, false] Try.f20) st) := GE.region_step (id := 1) (by kernel_rfl) (by kernel_rfl)
theorem n20_7s (E : Ev) (f : FuncId) (b : Nat) (ro : Option Nat) (st : St) : codeB Try.prog E ⟨f, 21, b, ro⟩ n20_7 st = plainS (runOps Try.prog E b q20_7 (ops [true, true, false, false, false] Try.f20) st) := GE.region_step (id := 2) (by kernel_rfl) (by kernel_rfl)
theorem n20_10s (E : Ev) (f : FuncId) (b : Nat) (ro : Option Nat) (st : St) : codeB Try.prog E ⟨f, 21, b, ro⟩ n20_10 st = plainS (runOps Try.prog E b q20_10 (ops [true, true, false, false, true, false, false] Try.f20) st) := GE.region_step (id := 3) (by kernel_rfl) (by kernel_rfl)
theorem n20_11s (E : Ev) (cx : Cx) (st : St) : codeB Try.prog E cx n20_11 st = some (.ret, st) := GE.ret_step (by kernel_rfl)
theorem n20_9s (E : Ev) (cx : Cx) (st : St) : codeB Try.prog E cx n20_9 st = thenS (codeB Try.prog E cx n20_10 st) (codeB Try.prog E cx n20_11) := GE.seq_step (by kernel_rfl)
theorem n20_13s (E : Ev) (f : FuncId) (b : Nat) (ro : Option Nat) (st : St) : codeB Try.prog E ⟨f, 21, b, ro⟩ n20_13 st = plainS (runOps Try.prog E b q20_13 (ops [true, true, false, false, true, true, false] Try.f20) st) := GE.region_step (id := 4) (by kernel_rfl) (by kernel_rfl)
theorem n20_16s (E : Ev) (f : FuncId) (b : Nat) (ro : Option Nat) (st : St) : codeB Try.prog E ⟨f, 21, b, ro⟩ n20_16 st = plainS (runOps Try.prog E b q20_16 (ops [true, true, false, false, true, true, true, false, false] Try.f20) st) := GE.region_step (id := 5) (by kernel_rfl) (by kernel_rfl)
theorem n20_17s (E : Ev) (cx : Cx) (st : St) : codeB Try.prog E cx n20_17 st = some (.ret, st) := GE.ret_step (by kernel_rfl)
theorem n20_15s (E : Ev) (cx : Cx) (st : St) : codeB Try.prog E cx n20_15 st = thenS (codeB Try.prog E cx n20_16 st) (codeB Try.prog E cx n20_17) := GE.seq_step (by kernel_rfl)
theorem n20_18s (E : Ev) (cx : Cx) (st : St) : codeB Try.prog E cx n20_18 st = some (.normal, st) := GE.skip_step (by kernel_rfl)
theorem n20_14s (E : Ev) (cx : Cx) (st : St) : codeB Try.prog E cx n20_14 st = condS (codeB Try.prog E cx n20_15) (codeB Try.prog E cx n20_18) (lk st.σ 13) st := GE.cond_step (c := .tmp 13) (by kernel_rfl)
theorem n20_12s (E : Ev) (cx : Cx) (st : St) : codeB Try.prog E cx n20_12 st = thenS (codeB Try.prog E cx n20_13 st) (codeB Try.prog E cx n20_14) := GE.seq_step (by kernel_rfl)
theorem n20_8s (E : Ev) (cx : Cx) (st : St) : codeB Try.prog E cx n20_8 st = condS (codeB Try.prog E cx n20_9) (codeB Try.prog E cx n20_12) (lk st.σ 9) st := GE.cond_step (c := .tmp 9) (by kernel_rfl)
theorem n20_6s (E : Ev) (cx : Cx) (st : St) : codeB Try.prog E cx n20_6 st = thenS (codeB Try.prog E cx n20_7 st) (codeB Try.prog E cx n20_8) := GE.seq_step (by kernel_rfl)
theorem n20_5s (E : Ev) (cx : Cx) (st : St) : codeB Try.prog E cx n20_5 st = blockS 0 (codeB Try.prog E cx n20_6 st) st := GE.block_step (by kernel_rfl)
theorem n20_20s (E : Ev) (f : FuncId) (b : Nat) (ro : Option Nat) (st : St) : codeB Try.prog E ⟨f, 21, b, ro⟩ n20_20 st = plainS (runOps Try.prog E b q20_20 (ops [true, true, true, false] Try.f20) st) := GE.region_step (id := 6) (by kernel_rfl) (by kernel_rfl)
theorem n20_21s (E : Ev) (cx : Cx) (st : St) : codeB Try.prog E cx n20_21 st = some (.ret, st) := GE.ret_step (by kernel_rfl)
theorem n20_19s (E : Ev) (cx : Cx) (st : St) : codeB Try.prog E cx n20_19 st = thenS (codeB Try.prog E cx n20_20 st) (codeB Try.prog E cx n20_21) := GE.seq_step (by kernel_rfl)
theorem n20_4s (E : Ev) (cx : Cx) (st : St) : codeB Try.prog E cx n20_4 st = thenS (codeB Try.prog E cx n20_5 st) (codeB Try.prog E cx n20_19) := GE.seq_step (by kernel_rfl)
theorem n20_2s (E : Ev) (cx : Cx) (st : St) : codeB Try.prog E cx n20_2 st = thenS (codeB Try.prog E cx n20_3 st) (codeB Try.prog E cx n20_4) := GE.seq_step (by kernel_rfl)
theorem n20_0s (E : Ev) (cx : Cx) (st : St) : codeB Try.prog E cx n20_0 st = thenS (codeB Try.prog E cx n20_1 st) (codeB Try.prog E cx n20_2) := GE.seq_step (by kernel_rfl)
noncomputable def n24_0 : Code := sub [] (bodyOf Try.f24)
noncomputable def n24_1 : Code := sub [false] (bodyOf Try.f24)
noncomputable def q24_1 : List Oper := ops [false] Try.f24
noncomputable def n24_2 : Code := sub [true] (bodyOf Try.f24)
noncomputable def n24_3 : Code := sub [true, false] (bodyOf Try.f24)
noncomputable def n24_4 : Code := sub [true, false, false] (bodyOf Try.f24)
noncomputable def q24_4 : List Oper := ops [true, false, false] Try.f24
noncomputable def n24_5 : Code := sub [true, false, true] (bodyOf Try.f24)
noncomputable def n24_6 : Code := sub [true, false, true, false] (bodyOf Try.f24)
noncomputable def n24_7 : Code := sub [true, false, true, false, false] (bodyOf Try.f24)
noncomputable def q24_7 : List Oper := ops [true, false, true, false, false] Try.f24
noncomputable def n24_8 : Code := sub [true, false, true, false, true] (bodyOf Try.f24)
noncomputable def n24_9 : Code := sub [true, false, true, true] (bodyOf Try.f24)
noncomputable def n24_10 : Code := sub [true, true] (bodyOf Try.f24)
noncomputable def n24_11 : Code := sub [true, true, false] (bodyOf Try.f24)
noncomputable def q24_11 : List Oper := ops [true, true, false] Try.f24
noncomputable def n24_12 : Code := sub [true, true, true] (bodyOf Try.f24)
theorem body24 : Try.f24.body = some n24_0 := by kernel_rfl
theorem run24 (E : Ev) (args : List Value) (h : List Blk) (hl : args.length ≤ 20) : runB Try.prog E 24 args h = endS Try.prog [.tmp 4, .tmp 5] h.length (codeB Try.prog E ⟨24, 20, h.length, none⟩ n24_0 ⟨enumT 0 args, h, []⟩) := GE.run_step Try.func24 body24 (by kernel_rfl) (by decide) (by kernel_rfl) hl
theorem n24_1s (E : Ev) (f : FuncId) (b : Nat) (ro : Option Nat) (st : St) : codeB Try.prog E ⟨f, 20, b, ro⟩ n24_1 st = plainS (runOps Try.prog E b q24_1 (ops [false] Try.f24) st) := GE.region_step (id := 0) (by kernel_rfl) (by kernel_rfl)
theorem n24_4s (E : Ev) (f : FuncId) (b : Nat) (ro : Option Nat) (st : St) : codeB Try.prog E ⟨f, 20, b, ro⟩ n24_4 st = plainS (runOps Try.prog E b q24_4 (ops [true, false, false] Try.f24) st) := GE.region_step (id := 1) (by kernel_rfl) (by kernel_rfl)
theorem n24_7s (E : Ev) (f : FuncId) (b : Nat) (ro : Option Nat) (st : St) : codeB Try.prog E ⟨f, 20, b, ro⟩ n24_7 st = plainS (runOps Try.prog E b q24_7 (ops [true, false, true, false, false] Try.f24) st) := GE.region_step (id := 2) (by kernel_rfl) (by kernel_rfl)
theorem n24_8s (E : Ev) (cx : Cx) (st : St) : codeB Try.prog E cx n24_8 st = some (.ret, st) := GE.ret_step (by kernel_rfl)
theorem n24_6s (E : Ev) (cx : Cx) (st : St) : codeB Try.prog E cx n24_6 st = thenS (codeB Try.prog E cx n24_7 st) (codeB Try.prog E cx n24_8) := GE.seq_step (by kernel_rfl)
theorem n24_9s (E : Ev) (cx : Cx) (st : St) : codeB Try.prog E cx n24_9 st = some (.normal, st) := GE.skip_step (by kernel_rfl)
theorem n24_5s (E : Ev) (cx : Cx) (st : St) : codeB Try.prog E cx n24_5 st = condS (codeB Try.prog E cx n24_6) (codeB Try.prog E cx n24_9) (lk st.σ 9) st := GE.cond_step (c := .tmp 9) (by kernel_rfl)
theorem n24_3s (E : Ev) (cx : Cx) (st : St) : codeB Try.prog E cx n24_3 st = thenS (codeB Try.prog E cx n24_4 st) (codeB Try.prog E cx n24_5) := GE.seq_step (by kernel_rfl)
theorem n24_11s (E : Ev) (f : FuncId) (b : Nat) (ro : Option Nat) (st : St) : codeB Try.prog E ⟨f, 20, b, ro⟩ n24_11 st = plainS (runOps Try.prog E b q24_11 (ops [true, true, false] Try.f24) st) := GE.region_step (id := 3) (by kernel_rfl) (by kernel_rfl)
theorem n24_12s (E : Ev) (cx : Cx) (st : St) : codeB Try.prog E cx n24_12 st = some (.ret, st) := GE.ret_step (by kernel_rfl)
theorem n24_10s (E : Ev) (cx : Cx) (st : St) : codeB Try.prog E cx n24_10 st = thenS (codeB Try.prog E cx n24_11 st) (codeB Try.prog E cx n24_12) := GE.seq_step (by kernel_rfl)
theorem n24_2s (E : Ev) (cx : Cx) (st : St) : codeB Try.prog E cx n24_2 st = thenS (codeB Try.prog E cx n24_3 st) (codeB Try.prog E cx n24_10) := GE.seq_step (by kernel_rfl)
theorem n24_0s (E : Ev) (cx : Cx) (st : St) : codeB Try.prog E cx n24_0 st = thenS (codeB Try.prog E cx n24_1 st) (codeB Try.prog E cx n24_2) := GE.seq_step (by kernel_rfl)
noncomputable def n29_0 : Code := sub [] (bodyOf Try.f29)
noncomputable def n29_1 : Code := sub [false] (bodyOf Try.f29)
noncomputable def q29_1 : List Oper := ops [false] Try.f29
noncomputable def n29_2 : Code := sub [true] (bodyOf Try.f29)
noncomputable def n29_3 : Code := sub [true, false] (bodyOf Try.f29)
noncomputable def n29_4 : Code := sub [true, false, false] (bodyOf Try.f29)
noncomputable def q29_4 : List Oper := ops [true, false, false] Try.f29
noncomputable def n29_5 : Code := sub [true, false, true] (bodyOf Try.f29)
noncomputable def n29_6 : Code := sub [true, false, true, false] (bodyOf Try.f29)
noncomputable def n29_7 : Code := sub [true, false, true, false, false] (bodyOf Try.f29)
noncomputable def n29_8 : Code := sub [true, false, true, false, false, false] (bodyOf Try.f29)
noncomputable def q29_8 : List Oper := ops [true, false, true, false, false, false] Try.f29
noncomputable def n29_9 : Code := sub [true, false, true, false, false, true] (bodyOf Try.f29)
noncomputable def n29_10 : Code := sub [true, false, true, false, false, true, false] (bodyOf Try.f29)
noncomputable def n29_11 : Code := sub [true, false, true, false, false, true, false, false] (bodyOf Try.f29)
noncomputable def q29_11 : List Oper := ops [true, false, true, false, false, true, false, false] Try.f29
noncomputable def n29_12 : Code := sub [true, false, true, false, false, true, false, true] (bodyOf Try.f29)
noncomputable def n29_13 : Code := sub [true, false, true, false, false, true, true] (bodyOf Try.f29)
noncomputable def n29_14 : Code := sub [true, false, true, false, false, true, true, false] (bodyOf Try.f29)
noncomputable def q29_14 : List Oper := ops [true, false, true, false, false, true, true, false] Try.f29
noncomputable def n29_15 : Code := sub [true, false, true, false, false, true, true, true] (bodyOf Try.f29)
noncomputable def n29_16 : Code := sub [true, false, true, false, false, true, true, true, false] (bodyOf Try.f29)
noncomputable def n29_17 : Code := sub [true, false, true, false, false, true, true, true, false, false] (bodyOf Try.f29)
noncomputable def q29_17 : List Oper := ops [true, false, true, false, false, true, true, true, false, false] Try.f29
noncomputable def n29_18 : Code := sub [true, false, true, false, false, true, true, true, false, true] (bodyOf Try.f29)
noncomputable def n29_19 : Code := sub [true, false, true, false, false, true, true, true, true] (bodyOf Try.f29)
noncomputable def n29_20 : Code := sub [true, false, true, true] (bodyOf Try.f29)
noncomputable def n29_21 : Code := sub [true, false, true, true, false] (bodyOf Try.f29)
noncomputable def q29_21 : List Oper := ops [true, false, true, true, false] Try.f29
noncomputable def n29_22 : Code := sub [true, false, true, true, true] (bodyOf Try.f29)
noncomputable def n29_23 : Code := sub [true, false, true, true, true, false] (bodyOf Try.f29)
noncomputable def n29_24 : Code := sub [true, false, true, true, true, true] (bodyOf Try.f29)
noncomputable def n29_25 : Code := sub [true, false, true, true, true, true, false] (bodyOf Try.f29)
noncomputable def q29_25 : List Oper := ops [true, false, true, true, true, true, false] Try.f29
noncomputable def n29_26 : Code := sub [true, false, true, true, true, true, true] (bodyOf Try.f29)
noncomputable def n29_27 : Code := sub [true, false, true, true, true, true, true, false] (bodyOf Try.f29)
noncomputable def n29_28 : Code := sub [true, false, true, true, true, true, true, false, false] (bodyOf Try.f29)
noncomputable def q29_28 : List Oper := ops [true, false, true, true, true, true, true, false, false] Try.f29
noncomputable def n29_29 : Code := sub [true, false, true, true, true, true, true, false, true] (bodyOf Try.f29)
noncomputable def n29_30 : Code := sub [true, false, true, true, true, true, true, false, true, false] (bodyOf Try.f29)
noncomputable def n29_31 : Code := sub [true, false, true, true, true, true, true, false, true, false, false] (bodyOf Try.f29)
noncomputable def q29_31 : List Oper := ops [true, false, true, true, true, true, true, false, true, false, false] Try.f29
noncomputable def n29_32 : Code := sub [true, false, true, true, true, true, true, false, true, false, true] (bodyOf Try.f29)
noncomputable def n29_33 : Code := sub [true, false, true, true, true, true, true, false, true, true] (bodyOf Try.f29)
noncomputable def n29_34 : Code := sub [true, false, true, true, true, true, true, true] (bodyOf Try.f29)
noncomputable def n29_35 : Code := sub [true, false, true, true, true, true, true, true, false] (bodyOf Try.f29)
noncomputable def q29_35 : List Oper := ops [true, false, true, true, true, true, true, true, false] Try.f29
noncomputable def n29_36 : Code := sub [true, false, true, true, true, true, true, true, true] (bodyOf Try.f29)
noncomputable def n29_37 : Code := sub [true, false, true, true, true, true, true, true, true, false] (bodyOf Try.f29)
noncomputable def q29_37 : List Oper := ops [true, false, true, true, true, true, true, true, true, false] Try.f29
noncomputable def n29_38 : Code := sub [true, false, true, true, true, true, true, true, true, true] (bodyOf Try.f29)
noncomputable def n29_39 : Code := sub [true, false, true, true, true, true, true, true, true, true, false] (bodyOf Try.f29)
noncomputable def q29_39 : List Oper := ops [true, false, true, true, true, true, true, true, true, true, false] Try.f29
noncomputable def n29_40 : Code := sub [true, false, true, true, true, true, true, true, true, true, true] (bodyOf Try.f29)
noncomputable def n29_41 : Code := sub [true, false, true, true, true, true, true, true, true, true, true, false] (bodyOf Try.f29)
noncomputable def n29_42 : Code := sub [true, false, true, true, true, true, true, true, true, true, true, false, false] (bodyOf Try.f29)
noncomputable def q29_42 : List Oper := ops [true, false, true, true, true, true, true, true, true, true, true, false, false] Try.f29
noncomputable def n29_43 : Code := sub [true, false, true, true, true, true, true, true, true, true, true, false, true] (bodyOf Try.f29)
noncomputable def n29_44 : Code := sub [true, false, true, true, true, true, true, true, true, true, true, false, true, false] (bodyOf Try.f29)
noncomputable def q29_44 : List Oper := ops [true, false, true, true, true, true, true, true, true, true, true, false, true, false] Try.f29
noncomputable def n29_45 : Code := sub [true, false, true, true, true, true, true, true, true, true, true, false, true, true] (bodyOf Try.f29)
noncomputable def n29_46 : Code := sub [true, false, true, true, true, true, true, true, true, true, true, true] (bodyOf Try.f29)
theorem body29 : Try.f29.body = some n29_0 := by kernel_rfl
theorem run29 (E : Ev) (args : List Value) (h : List Blk) (hl : args.length ≤ 63) : runB Try.prog E 29 args h = endS Try.prog [.cell 4 35, .tmp 5, .tmp 6] h.length (codeB Try.prog E ⟨29, 63, h.length, none⟩ n29_0 ⟨enumT 0 args, h, []⟩) := GE.run_step Try.func29 body29 (by kernel_rfl) (by decide) (by kernel_rfl) hl
theorem n29_1s (E : Ev) (f : FuncId) (b : Nat) (ro : Option Nat) (st : St) : codeB Try.prog E ⟨f, 63, b, ro⟩ n29_1 st = plainS (runOps Try.prog E b q29_1 (ops [false] Try.f29) st) := GE.region_step (id := 0) (by kernel_rfl) (by kernel_rfl)
theorem n29_4s (E : Ev) (f : FuncId) (b : Nat) (ro : Option Nat) (st : St) : codeB Try.prog E ⟨f, 63, b, ro⟩ n29_4 st = plainS (runOps Try.prog E b q29_4 (ops [true, false, false] Try.f29) st) := GE.region_step (id := 1) (by kernel_rfl) (by kernel_rfl)
theorem n29_8s (E : Ev) (f : FuncId) (b : Nat) (ro : Option Nat) (st : St) : codeB Try.prog E ⟨f, 63, b, ro⟩ n29_8 st = plainS (runOps Try.prog E b q29_8 (ops [true, false, true, false, false, false] Try.f29) st) := GE.region_step (id := 2) (by kernel_rfl) (by kernel_rfl)
theorem n29_11s (E : Ev) (f : FuncId) (b : Nat) (ro : Option Nat) (st : St) : codeB Try.prog E ⟨f, 63, b, ro⟩ n29_11 st = plainS (runOps Try.prog E b q29_11 (ops [true, false, true, false, false, true, false, false] Try.f29) st) := GE.region_step (id := 3) (by kernel_rfl) (by kernel_rfl)
theorem n29_12s (E : Ev) (cx : Cx) (st : St) : codeB Try.prog E cx n29_12 st = some (.ret, st) := GE.ret_step (by kernel_rfl)
theorem n29_10s (E : Ev) (cx : Cx) (st : St) : codeB Try.prog E cx n29_10 st = thenS (codeB Try.prog E cx n29_11 st) (codeB Try.prog E cx n29_12) := GE.seq_step (by kernel_rfl)
theorem n29_14s (E : Ev) (f : FuncId) (b : Nat) (ro : Option Nat) (st : St) : codeB Try.prog E ⟨f, 63, b, ro⟩ n29_14 st = plainS (runOps Try.prog E b q29_14 (ops [true, false, true, false, false, true, true, false] Try.f29) st) := GE.region_step (id := 4) (by kernel_rfl) (by kernel_rfl)
theorem n29_17s (E : Ev) (f : FuncId) (b : Nat) (ro : Option Nat) (st : St) : codeB Try.prog E ⟨f, 63, b, ro⟩ n29_17 st = plainS (runOps Try.prog E b q29_17 (ops [true, false, true, false, false, true, true, true, false, false] Try.f29) st) := GE.region_step (id := 5) (by kernel_rfl) (by kernel_rfl)
theorem n29_18s (E : Ev) (cx : Cx) (st : St) : codeB Try.prog E cx n29_18 st = some (.ret, st) := GE.ret_step (by kernel_rfl)
theorem n29_16s (E : Ev) (cx : Cx) (st : St) : codeB Try.prog E cx n29_16 st = thenS (codeB Try.prog E cx n29_17 st) (codeB Try.prog E cx n29_18) := GE.seq_step (by kernel_rfl)
theorem n29_19s (E : Ev) (cx : Cx) (st : St) : codeB Try.prog E cx n29_19 st = some (.normal, st) := GE.skip_step (by kernel_rfl)
theorem n29_15s (E : Ev) (cx : Cx) (st : St) : codeB Try.prog E cx n29_15 st = condS (codeB Try.prog E cx n29_16) (codeB Try.prog E cx n29_19) (lk st.σ 23) st := GE.cond_step (c := .tmp 23) (by kernel_rfl)
theorem n29_13s (E : Ev) (cx : Cx) (st : St) : codeB Try.prog E cx n29_13 st = thenS (codeB Try.prog E cx n29_14 st) (codeB Try.prog E cx n29_15) := GE.seq_step (by kernel_rfl)
theorem n29_9s (E : Ev) (cx : Cx) (st : St) : codeB Try.prog E cx n29_9 st = condS (codeB Try.prog E cx n29_10) (codeB Try.prog E cx n29_13) (lk st.σ 18) st := GE.cond_step (c := .tmp 18) (by kernel_rfl)
theorem n29_7s (E : Ev) (cx : Cx) (st : St) : codeB Try.prog E cx n29_7 st = thenS (codeB Try.prog E cx n29_8 st) (codeB Try.prog E cx n29_9) := GE.seq_step (by kernel_rfl)
theorem n29_6s (E : Ev) (cx : Cx) (st : St) : codeB Try.prog E cx n29_6 st = blockS 0 (codeB Try.prog E cx n29_7 st) st := GE.block_step (by kernel_rfl)
theorem n29_21s (E : Ev) (f : FuncId) (b : Nat) (ro : Option Nat) (st : St) : codeB Try.prog E ⟨f, 63, b, ro⟩ n29_21 st = plainS (runOps Try.prog E b q29_21 (ops [true, false, true, true, false] Try.f29) st) := GE.region_step (id := 6) (by kernel_rfl) (by kernel_rfl)
theorem n29_23s (E : Ev) (cx : Cx) (st : St) : codeB Try.prog E cx n29_23 st = some (.normal, st) := GE.label_step (n := 0) (by kernel_rfl)
theorem n29_25s (E : Ev) (f : FuncId) (b : Nat) (ro : Option Nat) (st : St) : codeB Try.prog E ⟨f, 63, b, ro⟩ n29_25 st = drawS [0, 0, 2, 0, 8, 1, 33, 103, 255, 511, 1023] (runOpsF Try.prog E b q29_25 (ops [true, false, true, true, true, true, false] Try.f29) st) := GE.draw_step (id := 7) (by kernel_rfl) (by kernel_rfl) (by kernel_rfl) (by kernel_rfl)
theorem n29_28s (E : Ev) (f : FuncId) (b : Nat) (ro : Option Nat) (st : St) : codeB Try.prog E ⟨f, 63, b, ro⟩ n29_28 st = plainS (runOps Try.prog E b q29_28 (ops [true, false, true, true, true, true, true, false, false] Try.f29) st) := GE.region_step (id := 8) (by kernel_rfl) (by kernel_rfl)
theorem n29_31s (E : Ev) (f : FuncId) (b : Nat) (ro : Option Nat) (st : St) : codeB Try.prog E ⟨f, 63, b, ro⟩ n29_31 st = plainS (runOps Try.prog E b q29_31 (ops [true, false, true, true, true, true, true, false, true, false, false] Try.f29) st) := GE.region_step (id := 9) (by kernel_rfl) (by kernel_rfl)
theorem n29_32s (E : Ev) (cx : Cx) (st : St) : codeB Try.prog E cx n29_32 st = some (.ret, st) := GE.ret_step (by kernel_rfl)
theorem n29_30s (E : Ev) (cx : Cx) (st : St) : codeB Try.prog E cx n29_30 st = thenS (codeB Try.prog E cx n29_31 st) (codeB Try.prog E cx n29_32) := GE.seq_step (by kernel_rfl)
theorem n29_33s (E : Ev) (cx : Cx) (st : St) : codeB Try.prog E cx n29_33 st = some (.normal, st) := GE.skip_step (by kernel_rfl)
theorem n29_29s (E : Ev) (cx : Cx) (st : St) : codeB Try.prog E cx n29_29 st = condS (codeB Try.prog E cx n29_30) (codeB Try.prog E cx n29_33) (lk st.σ 43) st := GE.cond_step (c := .tmp 43) (by kernel_rfl)
theorem n29_27s (E : Ev) (cx : Cx) (st : St) : codeB Try.prog E cx n29_27 st = thenS (codeB Try.prog E cx n29_28 st) (codeB Try.prog E cx n29_29) := GE.seq_step (by kernel_rfl)
theorem n29_35s (E : Ev) (f : FuncId) (b : Nat) (ro : Option Nat) (st : St) : codeB Try.prog E ⟨f, 63, b, ro⟩ n29_35 st = plainS (runOps Try.prog E b q29_35 (ops [true, false, true, true, true, true, true, true, false] Try.f29) st) := GE.region_step (id := 10) (by kernel_rfl) (by kernel_rfl)
theorem n29_37s (E : Ev) (f : FuncId) (b : Nat) (ro : Option Nat) (st : St) : codeB Try.prog E ⟨f, 63, b, ro⟩ n29_37 st = plainS (runOps Try.prog E b q29_37 (ops [true, false, true, true, true, true, true, true, true, false] Try.f29) st) := GE.region_step (id := 11) (by kernel_rfl) (by kernel_rfl)
theorem n29_39s (E : Ev) (f : FuncId) (b : Nat) (ro : Option Nat) (st : St) : codeB Try.prog E ⟨f, 63, b, ro⟩ n29_39 st = plainS (runOps Try.prog E b q29_39 (ops [true, false, true, true, true, true, true, true, true, true, false] Try.f29) st) := GE.region_step (id := 12) (by kernel_rfl) (by kernel_rfl)
theorem n29_42s (E : Ev) (f : FuncId) (b : Nat) (ro : Option Nat) (st : St) : codeB Try.prog E ⟨f, 63, b, ro⟩ n29_42 st = plainS (runOps Try.prog E b q29_42 (ops [true, false, true, true, true, true, true, true, true, true, true, false, false] Try.f29) st) := GE.region_step (id := 13) (by kernel_rfl) (by kernel_rfl)
theorem n29_44s (E : Ev) (f : FuncId) (b : Nat) (ro : Option Nat) (st : St) : codeB Try.prog E ⟨f, 63, b, ro⟩ n29_44 st = plainS (runOps Try.prog E b q29_44 (ops [true, false, true, true, true, true, true, true, true, true, true, false, true, false] Try.f29) st) := GE.region_step (id := 14) (by kernel_rfl) (by kernel_rfl)
theorem n29_45s (E : Ev) (cx : Cx) (st : St) : codeB Try.prog E cx n29_45 st = some (.normal, st) := GE.skip_step (by kernel_rfl)
theorem n29_43s (E : Ev) (cx : Cx) (st : St) : codeB Try.prog E cx n29_43 st = condS (codeB Try.prog E cx n29_44) (codeB Try.prog E cx n29_45) (lk st.σ 61) st := GE.cond_step (c := .tmp 61) (by kernel_rfl)
theorem n29_41s (E : Ev) (cx : Cx) (st : St) : codeB Try.prog E cx n29_41 st = thenS (codeB Try.prog E cx n29_42 st) (codeB Try.prog E cx n29_43) := GE.seq_step (by kernel_rfl)
theorem n29_46s (E : Ev) (cx : Cx) (st : St) : codeB Try.prog E cx n29_46 st = some (.goto 0, st) := GE.goto_step (by kernel_rfl)
theorem n29_40s (E : Ev) (cx : Cx) (st : St) : codeB Try.prog E cx n29_40 st = thenS (codeB Try.prog E cx n29_41 st) (codeB Try.prog E cx n29_46) := GE.seq_step (by kernel_rfl)
theorem n29_38s (E : Ev) (cx : Cx) (st : St) : codeB Try.prog E cx n29_38 st = thenS (codeB Try.prog E cx n29_39 st) (codeB Try.prog E cx n29_40) := GE.seq_step (by kernel_rfl)
theorem n29_36s (E : Ev) (cx : Cx) (st : St) : codeB Try.prog E cx n29_36 st = thenS (codeB Try.prog E cx n29_37 st) (codeB Try.prog E cx n29_38) := GE.seq_step (by kernel_rfl)
theorem n29_34s (E : Ev) (cx : Cx) (st : St) : codeB Try.prog E cx n29_34 st = thenS (codeB Try.prog E cx n29_35 st) (codeB Try.prog E cx n29_36) := GE.seq_step (by kernel_rfl)
theorem n29_26s (E : Ev) (cx : Cx) (st : St) : codeB Try.prog E cx n29_26 st = thenS (codeB Try.prog E cx n29_27 st) (codeB Try.prog E cx n29_34) := GE.seq_step (by kernel_rfl)
theorem n29_24s (E : Ev) (cx : Cx) (st : St) : codeB Try.prog E cx n29_24 st = thenS (codeB Try.prog E cx n29_25 st) (codeB Try.prog E cx n29_26) := GE.seq_step (by kernel_rfl)
theorem n29_22s (E : Ev) (cx : Cx) (st : St) : codeB Try.prog E cx n29_22 st = thenS (codeB Try.prog E cx n29_23 st) (codeB Try.prog E cx n29_24) := GE.seq_step (by kernel_rfl)
theorem n29_20s (E : Ev) (cx : Cx) (st : St) : codeB Try.prog E cx n29_20 st = thenS (codeB Try.prog E cx n29_21 st) (codeB Try.prog E cx n29_22) := GE.seq_step (by kernel_rfl)
theorem n29_5s (E : Ev) (cx : Cx) (st : St) : codeB Try.prog E cx n29_5 st = thenS (codeB Try.prog E cx n29_6 st) (codeB Try.prog E cx n29_20) := GE.seq_step (by kernel_rfl)
theorem n29_3s (E : Ev) (cx : Cx) (st : St) : codeB Try.prog E cx n29_3 st = thenS (codeB Try.prog E cx n29_4 st) (codeB Try.prog E cx n29_5) := GE.seq_step (by kernel_rfl)
theorem n29_2e : n29_2 = .scope n29_3 := by kernel_rfl
theorem n29_0s (E : Ev) (cx : Cx) (st : St) : codeB Try.prog E cx n29_0 st = thenS (codeB Try.prog E cx n29_1 st) (codeB Try.prog E cx n29_2) := GE.seq_step (by kernel_rfl)
noncomputable def n31_0 : Code := sub [] (bodyOf Try.f31)
noncomputable def n31_1 : Code := sub [false] (bodyOf Try.f31)
noncomputable def q31_1 : List Oper := ops [false] Try.f31
noncomputable def n31_2 : Code := sub [true] (bodyOf Try.f31)
noncomputable def n31_3 : Code := sub [true, false] (bodyOf Try.f31)
noncomputable def q31_3 : List Oper := ops [true, false] Try.f31
noncomputable def n31_4 : Code := sub [true, true] (bodyOf Try.f31)
noncomputable def n31_5 : Code := sub [true, true, false] (bodyOf Try.f31)
noncomputable def n31_6 : Code := sub [true, true, false, false] (bodyOf Try.f31)
noncomputable def q31_6 : List Oper := ops [true, true, false, false] Try.f31
noncomputable def n31_7 : Code := sub [true, true, false, true] (bodyOf Try.f31)
noncomputable def n31_8 : Code := sub [true, true, false, true, false] (bodyOf Try.f31)
noncomputable def n31_9 : Code := sub [true, true, false, true, false, false] (bodyOf Try.f31)
noncomputable def n31_10 : Code := sub [true, true, false, true, false, false, false] (bodyOf Try.f31)
noncomputable def n31_11 : Code := sub [true, true, false, true, false, false, false, false] (bodyOf Try.f31)
noncomputable def q31_11 : List Oper := ops [true, true, false, true, false, false, false, false] Try.f31
noncomputable def n31_12 : Code := sub [true, true, false, true, false, false, false, true] (bodyOf Try.f31)
noncomputable def n31_13 : Code := sub [true, true, false, true, false, false, false, true, false] (bodyOf Try.f31)
noncomputable def n31_14 : Code := sub [true, true, false, true, false, false, false, true, true] (bodyOf Try.f31)
noncomputable def n31_15 : Code := sub [true, true, false, true, false, false, true] (bodyOf Try.f31)
noncomputable def n31_16 : Code := sub [true, true, false, true, false, false, true, false] (bodyOf Try.f31)
noncomputable def n31_17 : Code := sub [true, true, false, true, false, false, true, false, false] (bodyOf Try.f31)
noncomputable def n31_18 : Code := sub [true, true, false, true, false, false, true, false, false, false] (bodyOf Try.f31)
noncomputable def q31_18 : List Oper := ops [true, true, false, true, false, false, true, false, false, false] Try.f31
noncomputable def n31_19 : Code := sub [true, true, false, true, false, false, true, false, false, true] (bodyOf Try.f31)
noncomputable def n31_20 : Code := sub [true, true, false, true, false, false, true, false, false, true, false] (bodyOf Try.f31)
noncomputable def n31_21 : Code := sub [true, true, false, true, false, false, true, false, false, true, false, false] (bodyOf Try.f31)
noncomputable def q31_21 : List Oper := ops [true, true, false, true, false, false, true, false, false, true, false, false] Try.f31
noncomputable def n31_22 : Code := sub [true, true, false, true, false, false, true, false, false, true, false, true] (bodyOf Try.f31)
noncomputable def n31_23 : Code := sub [true, true, false, true, false, false, true, false, false, true, false, true, false] (bodyOf Try.f31)
noncomputable def q31_23 : List Oper := ops [true, true, false, true, false, false, true, false, false, true, false, true, false] Try.f31
noncomputable def n31_24 : Code := sub [true, true, false, true, false, false, true, false, false, true, false, true, true] (bodyOf Try.f31)
noncomputable def n31_25 : Code := sub [true, true, false, true, false, false, true, false, false, true, true] (bodyOf Try.f31)
noncomputable def q31_25 : List Oper := ops [true, true, false, true, false, false, true, false, false, true, true] Try.f31
noncomputable def n31_26 : Code := sub [true, true, false, true, false, false, true, true] (bodyOf Try.f31)
noncomputable def q31_26 : List Oper := ops [true, true, false, true, false, false, true, true] Try.f31
noncomputable def n31_27 : Code := sub [true, true, true] (bodyOf Try.f31)
noncomputable def n31_28 : Code := sub [true, true, true, false] (bodyOf Try.f31)
noncomputable def q31_28 : List Oper := ops [true, true, true, false] Try.f31
noncomputable def n31_29 : Code := sub [true, true, true, true] (bodyOf Try.f31)
theorem body31 : Try.f31.body = some n31_0 := by kernel_rfl
theorem run31 (E : Ev) (args : List Value) (h : List Blk) (hl : args.length ≤ 59) : runB Try.prog E 31 args h = endS Try.prog [.cell 2 24] h.length (codeB Try.prog E ⟨31, 59, h.length, none⟩ n31_0 ⟨enumT 0 args, h, []⟩) := GE.run_step Try.func31 body31 (by kernel_rfl) (by decide) (by kernel_rfl) hl
theorem n31_1s (E : Ev) (f : FuncId) (b : Nat) (ro : Option Nat) (st : St) : codeB Try.prog E ⟨f, 59, b, ro⟩ n31_1 st = plainS (runOps Try.prog E b q31_1 (ops [false] Try.f31) st) := GE.region_step (id := 0) (by kernel_rfl) (by kernel_rfl)
theorem n31_3s (E : Ev) (f : FuncId) (b : Nat) (ro : Option Nat) (st : St) : codeB Try.prog E ⟨f, 59, b, ro⟩ n31_3 st = plainS (runOps Try.prog E b q31_3 (ops [true, false] Try.f31) st) := GE.region_step (id := 1) (by kernel_rfl) (by kernel_rfl)
theorem n31_6s (E : Ev) (f : FuncId) (b : Nat) (ro : Option Nat) (st : St) : codeB Try.prog E ⟨f, 59, b, ro⟩ n31_6 st = plainS (runOps Try.prog E b q31_6 (ops [true, true, false, false] Try.f31) st) := GE.region_step (id := 2) (by kernel_rfl) (by kernel_rfl)
theorem n31_11s (E : Ev) (f : FuncId) (b : Nat) (ro : Option Nat) (st : St) : codeB Try.prog E ⟨f, 59, b, ro⟩ n31_11 st = plainS (runOps Try.prog E b q31_11 (ops [true, true, false, true, false, false, false, false] Try.f31) st) := GE.region_step (id := 3) (by kernel_rfl) (by kernel_rfl)
theorem n31_13s (E : Ev) (cx : Cx) (st : St) : codeB Try.prog E cx n31_13 st = some (.normal, st) := GE.skip_step (by kernel_rfl)
theorem n31_14s (E : Ev) (cx : Cx) (st : St) : codeB Try.prog E cx n31_14 st = some (.exit 0, st) := GE.exit_step (by kernel_rfl)
theorem n31_12s (E : Ev) (cx : Cx) (st : St) : codeB Try.prog E cx n31_12 st = condS (codeB Try.prog E cx n31_13) (codeB Try.prog E cx n31_14) (lk st.σ 27) st := GE.cond_step (c := .tmp 27) (by kernel_rfl)
theorem n31_10s (E : Ev) (cx : Cx) (st : St) : codeB Try.prog E cx n31_10 st = thenS (codeB Try.prog E cx n31_11 st) (codeB Try.prog E cx n31_12) := GE.seq_step (by kernel_rfl)
theorem n31_18s (E : Ev) (f : FuncId) (b : Nat) (ro : Option Nat) (st : St) : codeB Try.prog E ⟨f, 59, b, ro⟩ n31_18 st = plainS (runOps Try.prog E b q31_18 (ops [true, true, false, true, false, false, true, false, false, false] Try.f31) st) := GE.region_step (id := 5) (by kernel_rfl) (by kernel_rfl)
theorem n31_21s (E : Ev) (f : FuncId) (b : Nat) (ro : Option Nat) (st : St) : codeB Try.prog E ⟨f, 59, b, ro⟩ n31_21 st = plainS (runOps Try.prog E b q31_21 (ops [true, true, false, true, false, false, true, false, false, true, false, false] Try.f31) st) := GE.region_step (id := 6) (by kernel_rfl) (by kernel_rfl)
theorem n31_23s (E : Ev) (f : FuncId) (b : Nat) (ro : Option Nat) (st : St) : codeB Try.prog E ⟨f, 59, b, ro⟩ n31_23 st = drawS [0, 1, 0, 7, 15, 31, 63, 127, 0, 256, 0, 1792, 3840, 7936, 16128, 32512, 65535, 131071] (runOpsF Try.prog E b q31_23 (ops [true, true, false, true, false, false, true, false, false, true, false, true, false] Try.f31) st) := GE.draw_step (id := 7) (by kernel_rfl) (by kernel_rfl) (by kernel_rfl) (by kernel_rfl)
theorem n31_24s (E : Ev) (cx : Cx) (st : St) : codeB Try.prog E cx n31_24 st = some (.normal, st) := GE.skip_step (by kernel_rfl)
theorem n31_22s (E : Ev) (cx : Cx) (st : St) : codeB Try.prog E cx n31_22 st = condS (codeB Try.prog E cx n31_23) (codeB Try.prog E cx n31_24) (lk st.σ 34) st := GE.cond_step (c := .tmp 34) (by kernel_rfl)
theorem n31_20s (E : Ev) (cx : Cx) (st : St) : codeB Try.prog E cx n31_20 st = thenS (codeB Try.prog E cx n31_21 st) (codeB Try.prog E cx n31_22) := GE.seq_step (by kernel_rfl)
theorem n31_25s (E : Ev) (f : FuncId) (b : Nat) (ro : Option Nat) (st : St) : codeB Try.prog E ⟨f, 59, b, ro⟩ n31_25 st = plainS (runOps Try.prog E b q31_25 (ops [true, true, false, true, false, false, true, false, false, true, true] Try.f31) st) := GE.region_step (id := 8) (by kernel_rfl) (by kernel_rfl)
theorem n31_19s (E : Ev) (cx : Cx) (st : St) : codeB Try.prog E cx n31_19 st = thenS (codeB Try.prog E cx n31_20 st) (codeB Try.prog E cx n31_25) := GE.seq_step (by kernel_rfl)
theorem n31_17s (E : Ev) (cx : Cx) (st : St) : codeB Try.prog E cx n31_17 st = thenS (codeB Try.prog E cx n31_18 st) (codeB Try.prog E cx n31_19) := GE.seq_step (by kernel_rfl)
theorem n31_16s (E : Ev) (cx : Cx) (st : St) : codeB Try.prog E cx n31_16 st = blockS 1 (codeB Try.prog E cx n31_17 st) st := GE.block_step (by kernel_rfl)
theorem n31_26s (E : Ev) (f : FuncId) (b : Nat) (ro : Option Nat) (st : St) : codeB Try.prog E ⟨f, 59, b, ro⟩ n31_26 st = plainS (runOps Try.prog E b q31_26 (ops [true, true, false, true, false, false, true, true] Try.f31) st) := GE.region_step (id := 4) (by kernel_rfl) (by kernel_rfl)
theorem n31_15s (E : Ev) (cx : Cx) (st : St) : codeB Try.prog E cx n31_15 st = thenS (codeB Try.prog E cx n31_16 st) (codeB Try.prog E cx n31_26) := GE.seq_step (by kernel_rfl)
theorem n31_9s (E : Ev) (cx : Cx) (st : St) : codeB Try.prog E cx n31_9 st = thenS (codeB Try.prog E cx n31_10 st) (codeB Try.prog E cx n31_15) := GE.seq_step (by kernel_rfl)
theorem n31_8s (E : Ev) (cx : Cx) (st : St) : codeB Try.prog E cx n31_8 st = loopS (fun st' => E.code cx n31_8 st') cx.base (codeB Try.prog E cx n31_9 st) st := GE.loop_step (by kernel_rfl)
theorem n31_7s (E : Ev) (cx : Cx) (st : St) : codeB Try.prog E cx n31_7 st = blockS 0 (codeB Try.prog E cx n31_8 st) st := GE.block_step (by kernel_rfl)
theorem n31_5s (E : Ev) (cx : Cx) (st : St) : codeB Try.prog E cx n31_5 st = thenS (codeB Try.prog E cx n31_6 st) (codeB Try.prog E cx n31_7) := GE.seq_step (by kernel_rfl)
theorem n31_28s (E : Ev) (f : FuncId) (b : Nat) (ro : Option Nat) (st : St) : codeB Try.prog E ⟨f, 59, b, ro⟩ n31_28 st = plainS (runOps Try.prog E b q31_28 (ops [true, true, true, false] Try.f31) st) := GE.region_step (id := 9) (by kernel_rfl) (by kernel_rfl)
theorem n31_29s (E : Ev) (cx : Cx) (st : St) : codeB Try.prog E cx n31_29 st = some (.ret, st) := GE.ret_step (by kernel_rfl)
theorem n31_27s (E : Ev) (cx : Cx) (st : St) : codeB Try.prog E cx n31_27 st = thenS (codeB Try.prog E cx n31_28 st) (codeB Try.prog E cx n31_29) := GE.seq_step (by kernel_rfl)
theorem n31_4s (E : Ev) (cx : Cx) (st : St) : codeB Try.prog E cx n31_4 st = thenS (codeB Try.prog E cx n31_5 st) (codeB Try.prog E cx n31_27) := GE.seq_step (by kernel_rfl)
theorem n31_2s (E : Ev) (cx : Cx) (st : St) : codeB Try.prog E cx n31_2 st = thenS (codeB Try.prog E cx n31_3 st) (codeB Try.prog E cx n31_4) := GE.seq_step (by kernel_rfl)
theorem n31_0s (E : Ev) (cx : Cx) (st : St) : codeB Try.prog E cx n31_0 st = thenS (codeB Try.prog E cx n31_1 st) (codeB Try.prog E cx n31_2) := GE.seq_step (by kernel_rfl)
noncomputable def n32_0 : Code := sub [] (bodyOf Try.f32)
noncomputable def n32_1 : Code := sub [false] (bodyOf Try.f32)
noncomputable def q32_1 : List Oper := ops [false] Try.f32
noncomputable def n32_2 : Code := sub [true] (bodyOf Try.f32)
noncomputable def n32_3 : Code := sub [true, false] (bodyOf Try.f32)
noncomputable def q32_3 : List Oper := ops [true, false] Try.f32
noncomputable def n32_4 : Code := sub [true, true] (bodyOf Try.f32)
noncomputable def n32_5 : Code := sub [true, true, false] (bodyOf Try.f32)
noncomputable def q32_5 : List Oper := ops [true, true, false] Try.f32
noncomputable def n32_6 : Code := sub [true, true, true] (bodyOf Try.f32)
theorem body32 : Try.f32.body = some n32_0 := by kernel_rfl
theorem run32 (E : Ev) (args : List Value) (h : List Blk) (hl : args.length ≤ 44) : runB Try.prog E 32 args h = endS Try.prog [.cell 4 35] h.length (codeB Try.prog E ⟨32, 44, h.length, none⟩ n32_0 ⟨enumT 0 args, h, []⟩) := GE.run_step Try.func32 body32 (by kernel_rfl) (by decide) (by kernel_rfl) hl
theorem n32_1s (E : Ev) (f : FuncId) (b : Nat) (ro : Option Nat) (st : St) : codeB Try.prog E ⟨f, 44, b, ro⟩ n32_1 st = plainS (runOps Try.prog E b q32_1 (ops [false] Try.f32) st) := GE.region_step (id := 0) (by kernel_rfl) (by kernel_rfl)
theorem n32_3s (E : Ev) (f : FuncId) (b : Nat) (ro : Option Nat) (st : St) : codeB Try.prog E ⟨f, 44, b, ro⟩ n32_3 st = drawS [0, 1, 3, 0, 8, 24, 63, 0, 128, 384, 0, 1024, 3072, 8064, 127, 32767] (runOpsF Try.prog E b q32_3 (ops [true, false] Try.f32) st) := GE.draw_step (id := 1) (by kernel_rfl) (by kernel_rfl) (by kernel_rfl) (by kernel_rfl)
theorem n32_5s (E : Ev) (f : FuncId) (b : Nat) (ro : Option Nat) (st : St) : codeB Try.prog E ⟨f, 44, b, ro⟩ n32_5 st = drawS [0, 0, 0, 4, 12, 0, 32, 96, 0, 480, 1020, 2044, 0, 4096, 12288, 0, 32768, 98304, 0, 491520, 1044480, 2093056, 4194303, 8388607] (runOpsF Try.prog E b q32_5 (ops [true, true, false] Try.f32) st) := GE.draw_step (id := 2) (by kernel_rfl) (by kernel_rfl) (by kernel_rfl) (by kernel_rfl)
theorem n32_6s (E : Ev) (cx : Cx) (st : St) : codeB Try.prog E cx n32_6 st = some (.ret, st) := GE.ret_step (by kernel_rfl)
theorem n32_4s (E : Ev) (cx : Cx) (st : St) : codeB Try.prog E cx n32_4 st = thenS (codeB Try.prog E cx n32_5 st) (codeB Try.prog E cx n32_6) := GE.seq_step (by kernel_rfl)
theorem n32_2s (E : Ev) (cx : Cx) (st : St) : codeB Try.prog E cx n32_2 st = thenS (codeB Try.prog E cx n32_3 st) (codeB Try.prog E cx n32_4) := GE.seq_step (by kernel_rfl)
theorem n32_0s (E : Ev) (cx : Cx) (st : St) : codeB Try.prog E cx n32_0 st = thenS (codeB Try.prog E cx n32_1 st) (codeB Try.prog E cx n32_2) := GE.seq_step (by kernel_rfl)
noncomputable def n33_0 : Code := sub [] (bodyOf Try.f33)
noncomputable def n33_1 : Code := sub [false] (bodyOf Try.f33)
noncomputable def q33_1 : List Oper := ops [false] Try.f33
noncomputable def n33_2 : Code := sub [true] (bodyOf Try.f33)
noncomputable def n33_3 : Code := sub [true, false] (bodyOf Try.f33)
noncomputable def q33_3 : List Oper := ops [true, false] Try.f33
noncomputable def n33_4 : Code := sub [true, true] (bodyOf Try.f33)
noncomputable def n33_5 : Code := sub [true, true, false] (bodyOf Try.f33)
noncomputable def q33_5 : List Oper := ops [true, true, false] Try.f33
noncomputable def n33_6 : Code := sub [true, true, true] (bodyOf Try.f33)
noncomputable def n33_7 : Code := sub [true, true, true, false] (bodyOf Try.f33)
noncomputable def q33_7 : List Oper := ops [true, true, true, false] Try.f33
noncomputable def n33_8 : Code := sub [true, true, true, true] (bodyOf Try.f33)
theorem body33 : Try.f33.body = some n33_0 := by kernel_rfl
theorem run33 (E : Ev) (args : List Value) (h : List Blk) (hl : args.length ≤ 70) : runB Try.prog E 33 args h = endS Try.prog [.tmp 6] h.length (codeB Try.prog E ⟨33, 70, h.length, none⟩ n33_0 ⟨enumT 0 args, h, []⟩) := GE.run_step Try.func33 body33 (by kernel_rfl) (by decide) (by kernel_rfl) hl
theorem n33_1s (E : Ev) (f : FuncId) (b : Nat) (ro : Option Nat) (st : St) : codeB Try.prog E ⟨f, 70, b, ro⟩ n33_1 st = plainS (runOps Try.prog E b q33_1 (ops [false] Try.f33) st) := GE.region_step (id := 0) (by kernel_rfl) (by kernel_rfl)
theorem n33_3s (E : Ev) (f : FuncId) (b : Nat) (ro : Option Nat) (st : St) : codeB Try.prog E ⟨f, 70, b, ro⟩ n33_3 st = drawS [0, 1, 0, 0, 8, 28, 0, 124, 255, 511, 0, 1024, 0, 0, 8192, 28672, 0, 126976, 258048, 523264, 1047552, 1023, 4194303] (runOpsF Try.prog E b q33_3 (ops [true, false] Try.f33) st) := GE.draw_step (id := 1) (by kernel_rfl) (by kernel_rfl) (by kernel_rfl) (by kernel_rfl)
theorem n33_5s (E : Ev) (f : FuncId) (b : Nat) (ro : Option Nat) (st : St) : codeB Try.prog E ⟨f, 70, b, ro⟩ n33_5 st = drawS [0, 1, 0, 4, 0, 16, 60, 0, 252, 508, 1023, 2047, 0, 4096, 0, 16384, 0, 65536, 245760, 0, 1032192, 2093056, 4190208, 4095, 16777215] (runOpsF Try.prog E b q33_5 (ops [true, true, false] Try.f33) st) := GE.draw_step (id := 2) (by kernel_rfl) (by kernel_rfl) (by kernel_rfl) (by kernel_rfl)
theorem n33_7s (E : Ev) (f : FuncId) (b : Nat) (ro : Option Nat) (st : St) : codeB Try.prog E ⟨f, 70, b, ro⟩ n33_7 st = plainS (runOps Try.prog E b q33_7 (ops [true, true, true, false] Try.f33) st) := GE.region_step (id := 3) (by kernel_rfl) (by kernel_rfl)
theorem n33_8s (E : Ev) (cx : Cx) (st : St) : codeB Try.prog E cx n33_8 st = some (.ret, st) := GE.ret_step (by kernel_rfl)
theorem n33_6s (E : Ev) (cx : Cx) (st : St) : codeB Try.prog E cx n33_6 st = thenS (codeB Try.prog E cx n33_7 st) (codeB Try.prog E cx n33_8) := GE.seq_step (by kernel_rfl)
theorem n33_4s (E : Ev) (cx : Cx) (st : St) : codeB Try.prog E cx n33_4 st = thenS (codeB Try.prog E cx n33_5 st) (codeB Try.prog E cx n33_6) := GE.seq_step (by kernel_rfl)
theorem n33_2s (E : Ev) (cx : Cx) (st : St) : codeB Try.prog E cx n33_2 st = thenS (codeB Try.prog E cx n33_3 st) (codeB Try.prog E cx n33_4) := GE.seq_step (by kernel_rfl)
theorem n33_0s (E : Ev) (cx : Cx) (st : St) : codeB Try.prog E cx n33_0 st = thenS (codeB Try.prog E cx n33_1 st) (codeB Try.prog E cx n33_2) := GE.seq_step (by kernel_rfl)
noncomputable def n34_0 : Code := sub [] (bodyOf Try.f34)
noncomputable def n34_1 : Code := sub [false] (bodyOf Try.f34)
noncomputable def q34_1 : List Oper := ops [false] Try.f34
noncomputable def n34_2 : Code := sub [true] (bodyOf Try.f34)
noncomputable def n34_3 : Code := sub [true, false] (bodyOf Try.f34)
noncomputable def q34_3 : List Oper := ops [true, false] Try.f34
noncomputable def n34_4 : Code := sub [true, true] (bodyOf Try.f34)
theorem body34 : Try.f34.body = some n34_0 := by kernel_rfl
theorem run34 (E : Ev) (args : List Value) (h : List Blk) (hl : args.length ≤ 14) : runB Try.prog E 34 args h = endS Try.prog [.cell 8 35] h.length (codeB Try.prog E ⟨34, 14, h.length, none⟩ n34_0 ⟨enumT 0 args, h, []⟩) := GE.run_step Try.func34 body34 (by kernel_rfl) (by decide) (by kernel_rfl) hl
theorem n34_1s (E : Ev) (f : FuncId) (b : Nat) (ro : Option Nat) (st : St) : codeB Try.prog E ⟨f, 14, b, ro⟩ n34_1 st = plainS (runOps Try.prog E b q34_1 (ops [false] Try.f34) st) := GE.region_step (id := 0) (by kernel_rfl) (by kernel_rfl)
theorem n34_3s (E : Ev) (f : FuncId) (b : Nat) (ro : Option Nat) (st : St) : codeB Try.prog E ⟨f, 14, b, ro⟩ n34_3 st = plainS (runOps Try.prog E b q34_3 (ops [true, false] Try.f34) st) := GE.region_step (id := 1) (by kernel_rfl) (by kernel_rfl)
theorem n34_4s (E : Ev) (cx : Cx) (st : St) : codeB Try.prog E cx n34_4 st = some (.ret, st) := GE.ret_step (by kernel_rfl)
theorem n34_2s (E : Ev) (cx : Cx) (st : St) : codeB Try.prog E cx n34_2 st = thenS (codeB Try.prog E cx n34_3 st) (codeB Try.prog E cx n34_4) := GE.seq_step (by kernel_rfl)
theorem n34_0s (E : Ev) (cx : Cx) (st : St) : codeB Try.prog E cx n34_0 st = thenS (codeB Try.prog E cx n34_1 st) (codeB Try.prog E cx n34_2) := GE.seq_step (by kernel_rfl)
noncomputable def n36_0 : Code := sub [] (bodyOf Try.f36)
noncomputable def n36_1 : Code := sub [false] (bodyOf Try.f36)
noncomputable def q36_1 : List Oper := ops [false] Try.f36
noncomputable def n36_2 : Code := sub [true] (bodyOf Try.f36)
noncomputable def n36_3 : Code := sub [true, false] (bodyOf Try.f36)
noncomputable def q36_3 : List Oper := ops [true, false] Try.f36
noncomputable def n36_4 : Code := sub [true, true] (bodyOf Try.f36)
theorem body36 : Try.f36.body = some n36_0 := by kernel_rfl
theorem run36 (E : Ev) (args : List Value) (h : List Blk) (hl : args.length ≤ 15) : runB Try.prog E 36 args h = endS Try.prog [.tmp 6] h.length (codeB Try.prog E ⟨36, 15, h.length, none⟩ n36_0 ⟨enumT 0 args, h, []⟩) := GE.run_step Try.func36 body36 (by kernel_rfl) (by decide) (by kernel_rfl) hl
theorem n36_1s (E : Ev) (f : FuncId) (b : Nat) (ro : Option Nat) (st : St) : codeB Try.prog E ⟨f, 15, b, ro⟩ n36_1 st = plainS (runOps Try.prog E b q36_1 (ops [false] Try.f36) st) := GE.region_step (id := 0) (by kernel_rfl) (by kernel_rfl)
theorem q36_3g3 : gd q36_3 3 = some 10 := by kernel_rfl
theorem n36_3s (E : Ev) (f : FuncId) (b : Nat) (ro : Option Nat) (st : St) : codeB Try.prog E ⟨f, 15, b, ro⟩ n36_3 st = plainS (runOps Try.prog E b q36_3 (ops [true, false] Try.f36) st) := GE.region_step (id := 1) (by kernel_rfl) (by kernel_rfl)
theorem n36_4s (E : Ev) (cx : Cx) (st : St) : codeB Try.prog E cx n36_4 st = some (.ret, st) := GE.ret_step (by kernel_rfl)
theorem n36_2s (E : Ev) (cx : Cx) (st : St) : codeB Try.prog E cx n36_2 st = thenS (codeB Try.prog E cx n36_3 st) (codeB Try.prog E cx n36_4) := GE.seq_step (by kernel_rfl)
theorem n36_0s (E : Ev) (cx : Cx) (st : St) : codeB Try.prog E cx n36_0 st = thenS (codeB Try.prog E cx n36_1 st) (codeB Try.prog E cx n36_2) := GE.seq_step (by kernel_rfl)
noncomputable def n37_0 : Code := sub [] (bodyOf Try.f37)
noncomputable def n37_1 : Code := sub [false] (bodyOf Try.f37)
noncomputable def q37_1 : List Oper := ops [false] Try.f37
noncomputable def n37_2 : Code := sub [true] (bodyOf Try.f37)
noncomputable def n37_3 : Code := sub [true, false] (bodyOf Try.f37)
noncomputable def q37_3 : List Oper := ops [true, false] Try.f37
noncomputable def n37_4 : Code := sub [true, true] (bodyOf Try.f37)
theorem body37 : Try.f37.body = some n37_0 := by kernel_rfl
theorem run37 (E : Ev) (args : List Value) (h : List Blk) (hl : args.length ≤ 12) : runB Try.prog E 37 args h = endS Try.prog [.tmp 4] h.length (codeB Try.prog E ⟨37, 12, h.length, none⟩ n37_0 ⟨enumT 0 args, h, []⟩) := GE.run_step Try.func37 body37 (by kernel_rfl) (by decide) (by kernel_rfl) hl
theorem n37_1s (E : Ev) (f : FuncId) (b : Nat) (ro : Option Nat) (st : St) : codeB Try.prog E ⟨f, 12, b, ro⟩ n37_1 st = plainS (runOps Try.prog E b q37_1 (ops [false] Try.f37) st) := GE.region_step (id := 0) (by kernel_rfl) (by kernel_rfl)
theorem n37_3s (E : Ev) (f : FuncId) (b : Nat) (ro : Option Nat) (st : St) : codeB Try.prog E ⟨f, 12, b, ro⟩ n37_3 st = plainS (runOps Try.prog E b q37_3 (ops [true, false] Try.f37) st) := GE.region_step (id := 1) (by kernel_rfl) (by kernel_rfl)
theorem n37_4s (E : Ev) (cx : Cx) (st : St) : codeB Try.prog E cx n37_4 st = some (.ret, st) := GE.ret_step (by kernel_rfl)
theorem n37_2s (E : Ev) (cx : Cx) (st : St) : codeB Try.prog E cx n37_2 st = thenS (codeB Try.prog E cx n37_3 st) (codeB Try.prog E cx n37_4) := GE.seq_step (by kernel_rfl)
theorem n37_0s (E : Ev) (cx : Cx) (st : St) : codeB Try.prog E cx n37_0 st = thenS (codeB Try.prog E cx n37_1 st) (codeB Try.prog E cx n37_2) := GE.seq_step (by kernel_rfl)
noncomputable def n40_0 : Code := sub [] (bodyOf Try.f40)
noncomputable def n40_1 : Code := sub [false] (bodyOf Try.f40)
noncomputable def q40_1 : List Oper := ops [false] Try.f40
noncomputable def n40_2 : Code := sub [true] (bodyOf Try.f40)
noncomputable def n40_3 : Code := sub [true, false] (bodyOf Try.f40)
noncomputable def q40_3 : List Oper := ops [true, false] Try.f40
noncomputable def n40_4 : Code := sub [true, true] (bodyOf Try.f40)
theorem body40 : Try.f40.body = some n40_0 := by kernel_rfl
theorem run40 (E : Ev) (args : List Value) (h : List Blk) (hl : args.length ≤ 14) : runB Try.prog E 40 args h = endS Try.prog [.tmp 4] h.length (codeB Try.prog E ⟨40, 14, h.length, none⟩ n40_0 ⟨enumT 0 args, h, []⟩) := GE.run_step Try.func40 body40 (by kernel_rfl) (by decide) (by kernel_rfl) hl
theorem n40_1s (E : Ev) (f : FuncId) (b : Nat) (ro : Option Nat) (st : St) : codeB Try.prog E ⟨f, 14, b, ro⟩ n40_1 st = plainS (runOps Try.prog E b q40_1 (ops [false] Try.f40) st) := GE.region_step (id := 0) (by kernel_rfl) (by kernel_rfl)
theorem n40_3s (E : Ev) (f : FuncId) (b : Nat) (ro : Option Nat) (st : St) : codeB Try.prog E ⟨f, 14, b, ro⟩ n40_3 st = plainS (runOps Try.prog E b q40_3 (ops [true, false] Try.f40) st) := GE.region_step (id := 1) (by kernel_rfl) (by kernel_rfl)
theorem n40_4s (E : Ev) (cx : Cx) (st : St) : codeB Try.prog E cx n40_4 st = some (.ret, st) := GE.ret_step (by kernel_rfl)
theorem n40_2s (E : Ev) (cx : Cx) (st : St) : codeB Try.prog E cx n40_2 st = thenS (codeB Try.prog E cx n40_3 st) (codeB Try.prog E cx n40_4) := GE.seq_step (by kernel_rfl)
theorem n40_0s (E : Ev) (cx : Cx) (st : St) : codeB Try.prog E cx n40_0 st = thenS (codeB Try.prog E cx n40_1 st) (codeB Try.prog E cx n40_2) := GE.seq_step (by kernel_rfl)
noncomputable def n41_0 : Code := sub [] (bodyOf Try.f41)
noncomputable def n41_1 : Code := sub [false] (bodyOf Try.f41)
noncomputable def q41_1 : List Oper := ops [false] Try.f41
noncomputable def n41_2 : Code := sub [true] (bodyOf Try.f41)
noncomputable def n41_3 : Code := sub [true, false] (bodyOf Try.f41)
noncomputable def q41_3 : List Oper := ops [true, false] Try.f41
noncomputable def n41_4 : Code := sub [true, true] (bodyOf Try.f41)
theorem body41 : Try.f41.body = some n41_0 := by kernel_rfl
theorem run41 (E : Ev) (args : List Value) (h : List Blk) (hl : args.length ≤ 17) : runB Try.prog E 41 args h = endS Try.prog [.tmp 6] h.length (codeB Try.prog E ⟨41, 17, h.length, none⟩ n41_0 ⟨enumT 0 args, h, []⟩) := GE.run_step Try.func41 body41 (by kernel_rfl) (by decide) (by kernel_rfl) hl
theorem n41_1s (E : Ev) (f : FuncId) (b : Nat) (ro : Option Nat) (st : St) : codeB Try.prog E ⟨f, 17, b, ro⟩ n41_1 st = plainS (runOps Try.prog E b q41_1 (ops [false] Try.f41) st) := GE.region_step (id := 0) (by kernel_rfl) (by kernel_rfl)
theorem n41_3s (E : Ev) (f : FuncId) (b : Nat) (ro : Option Nat) (st : St) : codeB Try.prog E ⟨f, 17, b, ro⟩ n41_3 st = plainS (runOps Try.prog E b q41_3 (ops [true, false] Try.f41) st) := GE.region_step (id := 1) (by kernel_rfl) (by kernel_rfl)
theorem n41_4s (E : Ev) (cx : Cx) (st : St) : codeB Try.prog E cx n41_4 st = some (.ret, st) := GE.ret_step (by kernel_rfl)
theorem n41_2s (E : Ev) (cx : Cx) (st : St) : codeB Try.prog E cx n41_2 st = thenS (codeB Try.prog E cx n41_3 st) (codeB Try.prog E cx n41_4) := GE.seq_step (by kernel_rfl)
theorem n41_0s (E : Ev) (cx : Cx) (st : St) : codeB Try.prog E cx n41_0 st = thenS (codeB Try.prog E cx n41_1 st) (codeB Try.prog E cx n41_2) := GE.seq_step (by kernel_rfl)
noncomputable def n43_0 : Code := sub [] (bodyOf Try.f43)
noncomputable def n43_1 : Code := sub [false] (bodyOf Try.f43)
noncomputable def q43_1 : List Oper := ops [false] Try.f43
noncomputable def n43_2 : Code := sub [true] (bodyOf Try.f43)
noncomputable def n43_3 : Code := sub [true, false] (bodyOf Try.f43)
noncomputable def q43_3 : List Oper := ops [true, false] Try.f43
noncomputable def n43_4 : Code := sub [true, true] (bodyOf Try.f43)
theorem body43 : Try.f43.body = some n43_0 := by kernel_rfl
theorem run43 (E : Ev) (args : List Value) (h : List Blk) (hl : args.length ≤ 41) : runB Try.prog E 43 args h = endS Try.prog [.tmp 4] h.length (codeB Try.prog E ⟨43, 41, h.length, none⟩ n43_0 ⟨enumT 0 args, h, []⟩) := GE.run_step Try.func43 body43 (by kernel_rfl) (by decide) (by kernel_rfl) hl
theorem n43_1s (E : Ev) (f : FuncId) (b : Nat) (ro : Option Nat) (st : St) : codeB Try.prog E ⟨f, 41, b, ro⟩ n43_1 st = plainS (runOps Try.prog E b q43_1 (ops [false] Try.f43) st) := GE.region_step (id := 0) (by kernel_rfl) (by kernel_rfl)
theorem q43_3g6 : gd q43_3 6 = some 11 := by kernel_rfl
theorem q43_3g14 : gd q43_3 14 = some 19 := by kernel_rfl
theorem q43_3g25 : gd q43_3 25 = some 30 := by kernel_rfl
theorem n43_3s (E : Ev) (f : FuncId) (b : Nat) (ro : Option Nat) (st : St) : codeB Try.prog E ⟨f, 41, b, ro⟩ n43_3 st = plainS (runOps Try.prog E b q43_3 (ops [true, false] Try.f43) st) := GE.region_step (id := 1) (by kernel_rfl) (by kernel_rfl)
theorem n43_4s (E : Ev) (cx : Cx) (st : St) : codeB Try.prog E cx n43_4 st = some (.ret, st) := GE.ret_step (by kernel_rfl)
theorem n43_2s (E : Ev) (cx : Cx) (st : St) : codeB Try.prog E cx n43_2 st = thenS (codeB Try.prog E cx n43_3 st) (codeB Try.prog E cx n43_4) := GE.seq_step (by kernel_rfl)
theorem n43_0s (E : Ev) (cx : Cx) (st : St) : codeB Try.prog E cx n43_0 st = thenS (codeB Try.prog E cx n43_1 st) (codeB Try.prog E cx n43_2) := GE.seq_step (by kernel_rfl)
noncomputable def n44_0 : Code := sub [] (bodyOf Try.f44)
noncomputable def n44_1 : Code := sub [false] (bodyOf Try.f44)
noncomputable def q44_1 : List Oper := ops [false] Try.f44
noncomputable def n44_2 : Code := sub [true] (bodyOf Try.f44)
noncomputable def n44_3 : Code := sub [true, false] (bodyOf Try.f44)
noncomputable def q44_3 : List Oper := ops [true, false] Try.f44
noncomputable def n44_4 : Code := sub [true, true] (bodyOf Try.f44)
noncomputable def n44_5 : Code := sub [true, true, false] (bodyOf Try.f44)
noncomputable def n44_6 : Code := sub [true, true, false, false] (bodyOf Try.f44)
noncomputable def q44_6 : List Oper := ops [true, true, false, false] Try.f44
noncomputable def n44_7 : Code := sub [true, true, false, true] (bodyOf Try.f44)
noncomputable def n44_8 : Code := sub [true, true, false, true, false] (bodyOf Try.f44)
noncomputable def n44_9 : Code := sub [true, true, false, true, false, false] (bodyOf Try.f44)
noncomputable def q44_9 : List Oper := ops [true, true, false, true, false, false] Try.f44
noncomputable def n44_10 : Code := sub [true, true, false, true, false, true] (bodyOf Try.f44)
noncomputable def n44_11 : Code := sub [true, true, false, true, false, true, false] (bodyOf Try.f44)
noncomputable def n44_12 : Code := sub [true, true, false, true, false, true, false, false] (bodyOf Try.f44)
noncomputable def n44_13 : Code := sub [true, true, false, true, false, true, false, false, false] (bodyOf Try.f44)
noncomputable def q44_13 : List Oper := ops [true, true, false, true, false, true, false, false, false] Try.f44
noncomputable def n44_14 : Code := sub [true, true, false, true, false, true, false, false, true] (bodyOf Try.f44)
noncomputable def n44_15 : Code := sub [true, true, false, true, false, true, false, false, true, false] (bodyOf Try.f44)
noncomputable def q44_15 : List Oper := ops [true, true, false, true, false, true, false, false, true, false] Try.f44
noncomputable def n44_16 : Code := sub [true, true, false, true, false, true, false, false, true, true] (bodyOf Try.f44)
noncomputable def n44_17 : Code := sub [true, true, false, true, false, true, false, true] (bodyOf Try.f44)
noncomputable def q44_17 : List Oper := ops [true, true, false, true, false, true, false, true] Try.f44
noncomputable def n44_18 : Code := sub [true, true, true] (bodyOf Try.f44)
noncomputable def n44_19 : Code := sub [true, true, true, false] (bodyOf Try.f44)
noncomputable def q44_19 : List Oper := ops [true, true, true, false] Try.f44
noncomputable def n44_20 : Code := sub [true, true, true, true] (bodyOf Try.f44)
theorem body44 : Try.f44.body = some n44_0 := by kernel_rfl
theorem run44 (E : Ev) (args : List Value) (h : List Blk) (hl : args.length ≤ 22) : runB Try.prog E 44 args h = endS Try.prog [.tmp 4] h.length (codeB Try.prog E ⟨44, 22, h.length, none⟩ n44_0 ⟨enumT 0 args, h, []⟩) := GE.run_step Try.func44 body44 (by kernel_rfl) (by decide) (by kernel_rfl) hl
theorem n44_1s (E : Ev) (f : FuncId) (b : Nat) (ro : Option Nat) (st : St) : codeB Try.prog E ⟨f, 22, b, ro⟩ n44_1 st = plainS (runOps Try.prog E b q44_1 (ops [false] Try.f44) st) := GE.region_step (id := 0) (by kernel_rfl) (by kernel_rfl)
theorem n44_3s (E : Ev) (f : FuncId) (b : Nat) (ro : Option Nat) (st : St) : codeB Try.prog E ⟨f, 22, b, ro⟩ n44_3 st = plainS (runOps Try.prog E b q44_3 (ops [true, false] Try.f44) st) := GE.region_step (id := 1) (by kernel_rfl) (by kernel_rfl)
theorem n44_6s (E : Ev) (f : FuncId) (b : Nat) (ro : Option Nat) (st : St) : codeB Try.prog E ⟨f, 22, b, ro⟩ n44_6 st = plainS (runOps Try.prog E b q44_6 (ops [true, true, false, false] Try.f44) st) := GE.region_step (id := 2) (by kernel_rfl) (by kernel_rfl)
theorem n44_9s (E : Ev) (f : FuncId) (b : Nat) (ro : Option Nat) (st : St) : codeB Try.prog E ⟨f, 22, b, ro⟩ n44_9 st = plainS (runOps Try.prog E b q44_9 (ops [true, true, false, true, false, false] Try.f44) st) := GE.region_step (id := 3) (by kernel_rfl) (by kernel_rfl)
theorem n44_13s (E : Ev) (f : FuncId) (b : Nat) (ro : Option Nat) (st : St) : codeB Try.prog E ⟨f, 22, b, ro⟩ n44_13 st = plainS (runOps Try.prog E b q44_13 (ops [true, true, false, true, false, true, false, false, false] Try.f44) st) := GE.region_step (id := 4) (by kernel_rfl) (by kernel_rfl)
theorem n44_15s (E : Ev) (f : FuncId) (b : Nat) (ro : Option Nat) (st : St) : codeB Try.prog E ⟨f, 22, b, ro⟩ n44_15 st = drawS [0, 0, 0, 6, 15, 31] (runOpsF Try.prog E b q44_15 (ops [true, true, false, true, false, true, false, false, true, false] Try.f44) st) := GE.draw_step (id := 5) (by kernel_rfl) (by kernel_rfl) (by kernel_rfl) (by kernel_rfl)
theorem n44_16s (E : Ev) (cx : Cx) (st : St) : codeB Try.prog E cx n44_16 st = some (.normal, st) := GE.skip_step (by kernel_rfl)
theorem n44_14s (E : Ev) (cx : Cx) (st : St) : codeB Try.prog E cx n44_14 st = condS (codeB Try.prog E cx n44_15) (codeB Try.prog E cx n44_16) (lk st.σ 13) st := GE.cond_step (c := .tmp 13) (by kernel_rfl)
theorem n44_12s (E : Ev) (cx : Cx) (st : St) : codeB Try.prog E cx n44_12 st = thenS (codeB Try.prog E cx n44_13 st) (codeB Try.prog E cx n44_14) := GE.seq_step (by kernel_rfl)
theorem n44_17s (E : Ev) (f : FuncId) (b : Nat) (ro : Option Nat) (st : St) : codeB Try.prog E ⟨f, 22, b, ro⟩ n44_17 st = plainS (runOps Try.prog E b q44_17 (ops [true, true, false, true, false, true, false, true] Try.f44) st) := GE.region_step (id := 6) (by kernel_rfl) (by kernel_rfl)
theorem n44_11s (E : Ev) (cx : Cx) (st : St) : codeB Try.prog E cx n44_11 st = thenS (codeB Try.prog E cx n44_12 st) (codeB Try.prog E cx n44_17) := GE.seq_step (by kernel_rfl)
theorem n44_10s (E : Ev) (cx : Cx) (st : St) : codeB Try.prog E cx n44_10 st = blockS 1 (codeB Try.prog E cx n44_11 st) st := GE.block_step (by kernel_rfl)
theorem n44_8e : n44_8 = .rangeFunc (.tmp 10) #[11] n44_9 n44_10 := by kernel_rfl
theorem n44_8k : (ue n44_9).1 ++ (ue n44_10).1 = [11, 6, 5, 7] := by kernel_rfl
theorem n44_7s (E : Ev) (cx : Cx) (st : St) : codeB Try.prog E cx n44_7 st = blockS 0 (codeB Try.prog E cx n44_8 st) st := GE.block_step (by kernel_rfl)
theorem n44_5s (E : Ev) (cx : Cx) (st : St) : codeB Try.prog E cx n44_5 st = thenS (codeB Try.prog E cx n44_6 st) (codeB Try.prog E cx n44_7) := GE.seq_step (by kernel_rfl)
theorem n44_19s (E : Ev) (f : FuncId) (b : Nat) (ro : Option Nat) (st : St) : codeB Try.prog E ⟨f, 22, b, ro⟩ n44_19 st = plainS (runOps Try.prog E b q44_19 (ops [true, true, true, false] Try.f44) st) := GE.region_step (id := 7) (by kernel_rfl) (by kernel_rfl)
theorem n44_20s (E : Ev) (cx : Cx) (st : St) : codeB Try.prog E cx n44_20 st = some (.ret, st) := GE.ret_step (by kernel_rfl)
theorem n44_18s (E : Ev) (cx : Cx) (st : St) : codeB Try.prog E cx n44_18 st = thenS (codeB Try.prog E cx n44_19 st) (codeB Try.prog E cx n44_20) := GE.seq_step (by kernel_rfl)
theorem n44_4s (E : Ev) (cx : Cx) (st : St) : codeB Try.prog E cx n44_4 st = thenS (codeB Try.prog E cx n44_5 st) (codeB Try.prog E cx n44_18) := GE.seq_step (by kernel_rfl)
theorem n44_2s (E : Ev) (cx : Cx) (st : St) : codeB Try.prog E cx n44_2 st = thenS (codeB Try.prog E cx n44_3 st) (codeB Try.prog E cx n44_4) := GE.seq_step (by kernel_rfl)
theorem n44_0s (E : Ev) (cx : Cx) (st : St) : codeB Try.prog E cx n44_0 st = thenS (codeB Try.prog E cx n44_1 st) (codeB Try.prog E cx n44_2) := GE.seq_step (by kernel_rfl)
noncomputable def n47_0 : Code := sub [] (bodyOf Try.f47)
noncomputable def n47_1 : Code := sub [false] (bodyOf Try.f47)
noncomputable def q47_1 : List Oper := ops [false] Try.f47
noncomputable def n47_2 : Code := sub [true] (bodyOf Try.f47)
noncomputable def n47_3 : Code := sub [true, false] (bodyOf Try.f47)
noncomputable def q47_3 : List Oper := ops [true, false] Try.f47
noncomputable def n47_4 : Code := sub [true, true] (bodyOf Try.f47)
theorem body47 : Try.f47.body = some n47_0 := by kernel_rfl
theorem run47 (E : Ev) (args : List Value) (h : List Blk) (hl : args.length ≤ 11) : runB Try.prog E 47 args h = endS Try.prog [.tmp 4] h.length (codeB Try.prog E ⟨47, 11, h.length, none⟩ n47_0 ⟨enumT 0 args, h, []⟩) := GE.run_step Try.func47 body47 (by kernel_rfl) (by decide) (by kernel_rfl) hl
theorem n47_1s (E : Ev) (f : FuncId) (b : Nat) (ro : Option Nat) (st : St) : codeB Try.prog E ⟨f, 11, b, ro⟩ n47_1 st = plainS (runOps Try.prog E b q47_1 (ops [false] Try.f47) st) := GE.region_step (id := 0) (by kernel_rfl) (by kernel_rfl)
theorem q47_3g2 : gd q47_3 2 = some 7 := by kernel_rfl
theorem n47_3s (E : Ev) (f : FuncId) (b : Nat) (ro : Option Nat) (st : St) : codeB Try.prog E ⟨f, 11, b, ro⟩ n47_3 st = plainS (runOps Try.prog E b q47_3 (ops [true, false] Try.f47) st) := GE.region_step (id := 1) (by kernel_rfl) (by kernel_rfl)
theorem n47_4s (E : Ev) (cx : Cx) (st : St) : codeB Try.prog E cx n47_4 st = some (.ret, st) := GE.ret_step (by kernel_rfl)
theorem n47_2s (E : Ev) (cx : Cx) (st : St) : codeB Try.prog E cx n47_2 st = thenS (codeB Try.prog E cx n47_3 st) (codeB Try.prog E cx n47_4) := GE.seq_step (by kernel_rfl)
theorem n47_0s (E : Ev) (cx : Cx) (st : St) : codeB Try.prog E cx n47_0 st = thenS (codeB Try.prog E cx n47_1 st) (codeB Try.prog E cx n47_2) := GE.seq_step (by kernel_rfl)
noncomputable def n48_0 : Code := sub [] (bodyOf Try.f48)
noncomputable def n48_1 : Code := sub [false] (bodyOf Try.f48)
noncomputable def q48_1 : List Oper := ops [false] Try.f48
noncomputable def n48_2 : Code := sub [true] (bodyOf Try.f48)
noncomputable def n48_3 : Code := sub [true, false] (bodyOf Try.f48)
noncomputable def q48_3 : List Oper := ops [true, false] Try.f48
noncomputable def n48_4 : Code := sub [true, true] (bodyOf Try.f48)
noncomputable def n48_5 : Code := sub [true, true, false] (bodyOf Try.f48)
noncomputable def q48_5 : List Oper := ops [true, true, false] Try.f48
noncomputable def n48_6 : Code := sub [true, true, true] (bodyOf Try.f48)
noncomputable def n48_7 : Code := sub [true, true, true, false] (bodyOf Try.f48)
noncomputable def q48_7 : List Oper := ops [true, true, true, false] Try.f48
noncomputable def n48_8 : Code := sub [true, true, true, true] (bodyOf Try.f48)
noncomputable def n48_9 : Code := sub [true, true, true, true, false] (bodyOf Try.f48)
noncomputable def q48_9 : List Oper := ops [true, true, true, true, false] Try.f48
noncomputable def n48_10 : Code := sub [true, true, true, true, true] (bodyOf Try.f48)
noncomputable def n48_11 : Code := sub [true, true, true, true, true, false] (bodyOf Try.f48)
noncomputable def q48_11 : List Oper := ops [true, true, true, true, true, false] Try.f48
noncomputable def n48_12 : Code := sub [true, true, true, true, true, true] (bodyOf Try.f48)
theorem body48 : Try.f48.body = some n48_0 := by kernel_rfl
theorem run48 (E : Ev) (args : List Value) (h : List Blk) (hl : args.length ≤ 16) : runB Try.prog E 48 args h = endS Try.prog [.tmp 4] h.length (codeB Try.prog E ⟨48, 16, h.length, none⟩ n48_0 ⟨enumT 0 args, h, []⟩) := GE.run_step Try.func48 body48 (by kernel_rfl) (by decide) (by kernel_rfl) hl
theorem n48_1s (E : Ev) (f : FuncId) (b : Nat) (ro : Option Nat) (st : St) : codeB Try.prog E ⟨f, 16, b, ro⟩ n48_1 st = plainS (runOps Try.prog E b q48_1 (ops [false] Try.f48) st) := GE.region_step (id := 0) (by kernel_rfl) (by kernel_rfl)
theorem n48_3s (E : Ev) (f : FuncId) (b : Nat) (ro : Option Nat) (st : St) : codeB Try.prog E ⟨f, 16, b, ro⟩ n48_3 st = plainS (runOps Try.prog E b q48_3 (ops [true, false] Try.f48) st) := GE.region_step (id := 1) (by kernel_rfl) (by kernel_rfl)
theorem n48_5s (E : Ev) (f : FuncId) (b : Nat) (ro : Option Nat) (st : St) : codeB Try.prog E ⟨f, 16, b, ro⟩ n48_5 st = plainS (runOps Try.prog E b q48_5 (ops [true, true, false] Try.f48) st) := GE.region_step (id := 2) (by kernel_rfl) (by kernel_rfl)
theorem n48_7s (E : Ev) (f : FuncId) (b : Nat) (ro : Option Nat) (st : St) : codeB Try.prog E ⟨f, 16, b, ro⟩ n48_7 st = plainS (runOps Try.prog E b q48_7 (ops [true, true, true, false] Try.f48) st) := GE.region_step (id := 3) (by kernel_rfl) (by kernel_rfl)
theorem n48_9s (E : Ev) (f : FuncId) (b : Nat) (ro : Option Nat) (st : St) : codeB Try.prog E ⟨f, 16, b, ro⟩ n48_9 st = plainS (runOps Try.prog E b q48_9 (ops [true, true, true, true, false] Try.f48) st) := GE.region_step (id := 4) (by kernel_rfl) (by kernel_rfl)
theorem n48_11s (E : Ev) (f : FuncId) (b : Nat) (ro : Option Nat) (st : St) : codeB Try.prog E ⟨f, 16, b, ro⟩ n48_11 st = plainS (runOps Try.prog E b q48_11 (ops [true, true, true, true, true, false] Try.f48) st) := GE.region_step (id := 5) (by kernel_rfl) (by kernel_rfl)
theorem n48_12s (E : Ev) (cx : Cx) (st : St) : codeB Try.prog E cx n48_12 st = some (.ret, st) := GE.ret_step (by kernel_rfl)
theorem n48_10s (E : Ev) (cx : Cx) (st : St) : codeB Try.prog E cx n48_10 st = thenS (codeB Try.prog E cx n48_11 st) (codeB Try.prog E cx n48_12) := GE.seq_step (by kernel_rfl)
theorem n48_8s (E : Ev) (cx : Cx) (st : St) : codeB Try.prog E cx n48_8 st = thenS (codeB Try.prog E cx n48_9 st) (codeB Try.prog E cx n48_10) := GE.seq_step (by kernel_rfl)
theorem n48_6s (E : Ev) (cx : Cx) (st : St) : codeB Try.prog E cx n48_6 st = thenS (codeB Try.prog E cx n48_7 st) (codeB Try.prog E cx n48_8) := GE.seq_step (by kernel_rfl)
theorem n48_4s (E : Ev) (cx : Cx) (st : St) : codeB Try.prog E cx n48_4 st = thenS (codeB Try.prog E cx n48_5 st) (codeB Try.prog E cx n48_6) := GE.seq_step (by kernel_rfl)
theorem n48_2s (E : Ev) (cx : Cx) (st : St) : codeB Try.prog E cx n48_2 st = thenS (codeB Try.prog E cx n48_3 st) (codeB Try.prog E cx n48_4) := GE.seq_step (by kernel_rfl)
theorem n48_0s (E : Ev) (cx : Cx) (st : St) : codeB Try.prog E cx n48_0 st = thenS (codeB Try.prog E cx n48_1 st) (codeB Try.prog E cx n48_2) := GE.seq_step (by kernel_rfl)
noncomputable def n50_0 : Code := sub [] (bodyOf Try.f50)
noncomputable def n50_1 : Code := sub [false] (bodyOf Try.f50)
noncomputable def q50_1 : List Oper := ops [false] Try.f50
noncomputable def n50_2 : Code := sub [true] (bodyOf Try.f50)
noncomputable def n50_3 : Code := sub [true, false] (bodyOf Try.f50)
noncomputable def q50_3 : List Oper := ops [true, false] Try.f50
noncomputable def n50_4 : Code := sub [true, true] (bodyOf Try.f50)
noncomputable def n50_5 : Code := sub [true, true, false] (bodyOf Try.f50)
noncomputable def n50_6 : Code := sub [true, true, false, false] (bodyOf Try.f50)
noncomputable def n50_7 : Code := sub [true, true, false, false, false] (bodyOf Try.f50)
noncomputable def n50_8 : Code := sub [true, true, false, false, false, false] (bodyOf Try.f50)
noncomputable def n50_9 : Code := sub [true, true, false, false, false, false, false] (bodyOf Try.f50)
noncomputable def q50_9 : List Oper := ops [true, true, false, false, false, false, false] Try.f50
noncomputable def n50_10 : Code := sub [true, true, false, false, false, false, true] (bodyOf Try.f50)
noncomputable def n50_11 : Code := sub [true, true, false, false, false, false, true, false] (bodyOf Try.f50)
noncomputable def n50_12 : Code := sub [true, true, false, false, false, false, true, true] (bodyOf Try.f50)
noncomputable def n50_13 : Code := sub [true, true, false, false, false, true] (bodyOf Try.f50)
noncomputable def n50_14 : Code := sub [true, true, false, false, false, true, false] (bodyOf Try.f50)
noncomputable def q50_14 : List Oper := ops [true, true, false, false, false, true, false] Try.f50
noncomputable def n50_15 : Code := sub [true, true, true] (bodyOf Try.f50)
noncomputable def n50_16 : Code := sub [true, true, true, false] (bodyOf Try.f50)
noncomputable def n50_17 : Code := sub [true, true, true, false, false] (bodyOf Try.f50)
noncomputable def n50_18 : Code := sub [true, true, true, false, false, false] (bodyOf Try.f50)
noncomputable def n50_19 : Code := sub [true, true, true, false, false, false, false] (bodyOf Try.f50)
noncomputable def n50_20 : Code := sub [true, true, true, false, false, false, false, false] (bodyOf Try.f50)
noncomputable def q50_20 : List Oper := ops [true, true, true, false, false, false, false, false] Try.f50
noncomputable def n50_21 : Code := sub [true, true, true, false, false, false, false, true] (bodyOf Try.f50)
noncomputable def n50_22 : Code := sub [true, true, true, false, false, false, false, true, false] (bodyOf Try.f50)
noncomputable def n50_23 : Code := sub [true, true, true, false, false, false, false, true, true] (bodyOf Try.f50)
noncomputable def n50_24 : Code := sub [true, true, true, false, false, false, true] (bodyOf Try.f50)
noncomputable def n50_25 : Code := sub [true, true, true, false, false, false, true, false] (bodyOf Try.f50)
noncomputable def q50_25 : List Oper := ops [true, true, true, false, false, false, true, false] Try.f50
noncomputable def n50_26 : Code := sub [true, true, true, true] (bodyOf Try.f50)
noncomputable def n50_27 : Code := sub [true, true, true, true, false] (bodyOf Try.f50)
noncomputable def q50_27 : List Oper := ops [true, true, true, true, false] Try.f50
noncomputable def n50_28 : Code := sub [true, true, true, true, true] (bodyOf Try.f50)
theorem body50 : Try.f50.body = some n50_0 := by kernel_rfl
theorem run50 (E : Ev) (args : List Value) (h : List Blk) (hl : args.length ≤ 19) : runB Try.prog E 50 args h = endS Try.prog [.tmp 4] h.length (codeB Try.prog E ⟨50, 19, h.length, none⟩ n50_0 ⟨enumT 0 args, h, []⟩) := GE.run_step Try.func50 body50 (by kernel_rfl) (by decide) (by kernel_rfl) hl
theorem n50_1s (E : Ev) (f : FuncId) (b : Nat) (ro : Option Nat) (st : St) : codeB Try.prog E ⟨f, 19, b, ro⟩ n50_1 st = plainS (runOps Try.prog E b q50_1 (ops [false] Try.f50) st) := GE.region_step (id := 0) (by kernel_rfl) (by kernel_rfl)
theorem n50_3s (E : Ev) (f : FuncId) (b : Nat) (ro : Option Nat) (st : St) : codeB Try.prog E ⟨f, 19, b, ro⟩ n50_3 st = plainS (runOps Try.prog E b q50_3 (ops [true, false] Try.f50) st) := GE.region_step (id := 1) (by kernel_rfl) (by kernel_rfl)
theorem n50_9s (E : Ev) (f : FuncId) (b : Nat) (ro : Option Nat) (st : St) : codeB Try.prog E ⟨f, 19, b, ro⟩ n50_9 st = plainS (runOps Try.prog E b q50_9 (ops [true, true, false, false, false, false, false] Try.f50) st) := GE.region_step (id := 2) (by kernel_rfl) (by kernel_rfl)
theorem n50_11s (E : Ev) (cx : Cx) (st : St) : codeB Try.prog E cx n50_11 st = some (.normal, st) := GE.skip_step (by kernel_rfl)
theorem n50_12s (E : Ev) (cx : Cx) (st : St) : codeB Try.prog E cx n50_12 st = some (.exit 0, st) := GE.exit_step (by kernel_rfl)
theorem n50_10s (E : Ev) (cx : Cx) (st : St) : codeB Try.prog E cx n50_10 st = condS (codeB Try.prog E cx n50_11) (codeB Try.prog E cx n50_12) (lk st.σ 11) st := GE.cond_step (c := .tmp 11) (by kernel_rfl)
theorem n50_8s (E : Ev) (cx : Cx) (st : St) : codeB Try.prog E cx n50_8 st = thenS (codeB Try.prog E cx n50_9 st) (codeB Try.prog E cx n50_10) := GE.seq_step (by kernel_rfl)
theorem n50_14s (E : Ev) (f : FuncId) (b : Nat) (ro : Option Nat) (st : St) : codeB Try.prog E ⟨f, 19, b, ro⟩ n50_14 st = plainS (runOps Try.prog E b q50_14 (ops [true, true, false, false, false, true, false] Try.f50) st) := GE.region_step (id := 3) (by kernel_rfl) (by kernel_rfl)
theorem n50_13s (E : Ev) (cx : Cx) (st : St) : codeB Try.prog E cx n50_13 st = blockS 1 (codeB Try.prog E cx n50_14 st) st := GE.block_step (by kernel_rfl)
theorem n50_7s (E : Ev) (cx : Cx) (st : St) : codeB Try.prog E cx n50_7 st = thenS (codeB Try.prog E cx n50_8 st) (codeB Try.prog E cx n50_13) := GE.seq_step (by kernel_rfl)
theorem n50_6s (E : Ev) (cx : Cx) (st : St) : codeB Try.prog E cx n50_6 st = loopS (fun st' => E.code cx n50_6 st') cx.base (codeB Try.prog E cx n50_7 st) st := GE.loop_step (by kernel_rfl)
theorem n50_5s (E : Ev) (cx : Cx) (st : St) : codeB Try.prog E cx n50_5 st = blockS 0 (codeB Try.prog E cx n50_6 st) st := GE.block_step (by kernel_rfl)
theorem n50_20s (E : Ev) (f : FuncId) (b : Nat) (ro : Option Nat) (st : St) : codeB Try.prog E ⟨f, 19, b, ro⟩ n50_20 st = plainS (runOps Try.prog E b q50_20 (ops [true, true, true, false, false, false, false, false] Try.f50) st) := GE.region_step (id := 4) (by kernel_rfl) (by kernel_rfl)
theorem n50_22s (E : Ev) (cx : Cx) (st : St) : codeB Try.prog E cx n50_22 st = some (.normal, st) := GE.skip_step (by kernel_rfl)
theorem n50_23s (E : Ev) (cx : Cx) (st : St) : codeB Try.prog E cx n50_23 st = some (.exit 2, st) := GE.exit_step (by kernel_rfl)
theorem n50_21s (E : Ev) (cx : Cx) (st : St) : codeB Try.prog E cx n50_21 st = condS (codeB Try.prog E cx n50_22) (codeB Try.prog E cx n50_23) (lk st.σ 15) st := GE.cond_step (c := .tmp 15) (by kernel_rfl)
theorem n50_19s (E : Ev) (cx : Cx) (st : St) : codeB Try.prog E cx n50_19 st = thenS (codeB Try.prog E cx n50_20 st) (codeB Try.prog E cx n50_21) := GE.seq_step (by kernel_rfl)
theorem n50_25s (E : Ev) (f : FuncId) (b : Nat) (ro : Option Nat) (st : St) : codeB Try.prog E ⟨f, 19, b, ro⟩ n50_25 st = plainS (runOps Try.prog E b q50_25 (ops [true, true, true, false, false, false, true, false] Try.f50) st) := GE.region_step (id := 5) (by kernel_rfl) (by kernel_rfl)
theorem n50_24s (E : Ev) (cx : Cx) (st : St) : codeB Try.prog E cx n50_24 st = blockS 3 (codeB Try.prog E cx n50_25 st) st := GE.block_step (by kernel_rfl)
theorem n50_18s (E : Ev) (cx : Cx) (st : St) : codeB Try.prog E cx n50_18 st = thenS (codeB Try.prog E cx n50_19 st) (codeB Try.prog E cx n50_24) := GE.seq_step (by kernel_rfl)
theorem n50_17s (E : Ev) (cx : Cx) (st : St) : codeB Try.prog E cx n50_17 st = loopS (fun st' => E.code cx n50_17 st') cx.base (codeB Try.prog E cx n50_18 st) st := GE.loop_step (by kernel_rfl)
theorem n50_16s (E : Ev) (cx : Cx) (st : St) : codeB Try.prog E cx n50_16 st = blockS 2 (codeB Try.prog E cx n50_17 st) st := GE.block_step (by kernel_rfl)
theorem n50_27s (E : Ev) (f : FuncId) (b : Nat) (ro : Option Nat) (st : St) : codeB Try.prog E ⟨f, 19, b, ro⟩ n50_27 st = plainS (runOps Try.prog E b q50_27 (ops [true, true, true, true, false] Try.f50) st) := GE.region_step (id := 6) (by kernel_rfl) (by kernel_rfl)
theorem n50_28s (E : Ev) (cx : Cx) (st : St) : codeB Try.prog E cx n50_28 st = some (.ret, st) := GE.ret_step (by kernel_rfl)
theorem n50_26s (E : Ev) (cx : Cx) (st : St) : codeB Try.prog E cx n50_26 st = thenS (codeB Try.prog E cx n50_27 st) (codeB Try.prog E cx n50_28) := GE.seq_step (by kernel_rfl)
theorem n50_15s (E : Ev) (cx : Cx) (st : St) : codeB Try.prog E cx n50_15 st = thenS (codeB Try.prog E cx n50_16 st) (codeB Try.prog E cx n50_26) := GE.seq_step (by kernel_rfl)
theorem n50_4s (E : Ev) (cx : Cx) (st : St) : codeB Try.prog E cx n50_4 st = thenS (codeB Try.prog E cx n50_5 st) (codeB Try.prog E cx n50_15) := GE.seq_step (by kernel_rfl)
theorem n50_2s (E : Ev) (cx : Cx) (st : St) : codeB Try.prog E cx n50_2 st = thenS (codeB Try.prog E cx n50_3 st) (codeB Try.prog E cx n50_4) := GE.seq_step (by kernel_rfl)
theorem n50_0s (E : Ev) (cx : Cx) (st : St) : codeB Try.prog E cx n50_0 st = thenS (codeB Try.prog E cx n50_1 st) (codeB Try.prog E cx n50_2) := GE.seq_step (by kernel_rfl)
noncomputable def n53_0 : Code := sub [] (bodyOf Try.f53)
noncomputable def n53_1 : Code := sub [false] (bodyOf Try.f53)
noncomputable def q53_1 : List Oper := ops [false] Try.f53
noncomputable def n53_2 : Code := sub [true] (bodyOf Try.f53)
noncomputable def n53_3 : Code := sub [true, false] (bodyOf Try.f53)
noncomputable def q53_3 : List Oper := ops [true, false] Try.f53
noncomputable def n53_4 : Code := sub [true, true] (bodyOf Try.f53)
theorem body53 : Try.f53.body = some n53_0 := by kernel_rfl
theorem run53 (E : Ev) (args : List Value) (h : List Blk) (hl : args.length ≤ 6) : runB Try.prog E 53 args h = endS Try.prog [.tmp 4] h.length (codeB Try.prog E ⟨53, 6, h.length, none⟩ n53_0 ⟨enumT 0 args, h, []⟩) := GE.run_step Try.func53 body53 (by kernel_rfl) (by decide) (by kernel_rfl) hl
theorem n53_1s (E : Ev) (f : FuncId) (b : Nat) (ro : Option Nat) (st : St) : codeB Try.prog E ⟨f, 6, b, ro⟩ n53_1 st = plainS (runOps Try.prog E b q53_1 (ops [false] Try.f53) st) := GE.region_step (id := 0) (by kernel_rfl) (by kernel_rfl)
theorem n53_3s (E : Ev) (f : FuncId) (b : Nat) (ro : Option Nat) (st : St) : codeB Try.prog E ⟨f, 6, b, ro⟩ n53_3 st = plainS (runOps Try.prog E b q53_3 (ops [true, false] Try.f53) st) := GE.region_step (id := 1) (by kernel_rfl) (by kernel_rfl)
theorem n53_4s (E : Ev) (cx : Cx) (st : St) : codeB Try.prog E cx n53_4 st = some (.ret, st) := GE.ret_step (by kernel_rfl)
theorem n53_2s (E : Ev) (cx : Cx) (st : St) : codeB Try.prog E cx n53_2 st = thenS (codeB Try.prog E cx n53_3 st) (codeB Try.prog E cx n53_4) := GE.seq_step (by kernel_rfl)
theorem n53_0s (E : Ev) (cx : Cx) (st : St) : codeB Try.prog E cx n53_0 st = thenS (codeB Try.prog E cx n53_1 st) (codeB Try.prog E cx n53_2) := GE.seq_step (by kernel_rfl)
noncomputable def n54_0 : Code := sub [] (bodyOf Try.f54)
noncomputable def n54_1 : Code := sub [false] (bodyOf Try.f54)
noncomputable def q54_1 : List Oper := ops [false] Try.f54
noncomputable def n54_2 : Code := sub [true] (bodyOf Try.f54)
noncomputable def n54_3 : Code := sub [true, false] (bodyOf Try.f54)
noncomputable def n54_4 : Code := sub [true, false, false] (bodyOf Try.f54)
noncomputable def q54_4 : List Oper := ops [true, false, false] Try.f54
noncomputable def n54_5 : Code := sub [true, false, true] (bodyOf Try.f54)
noncomputable def n54_6 : Code := sub [true, false, true, false] (bodyOf Try.f54)
noncomputable def n54_7 : Code := sub [true, false, true, false, false] (bodyOf Try.f54)
noncomputable def q54_7 : List Oper := ops [true, false, true, false, false] Try.f54
noncomputable def n54_8 : Code := sub [true, false, true, false, true] (bodyOf Try.f54)
noncomputable def n54_9 : Code := sub [true, false, true, true] (bodyOf Try.f54)
noncomputable def n54_10 : Code := sub [true, true] (bodyOf Try.f54)
noncomputable def n54_11 : Code := sub [true, true, false] (bodyOf Try.f54)
noncomputable def q54_11 : List Oper := ops [true, true, false] Try.f54
noncomputable def n54_12 : Code := sub [true, true, true] (bodyOf Try.f54)
noncomputable def n54_13 : Code := sub [true, true, true, false] (bodyOf Try.f54)
noncomputable def q54_13 : List Oper := ops [true, true, true, false] Try.f54
noncomputable def n54_14 : Code := sub [true, true, true, true] (bodyOf Try.f54)
noncomputable def n54_15 : Code := sub [true, true, true, true, false] (bodyOf Try.f54)
noncomputable def n54_16 : Code := sub [true, true, true, true, false, false] (bodyOf Try.f54)
noncomputable def q54_16 : List Oper := ops [true, true, true, true, false, false] Try.f54
noncomputable def n54_17 : Code := sub [true, true, true, true, false, true] (bodyOf Try.f54)
noncomputable def n54_18 : Code := sub [true, true, true, true, false, true, false] (bodyOf Try.f54)
noncomputable def n54_19 : Code := sub [true, true, true, true, false, true, false, false] (bodyOf Try.f54)
noncomputable def n54_20 : Code := sub [true, true, true, true, false, true, false, false, false] (bodyOf Try.f54)
noncomputable def q54_20 : List Oper := ops [true, true, true, true, false, true, false, false, false] Try.f54
noncomputable def n54_21 : Code := sub [true, true, true, true, false, true, false, false, true] (bodyOf Try.f54)
noncomputable def n54_22 : Code := sub [true, true, true, true, false, true, false, false, true, false] (bodyOf Try.f54)
noncomputable def n54_23 : Code := sub [true, true, true, true, false, true, false, false, true, false, false] (bodyOf Try.f54)
noncomputable def n54_24 : Code := sub [true, true, true, true, false, true, false, false, true, false, true] (bodyOf Try.f54)
noncomputable def n54_25 : Code := sub [true, true, true, true, false, true, false, false, true, true] (bodyOf Try.f54)
noncomputable def n54_26 : Code := sub [true, true, true, true, false, true, false, false, true, true, false] (bodyOf Try.f54)
noncomputable def n54_27 : Code := sub [true, true, true, true, false, true, false, false, true, true, false, false] (bodyOf Try.f54)
noncomputable def n54_28 : Code := sub [true, true, true, true, false, true, false, false, true, true, false, false, false] (bodyOf Try.f54)
noncomputable def q54_28 : List Oper := ops [true, true, true, true, false, true, false, false, true, true, false, false, false] Try.f54
noncomputable def n54_29 : Code := sub [true, true, true, true, false, true, false, false, true, true, false, false, true] (bodyOf Try.f54)
noncomputable def n54_30 : Code := sub [true, true, true, true, false, true, false, false, true, true, false, false, true, false] (bodyOf Try.f54)
noncomputable def q54_30 : List Oper := ops [true, true, true, true, false, true, false, false, true, true, false, false, true, false] Try.f54
noncomputable def n54_31 : Code := sub [true, true, true, true, false, true, false, false, true, true, false, false, true, true] (bodyOf Try.f54)
noncomputable def n54_32 : Code := sub [true, true, true, true, false, true, false, false, true, true, false, false, true, true, false] (bodyOf Try.f54)
noncomputable def q54_32 : List Oper := ops [true, true, true, true, false, true, false, false, true, true, false, false, true, true, false] Try.f54
noncomputable def n54_33 : Code := sub [true, true, true, true, false, true, false, false, true, true, false, false, true, true, true] (bodyOf Try.f54)
noncomputable def n54_34 : Code := sub [true, true, true, true, false, true, false, false, true, true, false, false, true, true, true, false] (bodyOf Try.f54)
noncomputable def q54_34 : List Oper := ops [true, true, true, true, false, true, false, false, true, true, false, false, true, true, true, false] Try.f54
noncomputable def n54_35 : Code := sub [true, true, true, true, false, true, false, false, true, true, false, false, true, true, true, true] (bodyOf Try.f54)
noncomputable def n54_36 : Code := sub [true, true, true, true, false, true, false, false, true, true, false, false, true, true, true, true, false] (bodyOf Try.f54)
noncomputable def q54_36 : List Oper := ops [true, true, true, true, false, true, false, false, true, true, false, false, true, true, true, true, false] Try.f54
noncomputable def n54_37 : Code := sub [true, true, true, true, false, true, false, false, true, true, false, false, true, true, true, true, true] (bodyOf Try.f54)
noncomputable def n54_38 : Code := sub [true, true, true, true, false, true, false, false, true, true, true] (bodyOf Try.f54)
noncomputable def q54_38 : List Oper := ops [true, true, true, true, false, true, false, false, true, true, true] Try.f54
noncomputable def n54_39 : Code := sub [true, true, true, true, true] (bodyOf Try.f54)
noncomputable def n54_40 : Code := sub [true, true, true, true, true, false] (bodyOf Try.f54)
noncomputable def q54_40 : List Oper := ops [true, true, true, true, true, false] Try.f54
noncomputable def n54_41 : Code := sub [true, true, true, true, true, true] (bodyOf Try.f54)
noncomputable def n54_42 : Code := sub [true, true, true, true, true, true, false] (bodyOf Try.f54)
noncomputable def q54_42 : List Oper := ops [true, true, true, true, true, true, false] Try.f54
noncomputable def n54_43 : Code := sub [true, true, true, true, true, true, true] (bodyOf Try.f54)
theorem body54 : Try.f54.body = some n54_0 := by kernel_rfl
theorem run54 (E : Ev) (args : List Value) (h : List Blk) (hl : args.length ≤ 98) : runB Try.prog E 54 args h = endS Try.prog [.tmp 4] h.length (codeB Try.prog E ⟨54, 98, h.length, none⟩ n54_0 ⟨enumT 0 args, h, []⟩) := GE.run_step Try.func54 body54 (by kernel_rfl) (by decide) (by kernel_rfl) hl
theorem n54_1s (E : Ev) (f : FuncId) (b : Nat) (ro : Option Nat) (st : St) : codeB Try.prog E ⟨f, 98, b, ro⟩ n54_1 st = plainS (runOps Try.prog E b q54_1 (ops [false] Try.f54) st) := GE.region_step (id := 0) (by kernel_rfl) (by kernel_rfl)
theorem q54_4g3 : gd q54_4 3 = some 15 := by kernel_rfl
theorem q54_4g8 : gd q54_4 8 = some 20 := by kernel_rfl
theorem n54_4s (E : Ev) (f : FuncId) (b : Nat) (ro : Option Nat) (st : St) : codeB Try.prog E ⟨f, 98, b, ro⟩ n54_4 st = drawS [0, 1, 3, 7, 15, 31, 63, 127, 255, 511, 511, 1535, 511, 4607, 1023, 17407, 53247, 131071, 262143, 524287, 1048575] (runOpsF Try.prog E b q54_4 (ops [true, false, false] Try.f54) st) := GE.draw_step (id := 1) (by kernel_rfl) (by kernel_rfl) (by kernel_rfl) (by kernel_rfl)
theorem n54_7s (E : Ev) (f : FuncId) (b : Nat) (ro : Option Nat) (st : St) : codeB Try.prog E ⟨f, 98, b, ro⟩ n54_7 st = drawS [0, 0, 2, 0, 8, 1, 33, 103, 255, 511, 1023] (runOpsF Try.prog E b q54_7 (ops [true, false, true, false, false] Try.f54) st) := GE.draw_step (id := 2) (by kernel_rfl) (by kernel_rfl) (by kernel_rfl) (by kernel_rfl)
theorem n54_8s (E : Ev) (cx : Cx) (st : St) : codeB Try.prog E cx n54_8 st = some (.ret, st) := GE.ret_step (by kernel_rfl)
theorem n54_6s (E : Ev) (cx : Cx) (st : St) : codeB Try.prog E cx n54_6 st = thenS (codeB Try.prog E cx n54_7 st) (codeB Try.prog E cx n54_8) := GE.seq_step (by kernel_rfl)
theorem n54_9s (E : Ev) (cx : Cx) (st : St) : codeB Try.prog E cx n54_9 st = some (.normal, st) := GE.skip_step (by kernel_rfl)
theorem n54_5s (E : Ev) (cx : Cx) (st : St) : codeB Try.prog E cx n54_5 st = condS (codeB Try.prog E cx n54_6) (codeB Try.prog E cx n54_9) (lk st.σ 32) st := GE.cond_step (c := .tmp 32) (by kernel_rfl)
theorem n54_3s (E : Ev) (cx : Cx) (st : St) : codeB Try.prog E cx n54_3 st = thenS (codeB Try.prog E cx n54_4 st) (codeB Try.prog E cx n54_5) := GE.seq_step (by kernel_rfl)
theorem n54_11s (E : Ev) (f : FuncId) (b : Nat) (ro : Option Nat) (st : St) : codeB Try.prog E ⟨f, 98, b, ro⟩ n54_11 st = plainS (runOps Try.prog E b q54_11 (ops [true, true, false] Try.f54) st) := GE.region_step (id := 3) (by kernel_rfl) (by kernel_rfl)
theorem n54_13s (E : Ev) (f : FuncId) (b : Nat) (ro : Option Nat) (st : St) : codeB Try.prog E ⟨f, 98, b, ro⟩ n54_13 st = plainS (runOps Try.prog E b q54_13 (ops [true, true, true, false] Try.f54) st) := GE.region_step (id := 4) (by kernel_rfl) (by kernel_rfl)
theorem n54_16s (E : Ev) (f : FuncId) (b : Nat) (ro : Option Nat) (st : St) : codeB Try.prog E ⟨f, 98, b, ro⟩ n54_16 st = plainS (runOps Try.prog E b q54_16 (ops [true, true, true, true, false, false] Try.f54) st) := GE.region_step (id := 5) (by kernel_rfl) (by kernel_rfl)
theorem n54_20s (E : Ev) (f : FuncId) (b : Nat) (ro : Option Nat) (st : St) : codeB Try.prog E ⟨f, 98, b, ro⟩ n54_20 st = plainS (runOps Try.prog E b q54_20 (ops [true, true, true, true, false, true, false, false, false] Try.f54) st) := GE.region_step (id := 6) (by kernel_rfl) (by kernel_rfl)
theorem n54_23s (E : Ev) (cx : Cx) (st : St) : codeB Try.prog E cx n54_23 st = some (.normal, st) := GE.skip_step (by kernel_rfl)
theorem n54_24s (E : Ev) (cx : Cx) (st : St) : codeB Try.prog E cx n54_24 st = some (.exit 0, st) := GE.exit_step (by kernel_rfl)
theorem n54_22s (E : Ev) (cx : Cx) (st : St) : codeB Try.prog E cx n54_22 st = condS (codeB Try.prog E cx n54_23) (codeB Try.prog E cx n54_24) (lk st.σ 47) st := GE.cond_step (c := .tmp 47) (by kernel_rfl)
theorem n54_28s (E : Ev) (f : FuncId) (b : Nat) (ro : Option Nat) (st : St) : codeB Try.prog E ⟨f, 98, b, ro⟩ n54_28 st = plainS (runOps Try.prog E b q54_28 (ops [true, true, true, true, false, true, false, false, true, true, false, false, false] Try.f54) st) := GE.region_step (id := 7) (by kernel_rfl) (by kernel_rfl)
theorem n54_30s (E : Ev) (f : FuncId) (b : Nat) (ro : Option Nat) (st : St) : codeB Try.prog E ⟨f, 98, b, ro⟩ n54_30 st = plainS (runOps Try.prog E b q54_30 (ops [true, true, true, true, false, true, false, false, true, true, false, false, true, false] Try.f54) st) := GE.region_step (id := 8) (by kernel_rfl) (by kernel_rfl)
theorem n54_32s (E : Ev) (f : FuncId) (b : Nat) (ro : Option Nat) (st : St) : codeB Try.prog E ⟨f, 98, b, ro⟩ n54_32 st = drawS [0, 0, 3, 0, 0, 31, 0, 0, 255, 511, 1023, 2047] (runOpsF Try.prog E b q54_32 (ops [true, true, true, true, false, true, false, false, true, true, false, false, true, true, false] Try.f54) st) := GE.draw_step (id := 9) (by kernel_rfl) (by kernel_rfl) (by kernel_rfl) (by kernel_rfl)
theorem q54_34g2 : gd q54_34 2 = some 69 := by kernel_rfl
theorem n54_34s (E : Ev) (f : FuncId) (b : Nat) (ro : Option Nat) (st : St) : codeB Try.prog E ⟨f, 98, b, ro⟩ n54_34 st = plainS (runOps Try.prog E b q54_34 (ops [true, true, true, true, false, true, false, false, true, true, false, false, true, true, true, false] Try.f54) st) := GE.region_step (id := 10) (by kernel_rfl) (by kernel_rfl)
theorem n54_36s (E : Ev) (f : FuncId) (b : Nat) (ro : Option Nat) (st : St) : codeB Try.prog E ⟨f, 98, b, ro⟩ n54_36 st = plainS (runOps Try.prog E b q54_36 (ops [true, true, true, true, false, true, false, false, true, true, false, false, true, true, true, true, false] Try.f54) st) := GE.region_step (id := 11) (by kernel_rfl) (by kernel_rfl)
theorem n54_37s (E : Ev) (cx : Cx) (st : St) : codeB Try.prog E cx n54_37 st = some (.normal, st) := GE.skip_step (by kernel_rfl)
theorem n54_35s (E : Ev) (cx : Cx) (st : St) : codeB Try.prog E cx n54_35 st = condS (codeB Try.prog E cx n54_36) (codeB Try.prog E cx n54_37) (lk st.σ 73) st := GE.cond_step (c := .tmp 73) (by kernel_rfl)
theorem n54_33s (E : Ev) (cx : Cx) (st : St) : codeB Try.prog E cx n54_33 st = thenS (codeB Try.prog E cx n54_34 st) (codeB Try.prog E cx n54_35) := GE.seq_step (by kernel_rfl)
theorem n54_31s (E : Ev) (cx : Cx) (st : St) : codeB Try.prog E cx n54_31 st = thenS (codeB Try.prog E cx n54_32 st) (codeB Try.prog E cx n54_33) := GE.seq_step (by kernel_rfl)
theorem n54_29s (E : Ev) (cx : Cx) (st : St) : codeB Try.prog E cx n54_29 st = thenS (codeB Try.prog E cx n54_30 st) (codeB Try.prog E cx n54_31) := GE.seq_step (by kernel_rfl)
theorem n54_27s (E : Ev) (cx : Cx) (st : St) : codeB Try.prog E cx n54_27 st = thenS (codeB Try.prog E cx n54_28 st) (codeB Try.prog E cx n54_29) := GE.seq_step (by kernel_rfl)
theorem n54_26s (E : Ev) (cx : Cx) (st : St) : codeB Try.prog E cx n54_26 st = blockS 1 (codeB Try.prog E cx n54_27 st) st := GE.block_step (by kernel_rfl)
theorem n54_38s (E : Ev) (f : FuncId) (b : Nat) (ro : Option Nat) (st : St) : codeB Try.prog E ⟨f, 98, b, ro⟩ n54_38 st = plainS (runOps Try.prog E b q54_38 (ops [true, true, true, true, false, true, false, false, true, true, true] Try.f54) st) := GE.region_step (id := 12) (by kernel_rfl) (by kernel_rfl)
theorem n54_25s (E : Ev) (cx : Cx) (st : St) : codeB Try.prog E cx n54_25 st = thenS (codeB Try.prog E cx n54_26 st) (codeB Try.prog E cx n54_38) := GE.seq_step (by kernel_rfl)
theorem n54_21s (E : Ev) (cx : Cx) (st : St) : codeB Try.prog E cx n54_21 st = thenS (codeB Try.prog E cx n54_22 st) (codeB Try.prog E cx n54_25) := GE.seq_step (by kernel_rfl)
theorem n54_19s (E : Ev) (cx : Cx) (st : St) : codeB Try.prog E cx n54_19 st = thenS (codeB Try.prog E cx n54_20 st) (codeB Try.prog E cx n54_21) := GE.seq_step (by kernel_rfl)
theorem n54_18s (E : Ev) (cx : Cx) (st : St) : codeB Try.prog E cx n54_18 st = loopS (fun st' => E.code cx n54_18 st') cx.base (codeB Try.prog E cx n54_19 st) st := GE.loop_step (by kernel_rfl)
theorem n54_17s (E : Ev) (cx : Cx) (st : St) : codeB Try.prog E cx n54_17 st = blockS 0 (codeB Try.prog E cx n54_18 st) st := GE.block_step (by kernel_rfl)
theorem n54_15s (E : Ev) (cx : Cx) (st : St) : codeB Try.prog E cx n54_15 st = thenS (codeB Try.prog E cx n54_16 st) (codeB Try.prog E cx n54_17) := GE.seq_step (by kernel_rfl)
theorem n54_40s (E : Ev) (f : FuncId) (b : Nat) (ro : Option Nat) (st : St) : codeB Try.prog E ⟨f, 98, b, ro⟩ n54_40 st = drawS [0, 0, 2, 0, 8, 0, 0, 64, 0, 256, 0, 0, 1, 4097, 12295, 29727, 62495, 32, 131104, 393440, 1048575, 2097151] (runOpsF Try.prog E b q54_40 (ops [true, true, true, true, true, false] Try.f54) st) := GE.draw_step (id := 13) (by kernel_rfl) (by kernel_rfl) (by kernel_rfl) (by kernel_rfl)
theorem n54_42s (E : Ev) (f : FuncId) (b : Nat) (ro : Option Nat) (st : St) : codeB Try.prog E ⟨f, 98, b, ro⟩ n54_42 st = plainS (runOps Try.prog E b q54_42 (ops [true, true, true, true, true, true, false] Try.f54) st) := GE.region_step (id := 14) (by kernel_rfl) (by kernel_rfl)
theorem n54_43s (E : Ev) (cx : Cx) (st : St) : codeB Try.prog E cx n54_43 st = some (.ret, st) := GE.ret_step (by kernel_rfl)
theorem n54_41s (E : Ev) (cx : Cx) (st : St) : codeB Try.prog E cx n54_41 st = thenS (codeB Try.prog E cx n54_42 st) (codeB Try.prog E cx n54_43) := GE.seq_step (by kernel_rfl)
theorem n54_39s (E : Ev) (cx : Cx) (st : St) : codeB Try.prog E cx n54_39 st = thenS (codeB Try.prog E cx n54_40 st) (codeB Try.prog E cx n54_41) := GE.seq_step (by kernel_rfl)
theorem n54_14s (E : Ev) (cx : Cx) (st : St) : codeB Try.prog E cx n54_14 st = thenS (codeB Try.prog E cx n54_15 st) (codeB Try.prog E cx n54_39) := GE.seq_step (by kernel_rfl)
theorem n54_12s (E : Ev) (cx : Cx) (st : St) : codeB Try.prog E cx n54_12 st = thenS (codeB Try.prog E cx n54_13 st) (codeB Try.prog E cx n54_14) := GE.seq_step (by kernel_rfl)
theorem n54_10s (E : Ev) (cx : Cx) (st : St) : codeB Try.prog E cx n54_10 st = thenS (codeB Try.prog E cx n54_11 st) (codeB Try.prog E cx n54_12) := GE.seq_step (by kernel_rfl)
theorem n54_2s (E : Ev) (cx : Cx) (st : St) : codeB Try.prog E cx n54_2 st = thenS (codeB Try.prog E cx n54_3 st) (codeB Try.prog E cx n54_10) := GE.seq_step (by kernel_rfl)
theorem n54_0s (E : Ev) (cx : Cx) (st : St) : codeB Try.prog E cx n54_0 st = thenS (codeB Try.prog E cx n54_1 st) (codeB Try.prog E cx n54_2) := GE.seq_step (by kernel_rfl)
noncomputable def n55_0 : Code := sub [] (bodyOf Try.f55)
noncomputable def n55_1 : Code := sub [false] (bodyOf Try.f55)
noncomputable def q55_1 : List Oper := ops [false] Try.f55
noncomputable def n55_2 : Code := sub [true] (bodyOf Try.f55)
noncomputable def n55_3 : Code := sub [true, false] (bodyOf Try.f55)
noncomputable def q55_3 : List Oper := ops [true, false] Try.f55
noncomputable def n55_4 : Code := sub [true, true] (bodyOf Try.f55)
noncomputable def n55_5 : Code := sub [true, true, false] (bodyOf Try.f55)
noncomputable def n55_6 : Code := sub [true, true, false, false] (bodyOf Try.f55)
noncomputable def q55_6 : List Oper := ops [true, true, false, false] Try.f55
noncomputable def n55_7 : Code := sub [true, true, false, true] (bodyOf Try.f55)
noncomputable def n55_8 : Code := sub [true, true, false, true, false] (bodyOf Try.f55)
noncomputable def n55_9 : Code := sub [true, true, false, true, false, false] (bodyOf Try.f55)
noncomputable def n55_10 : Code := sub [true, true, false, true, false, false, false] (bodyOf Try.f55)
noncomputable def n55_11 : Code := sub [true, true, false, true, false, false, false, false] (bodyOf Try.f55)
noncomputable def q55_11 : List Oper := ops [true, true, false, true, false, false, false, false] Try.f55
noncomputable def n55_12 : Code := sub [true, true, false, true, false, false, false, true] (bodyOf Try.f55)
noncomputable def n55_13 : Code := sub [true, true, false, true, false, false, false, true, false] (bodyOf Try.f55)
noncomputable def n55_14 : Code := sub [true, true, false, true, false, false, false, true, true] (bodyOf Try.f55)
noncomputable def n55_15 : Code := sub [true, true, false, true, false, false, true] (bodyOf Try.f55)
noncomputable def n55_16 : Code := sub [true, true, false, true, false, false, true, false] (bodyOf Try.f55)
noncomputable def n55_17 : Code := sub [true, true, false, true, false, false, true, false, false] (bodyOf Try.f55)
noncomputable def q55_17 : List Oper := ops [true, true, false, true, false, false, true, false, false] Try.f55
noncomputable def n55_18 : Code := sub [true, true, false, true, false, false, true, true] (bodyOf Try.f55)
noncomputable def q55_18 : List Oper := ops [true, true, false, true, false, false, true, true] Try.f55
noncomputable def n55_19 : Code := sub [true, true, true] (bodyOf Try.f55)
noncomputable def n55_20 : Code := sub [true, true, true, false] (bodyOf Try.f55)
noncomputable def n55_21 : Code := sub [true, true, true, false, false] (bodyOf Try.f55)
noncomputable def q55_21 : List Oper := ops [true, true, true, false, false] Try.f55
noncomputable def n55_22 : Code := sub [true, true, true, false, true] (bodyOf Try.f55)
noncomputable def n55_23 : Code := sub [true, true, true, false, true, false] (bodyOf Try.f55)
noncomputable def n55_24 : Code := sub [true, true, true, false, true, false, false] (bodyOf Try.f55)
noncomputable def n55_25 : Code := sub [true, true, true, false, true, false, false, false] (bodyOf Try.f55)
noncomputable def n55_26 : Code := sub [true, true, true, false, true, false, false, false, false] (bodyOf Try.f55)
noncomputable def q55_26 : List Oper := ops [true, true, true, false, true, false, false, false, false] Try.f55
noncomputable def n55_27 : Code := sub [true, true, true, false, true, false, false, false, true] (bodyOf Try.f55)
noncomputable def n55_28 : Code := sub [true, true, true, false, true, false, false, false, true, false] (bodyOf Try.f55)
noncomputable def n55_29 : Code := sub [true, true, true, false, true, false, false, false, true, true] (bodyOf Try.f55)
noncomputable def n55_30 : Code := sub [true, true, true, false, true, false, false, true] (bodyOf Try.f55)
noncomputable def n55_31 : Code := sub [true, true, true, false, true, false, false, true, false] (bodyOf Try.f55)
noncomputable def n55_32 : Code := sub [true, true, true, false, true, false, false, true, false, false] (bodyOf Try.f55)
noncomputable def q55_32 : List Oper := ops [true, true, true, false, true, false, false, true, false, false] Try.f55
noncomputable def n55_33 : Code := sub [true, true, true, false, true, false, false, true, true] (bodyOf Try.f55)
noncomputable def q55_33 : List Oper := ops [true, true, true, false, true, false, false, true, true] Try.f55
noncomputable def n55_34 : Code := sub [true, true, true, true] (bodyOf Try.f55)
noncomputable def n55_35 : Code := sub [true, true, true, true, false] (bodyOf Try.f55)
noncomputable def q55_35 : List Oper := ops [true, true, true, true, false] Try.f55
noncomputable def n55_36 : Code := sub [true, true, true, true, true] (bodyOf Try.f55)
theorem body55 : Try.f55.body = some n55_0 := by kernel_rfl
theorem run55 (E : Ev) (args : List Value) (h : List Blk) (hl : args.length ≤ 29) : runB Try.prog E 55 args h = endS Try.prog [.tmp 2] h.length (codeB Try.prog E ⟨55, 29, h.length, none⟩ n55_0 ⟨enumT 0 args, h, []⟩) := GE.run_step Try.func55 body55 (by kernel_rfl) (by decide) (by kernel_rfl) hl
theorem n55_1s (E : Ev) (f : FuncId) (b : Nat) (ro : Option Nat) (st : St) : codeB Try.prog E ⟨f, 29, b, ro⟩ n55_1 st = plainS (runOps Try.prog E b q55_1 (ops [false] Try.f55) st) := GE.region_step (id := 0) (by kernel_rfl) (by kernel_rfl)
theorem n55_3s (E : Ev) (f : FuncId) (b : Nat) (ro : Option Nat) (st : St) : codeB Try.prog E ⟨f, 29, b, ro⟩ n55_3 st = plainS (runOps Try.prog E b q55_3 (ops [true, false] Try.f55) st) := GE.region_step (id := 1) (by kernel_rfl) (by kernel_rfl)
theorem n55_6s (E : Ev) (f : FuncId) (b : Nat) (ro : Option Nat) (st : St) : codeB Try.prog E ⟨f, 29, b, ro⟩ n55_6 st = plainS (runOps Try.prog E b q55_6 (ops [true, true, false, false] Try.f55) st) := GE.region_step (id := 2) (by kernel_rfl) (by kernel_rfl)
theorem n55_11s (E : Ev) (f : FuncId) (b : Nat) (ro : Option Nat) (st : St) : codeB Try.prog E ⟨f, 29, b, ro⟩ n55_11 st = plainS (runOps Try.prog E b q55_11 (ops [true, true, false, true, false, false, false, false] Try.f55) st) := GE.region_step (id := 3) (by kernel_rfl) (by kernel_rfl)
theorem n55_13s (E : Ev) (cx : Cx) (st : St) : codeB Try.prog E cx n55_13 st = some (.normal, st) := GE.skip_step (by kernel_rfl)
theorem n55_14s (E : Ev) (cx : Cx) (st : St) : codeB Try.prog E cx n55_14 st = some (.exit 0, st) := GE.exit_step (by kernel_rfl)
theorem n55_12s (E : Ev) (cx : Cx) (st : St) : codeB Try.prog E cx n55_12 st = condS (codeB Try.prog E cx n55_13) (codeB Try.prog E cx n55_14) (lk st.σ 9) st := GE.cond_step (c := .tmp 9) (by kernel_rfl)
theorem n55_10s (E : Ev) (cx : Cx) (st : St) : codeB Try.prog E cx n55_10 st = thenS (codeB Try.prog E cx n55_11 st) (codeB Try.prog E cx n55_12) := GE.seq_step (by kernel_rfl)
theorem n55_17s (E : Ev) (f : FuncId) (b : Nat) (ro : Option Nat) (st : St) : codeB Try.prog E ⟨f, 29, b, ro⟩ n55_17 st = plainS (runOps Try.prog E b q55_17 (ops [true, true, false, true, false, false, true, false, false] Try.f55) st) := GE.region_step (id := 5) (by kernel_rfl) (by kernel_rfl)
theorem n55_16s (E : Ev) (cx : Cx) (st : St) : codeB Try.prog E cx n55_16 st = blockS 1 (codeB Try.prog E cx n55_17 st) st := GE.block_step (by kernel_rfl)
theorem n55_18s (E : Ev) (f : FuncId) (b : Nat) (ro : Option Nat) (st : St) : codeB Try.prog E ⟨f, 29, b, ro⟩ n55_18 st = plainS (runOps Try.prog E b q55_18 (ops [true, true, false, true, false, false, true, true] Try.f55) st) := GE.region_step (id := 4) (by kernel_rfl) (by kernel_rfl)
theorem n55_15s (E : Ev) (cx : Cx) (st : St) : codeB Try.prog E cx n55_15 st = thenS (codeB Try.prog E cx n55_16 st) (codeB Try.prog E cx n55_18) := GE.seq_step (by kernel_rfl)
theorem n55_9s (E : Ev) (cx : Cx) (st : St) : codeB Try.prog E cx n55_9 st = thenS (codeB Try.prog E cx n55_10 st) (codeB Try.prog E cx n55_15) := GE.seq_step (by kernel_rfl)
theorem n55_8s (E : Ev) (cx : Cx) (st : St) : codeB Try.prog E cx n55_8 st = loopS (fun st' => E.code cx n55_8 st') cx.base (codeB Try.prog E cx n55_9 st) st := GE.loop_step (by kernel_rfl)
theorem n55_7s (E : Ev) (cx : Cx) (st : St) : codeB Try.prog E cx n55_7 st = blockS 0 (codeB Try.prog E cx n55_8 st) st := GE.block_step (by kernel_rfl)
theorem n55_5s (E : Ev) (cx : Cx) (st : St) : codeB Try.prog E cx n55_5 st = thenS (codeB Try.prog E cx n55_6 st) (codeB Try.prog E cx n55_7) := GE.seq_step (by kernel_rfl)
theorem n55_21s (E : Ev) (f : FuncId) (b : Nat) (ro : Option Nat) (st : St) : codeB Try.prog E ⟨f, 29, b, ro⟩ n55_21 st = plainS (runOps Try.prog E b q55_21 (ops [true, true, true, false, false] Try.f55) st) := GE.region_step (id := 6) (by kernel_rfl) (by kernel_rfl)
theorem n55_26s (E : Ev) (f : FuncId) (b : Nat) (ro : Option Nat) (st : St) : codeB Try.prog E ⟨f, 29, b, ro⟩ n55_26 st = plainS (runOps Try.prog E b q55_26 (ops [true, true, true, false, true, false, false, false, false] Try.f55) st) := GE.region_step (id := 7) (by kernel_rfl) (by kernel_rfl)
theorem n55_28s (E : Ev) (cx : Cx) (st : St) : codeB Try.prog E cx n55_28 st = some (.normal, st) := GE.skip_step (by kernel_rfl)
theorem n55_29s (E : Ev) (cx : Cx) (st : St) : codeB Try.prog E cx n55_29 st = some (.exit 2, st) := GE.exit_step (by kernel_rfl)
theorem n55_27s (E : Ev) (cx : Cx) (st : St) : codeB Try.prog E cx n55_27 st = condS (codeB Try.prog E cx n55_28) (codeB Try.prog E cx n55_29) (lk st.σ 20) st := GE.cond_step (c := .tmp 20) (by kernel_rfl)
theorem n55_25s (E : Ev) (cx : Cx) (st : St) : codeB Try.prog E cx n55_25 st = thenS (codeB Try.prog E cx n55_26 st) (codeB Try.prog E cx n55_27) := GE.seq_step (by kernel_rfl)
theorem n55_32s (E : Ev) (f : FuncId) (b : Nat) (ro : Option Nat) (st : St) : codeB Try.prog E ⟨f, 29, b, ro⟩ n55_32 st = plainS (runOps Try.prog E b q55_32 (ops [true, true, true, false, true, false, false, true, false, false] Try.f55) st) := GE.region_step (id := 9) (by kernel_rfl) (by kernel_rfl)
theorem n55_31s (E : Ev) (cx : Cx) (st : St) : codeB Try.prog E cx n55_31 st = blockS 3 (codeB Try.prog E cx n55_32 st) st := GE.block_step (by kernel_rfl)
theorem n55_33s (E : Ev) (f : FuncId) (b : Nat) (ro : Option Nat) (st : St) : codeB Try.prog E ⟨f, 29, b, ro⟩ n55_33 st = plainS (runOps Try.prog E b q55_33 (ops [true, true, true, false, true, false, false, true, true] Try.f55) st) := GE.region_step (id := 8) (by kernel_rfl) (by kernel_rfl)
theorem n55_30s (E : Ev) (cx : Cx) (st : St) : codeB Try.prog E cx n55_30 st = thenS (codeB Try.prog E cx n55_31 st) (codeB Try.prog E cx n55_33) := GE.seq_step (by kernel_rfl)
theorem n55_24s (E : Ev) (cx : Cx) (st : St) : codeB Try.prog E cx n55_24 st = thenS (codeB Try.prog E cx n55_25 st) (codeB Try.prog E cx n55_30) := GE.seq_step (by kernel_rfl)
theorem n55_23s (E : Ev) (cx : Cx) (st : St) : codeB Try.prog E cx n55_23 st = loopS (fun st' => E.code cx n55_23 st') cx.base (codeB Try.prog E cx n55_24 st) st := GE.loop_step (by kernel_rfl)
theorem n55_22s (E : Ev) (cx : Cx) (st : St) : codeB Try.prog E cx n55_22 st = blockS 2 (codeB Try.prog E cx n55_23 st) st := GE.block_step (by kernel_rfl)
theorem n55_20s (E : Ev) (cx : Cx) (st : St) : codeB Try.prog E cx n55_20 st = thenS (codeB Try.prog E cx n55_21 st) (codeB Try.prog E cx n55_22) := GE.seq_step (by kernel_rfl)
theorem n55_35s (E : Ev) (f : FuncId) (b : Nat) (ro : Option Nat) (st : St) : codeB Try.prog E ⟨f, 29, b, ro⟩ n55_35 st = plainS (runOps Try.prog E b q55_35 (ops [true, true, true, true, false] Try.f55) st) := GE.region_step (id := 10) (by kernel_rfl) (by kernel_rfl)
theorem n55_36s (E : Ev) (cx : Cx) (st : St) : codeB Try.prog E cx n55_36 st = some (.ret, st) := GE.ret_step (by kernel_rfl)
theorem n55_34s (E : Ev) (cx : Cx) (st : St) : codeB Try.prog E cx n55_34 st = thenS (codeB Try.prog E cx n55_35 st) (codeB Try.prog E cx n55_36) := GE.seq_step (by kernel_rfl)
theorem n55_19s (E : Ev) (cx : Cx) (st : St) : codeB Try.prog E cx n55_19 st = thenS (codeB Try.prog E cx n55_20 st) (codeB Try.prog E cx n55_34) := GE.seq_step (by kernel_rfl)
theorem n55_4s (E : Ev) (cx : Cx) (st : St) : codeB Try.prog E cx n55_4 st = thenS (codeB Try.prog E cx n55_5 st) (codeB Try.prog E cx n55_19) := GE.seq_step (by kernel_rfl)
theorem n55_2s (E : Ev) (cx : Cx) (st : St) : codeB Try.prog E cx n55_2 st = thenS (codeB Try.prog E cx n55_3 st) (codeB Try.prog E cx n55_4) := GE.seq_step (by kernel_rfl)
theorem n55_0s (E : Ev) (cx : Cx) (st : St) : codeB Try.prog E cx n55_0 st = thenS (codeB Try.prog E cx n55_1 st) (codeB Try.prog E cx n55_2) := GE.seq_step (by kernel_rfl)
noncomputable def n56_0 : Code := sub [] (bodyOf Try.f56)
noncomputable def n56_1 : Code := sub [false] (bodyOf Try.f56)
noncomputable def q56_1 : List Oper := ops [false] Try.f56
noncomputable def n56_2 : Code := sub [true] (bodyOf Try.f56)
noncomputable def n56_3 : Code := sub [true, false] (bodyOf Try.f56)
noncomputable def n56_4 : Code := sub [true, false, false] (bodyOf Try.f56)
noncomputable def q56_4 : List Oper := ops [true, false, false] Try.f56
noncomputable def n56_5 : Code := sub [true, false, true] (bodyOf Try.f56)
noncomputable def n56_6 : Code := sub [true, false, true, false] (bodyOf Try.f56)
noncomputable def n56_7 : Code := sub [true, false, true, false, false] (bodyOf Try.f56)
noncomputable def n56_8 : Code := sub [true, false, true, false, false, false] (bodyOf Try.f56)
noncomputable def q56_8 : List Oper := ops [true, false, true, false, false, false] Try.f56
noncomputable def n56_9 : Code := sub [true, false, true, false, false, true] (bodyOf Try.f56)
noncomputable def n56_10 : Code := sub [true, false, true, false, false, true, false] (bodyOf Try.f56)
noncomputable def n56_11 : Code := sub [true, false, true, false, false, true, false, false] (bodyOf Try.f56)
noncomputable def n56_12 : Code := sub [true, false, true, false, false, true, false, true] (bodyOf Try.f56)
noncomputable def n56_13 : Code := sub [true, false, true, false, false, true, true] (bodyOf Try.f56)
noncomputable def n56_14 : Code := sub [true, false, true, false, false, true, true, false] (bodyOf Try.f56)
noncomputable def n56_15 : Code := sub [true, false, true, false, false, true, true, false, false] (bodyOf Try.f56)
noncomputable def n56_16 : Code := sub [true, false, true, false, false, true, true, false, false, false] (bodyOf Try.f56)
noncomputable def q56_16 : List Oper := ops [true, false, true, false, false, true, true, false, false, false] Try.f56
noncomputable def n56_17 : Code := sub [true, false, true, false, false, true, true, false, false, true] (bodyOf Try.f56)
noncomputable def n56_18 : Code := sub [true, false, true, false, false, true, true, false, false, true, false] (bodyOf Try.f56)
noncomputable def q56_18 : List Oper := ops [true, false, true, false, false, true, true, false, false, true, false] Try.f56
noncomputable def n56_19 : Code := sub [true, false, true, false, false, true, true, false, false, true, true] (bodyOf Try.f56)
noncomputable def n56_20 : Code := sub [true, false, true, false, false, true, true, false, false, true, true, false] (bodyOf Try.f56)
noncomputable def n56_21 : Code := sub [true, false, true, false, false, true, true, false, false, true, true, false, false] (bodyOf Try.f56)
noncomputable def n56_22 : Code := sub [true, false, true, false, false, true, true, false, false, true, true, false, false, false] (bodyOf Try.f56)
noncomputable def q56_22 : List Oper := ops [true, false, true, false, false, true, true, false, false, true, true, false, false, false] Try.f56
noncomputable def n56_23 : Code := sub [true, false, true, false, false, true, true, false, false, true, true, false, false, true] (bodyOf Try.f56)
noncomputable def n56_24 : Code := sub [true, false, true, false, false, true, true, false, false, true, true, false, false, true, false] (bodyOf Try.f56)
noncomputable def n56_25 : Code := sub [true, false, true, false, false, true, true, false, false, true, true, false, false, true, false, false] (bodyOf Try.f56)
noncomputable def n56_26 : Code := sub [true, false, true, false, false, true, true, false, false, true, true, false, false, true, false, true] (bodyOf Try.f56)
noncomputable def n56_27 : Code := sub [true, false, true, false, false, true, true, false, false, true, true, false, false, true, true] (bodyOf Try.f56)
noncomputable def n56_28 : Code := sub [true, false, true, false, false, true, true, false, false, true, true, false, false, true, true, false] (bodyOf Try.f56)
noncomputable def n56_29 : Code := sub [true, false, true, false, false, true, true, false, false, true, true, false, false, true, true, false, false] (bodyOf Try.f56)
noncomputable def n56_30 : Code := sub [true, false, true, false, false, true, true, false, false, true, true, false, false, true, true, false, false, false] (bodyOf Try.f56)
noncomputable def n56_31 : Code := sub [true, false, true, false, false, true, true, false, false, true, true, false, false, true, true, false, false, false, false] (bodyOf Try.f56)
noncomputable def q56_31 : List Oper := ops [true, false, true, false, false, true, true, false, false, true, true, false, false, true, true, false, false, false, false] Try.f56
noncomputable def n56_32 : Code := sub [true, false, true, false, false, true, true, false, false, true, true, false, false, true, true, false, false, false, true] (bodyOf Try.f56)
noncomputable def n56_33 : Code := sub [true, false, true, false, false, true, true, false, false, true, true, false, false, true, true, false, false, false, true, false] (bodyOf Try.f56)
noncomputable def n56_34 : Code := sub [true, false, true, false, false, true, true, false, false, true, true, false, false, true, true, false, false, false, true, true] (bodyOf Try.f56)
noncomputable def n56_35 : Code := sub [true, false, true, false, false, true, true, false, false, true, true, false, false, true, true, false, false, true] (bodyOf Try.f56)
noncomputable def q56_35 : List Oper := ops [true, false, true, false, false, true, true, false, false, true, true, false, false, true, true, false, false, true] Try.f56
noncomputable def n56_36 : Code := sub [true, false, true, false, false, true, true, false, false, true, true, false, false, true, true, true] (bodyOf Try.f56)
noncomputable def q56_36 : List Oper := ops [true, false, true, false, false, true, true, false, false, true, true, false, false, true, true, true] Try.f56
noncomputable def n56_37 : Code := sub [true, false, true, false, false, true, true, true] (bodyOf Try.f56)
noncomputable def q56_37 : List Oper := ops [true, false, true, false, false, true, true, true] Try.f56
noncomputable def n56_38 : Code := sub [true, true] (bodyOf Try.f56)
noncomputable def q56_38 : List Oper := ops [true, true] Try.f56
theorem body56 : Try.f56.body = some n56_0 := by kernel_rfl
theorem run56 (E : Ev) (args : List Value) (h : List Blk) (hl : args.length ≤ 57) : runB Try.prog E 56 args h = endS Try.prog [] h.length (codeB Try.prog E ⟨56, 57, h.length, none⟩ n56_0 ⟨enumT 0 args, h, []⟩) := GE.run_step Try.func56 body56 (by kernel_rfl) (by decide) (by kernel_rfl) hl
theorem n56_1s (E : Ev) (f : FuncId) (b : Nat) (ro : Option Nat) (st : St) : codeB Try.prog E ⟨f, 57, b, ro⟩ n56_1 st = drawS [0, 1, 0, 4, 3, 31] (runOpsF Try.prog E b q56_1 (ops [false] Try.f56) st) := GE.draw_step (id := 0) (by kernel_rfl) (by kernel_rfl) (by kernel_rfl) (by kernel_rfl)
theorem n56_4s (E : Ev) (f : FuncId) (b : Nat) (ro : Option Nat) (st : St) : codeB Try.prog E ⟨f, 57, b, ro⟩ n56_4 st = plainS (runOps Try.prog E b q56_4 (ops [true, false, false] Try.f56) st) := GE.region_step (id := 1) (by kernel_rfl) (by kernel_rfl)
theorem n56_8s (E : Ev) (f : FuncId) (b : Nat) (ro : Option Nat) (st : St) : codeB Try.prog E ⟨f, 57, b, ro⟩ n56_8 st = plainS (runOps Try.prog E b q56_8 (ops [true, false, true, false, false, false] Try.f56) st) := GE.region_step (id := 2) (by kernel_rfl) (by kernel_rfl)
theorem n56_11s (E : Ev) (cx : Cx) (st : St) : codeB Try.prog E cx n56_11 st = some (.normal, st) := GE.skip_step (by kernel_rfl)
theorem n56_12s (E : Ev) (cx : Cx) (st : St) : codeB Try.prog E cx n56_12 st = some (.exit 0, st) := GE.exit_step (by kernel_rfl)
theorem n56_10s (E : Ev) (cx : Cx) (st : St) : codeB Try.prog E cx n56_10 st = condS (codeB Try.prog E cx n56_11) (codeB Try.prog E cx n56_12) (lk st.σ 27) st := GE.cond_step (c := .tmp 27) (by kernel_rfl)
theorem n56_16s (E : Ev) (f : FuncId) (b : Nat) (ro : Option Nat) (st : St) : codeB Try.prog E ⟨f, 57, b, ro⟩ n56_16 st = plainS (runOps Try.prog E b q56_16 (ops [true, false, true, false, false, true, true, false, false, false] Try.f56) st) := GE.region_step (id := 3) (by kernel_rfl) (by kernel_rfl)
theorem n56_18s (E : Ev) (f : FuncId) (b : Nat) (ro : Option Nat) (st : St) : codeB Try.prog E ⟨f, 57, b, ro⟩ n56_18 st = plainS (runOps Try.prog E b q56_18 (ops [true, false, true, false, false, true, true, false, false, true, false] Try.f56) st) := GE.region_step (id := 4) (by kernel_rfl) (by kernel_rfl)
theorem n56_22s (E : Ev) (f : FuncId) (b : Nat) (ro : Option Nat) (st : St) : codeB Try.prog E ⟨f, 57, b, ro⟩ n56_22 st = plainS (runOps Try.prog E b q56_22 (ops [true, false, true, false, false, true, true, false, false, true, true, false, false, false] Try.f56) st) := GE.region_step (id := 5) (by kernel_rfl) (by kernel_rfl)
theorem n56_25s (E : Ev) (cx : Cx) (st : St) : codeB Try.prog E cx n56_25 st = some (.normal, st) := GE.skip_step (by kernel_rfl)
theorem n56_26s (E : Ev) (cx : Cx) (st : St) : codeB Try.prog E cx n56_26 st = some (.exit 2, st) := GE.exit_step (by kernel_rfl)
theorem n56_24s (E : Ev) (cx : Cx) (st : St) : codeB Try.prog E cx n56_24 st = condS (codeB Try.prog E cx n56_25) (codeB Try.prog E cx n56_26) (lk st.σ 33) st := GE.cond_step (c := .tmp 33) (by kernel_rfl)
theorem n56_31s (E : Ev) (f : FuncId) (b : Nat) (ro : Option Nat) (st : St) : codeB Try.prog E ⟨f, 57, b, ro⟩ n56_31 st = plainS (runOps Try.prog E b q56_31 (ops [true, false, true, false, false, true, true, false, false, true, true, false, false, true, true, false, false, false, false] Try.f56) st) := GE.region_step (id := 6) (by kernel_rfl) (by kernel_rfl)
theorem n56_33s (E : Ev) (cx : Cx) (st : St) : codeB Try.prog E cx n56_33 st = some (.ret, st) := GE.ret_step (by kernel_rfl)
theorem n56_34s (E : Ev) (cx : Cx) (st : St) : codeB Try.prog E cx n56_34 st = some (.normal, st) := GE.skip_step (by kernel_rfl)
theorem n56_32s (E : Ev) (cx : Cx) (st : St) : codeB Try.prog E cx n56_32 st = condS (codeB Try.prog E cx n56_33) (codeB Try.prog E cx n56_34) (lk st.σ 40) st := GE.cond_step (c := .tmp 40) (by kernel_rfl)
theorem n56_30s (E : Ev) (cx : Cx) (st : St) : codeB Try.prog E cx n56_30 st = thenS (codeB Try.prog E cx n56_31 st) (codeB Try.prog E cx n56_32) := GE.seq_step (by kernel_rfl)
theorem n56_35s (E : Ev) (f : FuncId) (b : Nat) (ro : Option Nat) (st : St) : codeB Try.prog E ⟨f, 57, b, ro⟩ n56_35 st = drawS [0, 0, 2, 7, 0, 0, 32, 112, 15, 511] (runOpsF Try.prog E b q56_35 (ops [true, false, true, false, false, true, true, false, false, true, true, false, false, true, true, false, false, true] Try.f56) st) := GE.draw_step (id := 7) (by kernel_rfl) (by kernel_rfl) (by kernel_rfl) (by kernel_rfl)
theorem n56_29s (E : Ev) (cx : Cx) (st : St) : codeB Try.prog E cx n56_29 st = thenS (codeB Try.prog E cx n56_30 st) (codeB Try.prog E cx n56_35) := GE.seq_step (by kernel_rfl)
theorem n56_28s (E : Ev) (cx : Cx) (st : St) : codeB Try.prog E cx n56_28 st = blockS 3 (codeB Try.prog E cx n56_29 st) st := GE.block_step (by kernel_rfl)
theorem n56_36s (E : Ev) (f : FuncId) (b : Nat) (ro : Option Nat) (st : St) : codeB Try.prog E ⟨f, 57, b, ro⟩ n56_36 st = plainS (runOps Try.prog E b q56_36 (ops [true, false, true, false, false, true, true, false, false, true, true, false, false, true, true, true] Try.f56) st) := GE.region_step (id := 8) (by kernel_rfl) (by kernel_rfl)
theorem n56_27s (E : Ev) (cx : Cx) (st : St) : codeB Try.prog E cx n56_27 st = thenS (codeB Try.prog E cx n56_28 st) (codeB Try.prog E cx n56_36) := GE.seq_step (by kernel_rfl)
theorem n56_23s (E : Ev) (cx : Cx) (st : St) : codeB Try.prog E cx n56_23 st = thenS (codeB Try.prog E cx n56_24 st) (codeB Try.prog E cx n56_27) := GE.seq_step (by kernel_rfl)
theorem n56_21s (E : Ev) (cx : Cx) (st : St) : codeB Try.prog E cx n56_21 st = thenS (codeB Try.prog E cx n56_22 st) (codeB Try.prog E cx n56_23) := GE.seq_step (by kernel_rfl)
theorem n56_20s (E : Ev) (cx : Cx) (st : St) : codeB Try.prog E cx n56_20 st = loopS (fun st' => E.code cx n56_20 st') cx.base (codeB Try.prog E cx n56_21 st) st := GE.loop_step (by kernel_rfl)
theorem n56_19s (E : Ev) (cx : Cx) (st : St) : codeB Try.prog E cx n56_19 st = blockS 2 (codeB Try.prog E cx n56_20 st) st := GE.block_step (by kernel_rfl)
theorem n56_17s (E : Ev) (cx : Cx) (st : St) : codeB Try.prog E cx n56_17 st = thenS (codeB Try.prog E cx n56_18 st) (codeB Try.prog E cx n56_19) := GE.seq_step (by kernel_rfl)
theorem n56_15s (E : Ev) (cx : Cx) (st : St) : codeB Try.prog E cx n56_15 st = thenS (codeB Try.prog E cx n56_16 st) (codeB Try.prog E cx n56_17) := GE.seq_step (by kernel_rfl)
theorem n56_14s (E : Ev) (cx : Cx) (st : St) : codeB Try.prog E cx n56_14 st = blockS 1 (codeB Try.prog E cx n56_15 st) st := GE.block_step (by kernel_rfl)
theorem n56_37s (E : Ev) (f : FuncId) (b : Nat) (ro : Option Nat) (st : St) : codeB Try.prog E ⟨f, 57, b, ro⟩ n56_37 st = plainS (runOps Try.prog E b q56_37 (ops [true, false, true, false, false, true, true, true] Try.f56) st) := GE.region_step (id := 9) (by kernel_rfl) (by kernel_rfl)
theorem n56_13s (E : Ev) (cx : Cx) (st : St) : codeB Try.prog E cx n56_13 st = thenS (codeB Try.prog E cx n56_14 st) (codeB Try.prog E cx n56_37) := GE.seq_step (by kernel_rfl)
theorem n56_9s (E : Ev) (cx : Cx) (st : St) : codeB Try.prog E cx n56_9 st = thenS (codeB Try.prog E cx n56_10 st) (codeB Try.prog E cx n56_13) := GE.seq_step (by kernel_rfl)
theorem n56_7s (E : Ev) (cx : Cx) (st : St) : codeB Try.prog E cx n56_7 st = thenS (codeB Try.prog E cx n56_8 st) (codeB Try.prog E cx n56_9) := GE.seq_step (by kernel_rfl)
theorem n56_6s (E : Ev) (cx : Cx) (st : St) : codeB Try.prog E cx n56_6 st = loopS (fun st' => E.code cx n56_6 st') cx.base (codeB Try.prog E cx n56_7 st) st := GE.loop_step (by kernel_rfl)
theorem n56_5s (E : Ev) (cx : Cx) (st : St) : codeB Try.prog E cx n56_5 st = blockS 0 (codeB Try.prog E cx n56_6 st) st := GE.block_step (by kernel_rfl)
theorem n56_3s (E : Ev) (cx : Cx) (st : St) : codeB Try.prog E cx n56_3 st = thenS (codeB Try.prog E cx n56_4 st) (codeB Try.prog E cx n56_5) := GE.seq_step (by kernel_rfl)
theorem n56_38s (E : Ev) (f : FuncId) (b : Nat) (ro : Option Nat) (st : St) : codeB Try.prog E ⟨f, 57, b, ro⟩ n56_38 st = plainS (runOps Try.prog E b q56_38 (ops [true, true] Try.f56) st) := GE.region_step (id := 10) (by kernel_rfl) (by kernel_rfl)
theorem n56_2s (E : Ev) (cx : Cx) (st : St) : codeB Try.prog E cx n56_2 st = thenS (codeB Try.prog E cx n56_3 st) (codeB Try.prog E cx n56_38) := GE.seq_step (by kernel_rfl)
theorem n56_0s (E : Ev) (cx : Cx) (st : St) : codeB Try.prog E cx n56_0 st = thenS (codeB Try.prog E cx n56_1 st) (codeB Try.prog E cx n56_2) := GE.seq_step (by kernel_rfl)
noncomputable def n72_0 : Code := sub [] (bodyOf Try.f72)
noncomputable def n72_1 : Code := sub [false] (bodyOf Try.f72)
noncomputable def q72_1 : List Oper := ops [false] Try.f72
noncomputable def n72_2 : Code := sub [true] (bodyOf Try.f72)
noncomputable def n72_3 : Code := sub [true, false] (bodyOf Try.f72)
noncomputable def q72_3 : List Oper := ops [true, false] Try.f72
noncomputable def n72_4 : Code := sub [true, true] (bodyOf Try.f72)
theorem body72 : Try.f72.body = some n72_0 := by kernel_rfl
theorem run72 (E : Ev) (args : List Value) (h : List Blk) (hl : args.length ≤ 8) : runB Try.prog E 72 args h = endS Try.prog [.tmp 4] h.length (codeB Try.prog E ⟨72, 8, h.length, none⟩ n72_0 ⟨enumT 0 args, h, []⟩) := GE.run_step Try.func72 body72 (by kernel_rfl) (by decide) (by kernel_rfl) hl
theorem n72_1s (E : Ev) (f : FuncId) (b : Nat) (ro : Option Nat) (st : St) : codeB Try.prog E ⟨f, 8, b, ro⟩ n72_1 st = plainS (runOps Try.prog E b q72_1 (ops [false] Try.f72) st) := GE.region_step (id := 0) (by kernel_rfl) (by kernel_rfl)
theorem n72_3s (E : Ev) (f : FuncId) (b : Nat) (ro : Option Nat) (st : St) : codeB Try.prog E ⟨f, 8, b, ro⟩ n72_3 st = plainS (runOps Try.prog E b q72_3 (ops [true, false] Try.f72) st) := GE.region_step (id := 1) (by kernel_rfl) (by kernel_rfl)
theorem n72_4s (E : Ev) (cx : Cx) (st : St) : codeB Try.prog E cx n72_4 st = some (.ret, st) := GE.ret_step (by kernel_rfl)
theorem n72_2s (E : Ev) (cx : Cx) (st : St) : codeB Try.prog E cx n72_2 st = thenS (codeB Try.prog E cx n72_3 st) (codeB Try.prog E cx n72_4) := GE.seq_step (by kernel_rfl)
theorem n72_0s (E : Ev) (cx : Cx) (st : St) : codeB Try.prog E cx n72_0 st = thenS (codeB Try.prog E cx n72_1 st) (codeB Try.prog E cx n72_2) := GE.seq_step (by kernel_rfl)
noncomputable def n73_0 : Code := sub [] (bodyOf Try.f73)
noncomputable def n73_1 : Code := sub [false] (bodyOf Try.f73)
noncomputable def q73_1 : List Oper := ops [false] Try.f73
noncomputable def n73_2 : Code := sub [true] (bodyOf Try.f73)
noncomputable def n73_3 : Code := sub [true, false] (bodyOf Try.f73)
noncomputable def q73_3 : List Oper := ops [true, false] Try.f73
noncomputable def n73_4 : Code := sub [true, true] (bodyOf Try.f73)
noncomputable def n73_5 : Code := sub [true, true, false] (bodyOf Try.f73)
noncomputable def q73_5 : List Oper := ops [true, true, false] Try.f73
noncomputable def n73_6 : Code := sub [true, true, true] (bodyOf Try.f73)
theorem body73 : Try.f73.body = some n73_0 := by kernel_rfl
theorem run73 (E : Ev) (args : List Value) (h : List Blk) (hl : args.length ≤ 29) : runB Try.prog E 73 args h = endS Try.prog [.cell 4 35, .cell 5 35] h.length (codeB Try.prog E ⟨73, 29, h.length, none⟩ n73_0 ⟨enumT 0 args, h, []⟩) := GE.run_step Try.func73 body73 (by kernel_rfl) (by decide) (by kernel_rfl) hl
theorem n73_1s (E : Ev) (f : FuncId) (b : Nat) (ro : Option Nat) (st : St) : codeB Try.prog E ⟨f, 29, b, ro⟩ n73_1 st = plainS (runOps Try.prog E b q73_1 (ops [false] Try.f73) st) := GE.region_step (id := 0) (by kernel_rfl) (by kernel_rfl)
theorem n73_3s (E : Ev) (f : FuncId) (b : Nat) (ro : Option Nat) (st : St) : codeB Try.prog E ⟨f, 29, b, ro⟩ n73_3 st = plainS (runOps Try.prog E b q73_3 (ops [true, false] Try.f73) st) := GE.region_step (id := 1) (by kernel_rfl) (by kernel_rfl)
theorem n73_5s (E : Ev) (f : FuncId) (b : Nat) (ro : Option Nat) (st : St) : codeB Try.prog E ⟨f, 29, b, ro⟩ n73_5 st = drawS [0, 1, 0, 4, 0, 0, 32, 127, 0, 256, 0, 1792, 0, 4096, 0, 16384, 0, 114688, 0, 262144, 1048320, 255, 4194303] (runOpsF Try.prog E b q73_5 (ops [true, true, false] Try.f73) st) := GE.draw_step (id := 2) (by kernel_rfl) (by kernel_rfl) (by kernel_rfl) (by kernel_rfl)
theorem n73_6s (E : Ev) (cx : Cx) (st : St) : codeB Try.prog E cx n73_6 st = some (.ret, st) := GE.ret_step (by kernel_rfl)
theorem n73_4s (E : Ev) (cx : Cx) (st : St) : codeB Try.prog E cx n73_4 st = thenS (codeB Try.prog E cx n73_5 st) (codeB Try.prog E cx n73_6) := GE.seq_step (by kernel_rfl)
theorem n73_2s (E : Ev) (cx : Cx) (st : St) : codeB Try.prog E cx n73_2 st = thenS (codeB Try.prog E cx n73_3 st) (codeB Try.prog E cx n73_4) := GE.seq_step (by kernel_rfl)
theorem n73_0s (E : Ev) (cx : Cx) (st : St) : codeB Try.prog E cx n73_0 st = thenS (codeB Try.prog E cx n73_1 st) (codeB Try.prog E cx n73_2) := GE.seq_step (by kernel_rfl)
noncomputable def n74_0 : Code := sub [] (bodyOf Try.f74)
noncomputable def n74_1 : Code := sub [false] (bodyOf Try.f74)
noncomputable def q74_1 : List Oper := ops [false] Try.f74
noncomputable def n74_2 : Code := sub [true] (bodyOf Try.f74)
noncomputable def n74_3 : Code := sub [true, false] (bodyOf Try.f74)
noncomputable def q74_3 : List Oper := ops [true, false] Try.f74
noncomputable def n74_4 : Code := sub [true, true] (bodyOf Try.f74)
theorem body74 : Try.f74.body = some n74_0 := by kernel_rfl
theorem run74 (E : Ev) (args : List Value) (h : List Blk) (hl : args.length ≤ 8) : runB Try.prog E 74 args h = endS Try.prog [.tmp 4] h.length (codeB Try.prog E ⟨74, 8, h.length, none⟩ n74_0 ⟨enumT 0 args, h, []⟩) := GE.run_step Try.func74 body74 (by kernel_rfl) (by decide) (by kernel_rfl) hl
theorem n74_1s (E : Ev) (f : FuncId) (b : Nat) (ro : Option Nat) (st : St) : codeB Try.prog E ⟨f, 8, b, ro⟩ n74_1 st = plainS (runOps Try.prog E b q74_1 (ops [false] Try.f74) st) := GE.region_step (id := 0) (by kernel_rfl) (by kernel_rfl)
theorem n74_3s (E : Ev) (f : FuncId) (b : Nat) (ro : Option Nat) (st : St) : codeB Try.prog E ⟨f, 8, b, ro⟩ n74_3 st = plainS (runOps Try.prog E b q74_3 (ops [true, false] Try.f74) st) := GE.region_step (id := 1) (by kernel_rfl) (by kernel_rfl)
theorem n74_4s (E : Ev) (cx : Cx) (st : St) : codeB Try.prog E cx n74_4 st = some (.ret, st) := GE.ret_step (by kernel_rfl)
theorem n74_2s (E : Ev) (cx : Cx) (st : St) : codeB Try.prog E cx n74_2 st = thenS (codeB Try.prog E cx n74_3 st) (codeB Try.prog E cx n74_4) := GE.seq_step (by kernel_rfl)
theorem n74_0s (E : Ev) (cx : Cx) (st : St) : codeB Try.prog E cx n74_0 st = thenS (codeB Try.prog E cx n74_1 st) (codeB Try.prog E cx n74_2) := GE.seq_step (by kernel_rfl)
noncomputable def n75_0 : Code := sub [] (bodyOf Try.f75)
noncomputable def n75_1 : Code := sub [false] (bodyOf Try.f75)
noncomputable def q75_1 : List Oper := ops [false] Try.f75
noncomputable def n75_2 : Code := sub [true] (bodyOf Try.f75)
noncomputable def n75_3 : Code := sub [true, false] (bodyOf Try.f75)
noncomputable def q75_3 : List Oper := ops [true, false] Try.f75
noncomputable def n75_4 : Code := sub [true, true] (bodyOf Try.f75)
noncomputable def n75_5 : Code := sub [true, true, false] (bodyOf Try.f75)
noncomputable def q75_5 : List Oper := ops [true, true, false] Try.f75
noncomputable def n75_6 : Code := sub [true, true, true] (bodyOf Try.f75)
theorem body75 : Try.f75.body = some n75_0 := by kernel_rfl
theorem run75 (E : Ev) (args : List Value) (h : List Blk) (hl : args.length ≤ 29) : runB Try.prog E 75 args h = endS Try.prog [.cell 4 35, .cell 5 35] h.length (codeB Try.prog E ⟨75, 29, h.length, none⟩ n75_0 ⟨enumT 0 args, h, []⟩) := GE.run_step Try.func75 body75 (by kernel_rfl) (by decide) (by kernel_rfl) hl
theorem n75_1s (E : Ev) (f : FuncId) (b : Nat) (ro : Option Nat) (st : St) : codeB Try.prog E ⟨f, 29, b, ro⟩ n75_1 st = plainS (runOps Try.prog E b q75_1 (ops [false] Try.f75) st) := GE.region_step (id := 0) (by kernel_rfl) (by kernel_rfl)
theorem n75_3s (E : Ev) (f : FuncId) (b : Nat) (ro : Option Nat) (st : St) : codeB Try.prog E ⟨f, 29, b, ro⟩ n75_3 st = plainS (runOps Try.prog E b q75_3 (ops [true, false] Try.f75) st) := GE.region_step (id := 1) (by kernel_rfl) (by kernel_rfl)
theorem n75_5s (E : Ev) (f : FuncId) (b : Nat) (ro : Option Nat) (st : St) : codeB Try.prog E ⟨f, 29, b, ro⟩ n75_5 st = drawS [0, 1, 0, 4, 0, 16, 0, 127, 0, 256, 0, 1024, 0, 7168, 0, 16384, 0, 65536, 0, 458752, 1048320, 255, 4194303] (runOpsF Try.prog E b q75_5 (ops [true, true, false] Try.f75) st) := GE.draw_step (id := 2) (by kernel_rfl) (by kernel_rfl) (by kernel_rfl) (by kernel_rfl)
theorem n75_6s (E : Ev) (cx : Cx) (st : St) : codeB Try.prog E cx n75_6 st = some (.ret, st) := GE.ret_step (by kernel_rfl)
theorem n75_4s (E : Ev) (cx : Cx) (st : St) : codeB Try.prog E cx n75_4 st = thenS (codeB Try.prog E cx n75_5 st) (codeB Try.prog E cx n75_6) := GE.seq_step (by kernel_rfl)
theorem n75_2s (E : Ev) (cx : Cx) (st : St) : codeB Try.prog E cx n75_2 st = thenS (codeB Try.prog E cx n75_3 st) (codeB Try.prog E cx n75_4) := GE.seq_step (by kernel_rfl)
theorem n75_0s (E : Ev) (cx : Cx) (st : St) : codeB Try.prog E cx n75_0 st = thenS (codeB Try.prog E cx n75_1 st) (codeB Try.prog E cx n75_2) := GE.seq_step (by kernel_rfl)
theorem ia_59 : aggK Try.prog 59 = some (true, 4) := by kernel_rfl
theorem za_24 : zeroA Try.prog 24 = some (.agg #[(.int .i64 (0)), (.int .i64 (0)), (.int .i64 (0)), (.slice none 0 0)]) := by kernel_rfl
theorem sz_24 : aggSize Try.prog 24 = some 4 := by kernel_rfl
theorem ia_24 : aggK Try.prog 24 = some (true, 4) := by kernel_rfl
theorem ia_60 : aggK Try.prog 60 = some (true, 4) := by kernel_rfl
theorem za_35 : zeroA Try.prog 35 = some (.agg #[(.int .i64 (0)), (.int .i64 (0)), (.int .i64 (0)), (.int .i64 (0))]) := by kernel_rfl
theorem sz_35 : aggSize Try.prog 35 = some 4 := by kernel_rfl
theorem ia_35 : aggK Try.prog 35 = some (true, 4) := by kernel_rfl
theorem fa_35_2 : fieldAt Try.prog 35 2 = some (2, 1) := by kernel_rfl
theorem ia_3 : aggK Try.prog 3 = some (false, 1) := by kernel_rfl
theorem fa_35_3 : fieldAt Try.prog 35 3 = some (3, 1) := by kernel_rfl
theorem fa_35_0 : fieldAt Try.prog 35 0 = some (0, 1) := by kernel_rfl
theorem fa_35_1 : fieldAt Try.prog 35 1 = some (1, 1) := by kernel_rfl
theorem fa_24_0 : fieldAt Try.prog 24 0 = some (0, 1) := by kernel_rfl
theorem fa_24_1 : fieldAt Try.prog 24 1 = some (1, 1) := by kernel_rfl
theorem fa_24_2 : fieldAt Try.prog 24 2 = some (2, 1) := by kernel_rfl
theorem fa_24_3 : fieldAt Try.prog 24 3 = some (3, 1) := by kernel_rfl
theorem ia_22 : aggK Try.prog 22 = some (false, 1) := by kernel_rfl
theorem lk_22 : lenK Try.prog 22 = some .sl := by kernel_rfl
theorem es_22 : elemK Try.prog 22 = some (none, 1) := by kernel_rfl
theorem fa_89_0 : fieldAt Try.prog 89 0 = some (0, 81) := by kernel_rfl
theorem ea_83 : elemK Try.prog 83 = some (some 9, 9) := by kernel_rfl
theorem ea_82 : elemK Try.prog 82 = some (some 9, 1) := by kernel_rfl
theorem pl_35 : plK Try.prog 35 = some [(0, 1), (1, 1), (2, 1), (3, 1)] := by kernel_rfl
theorem fa_89_1 : fieldAt Try.prog 89 1 = some (81, 81) := by kernel_rfl
theorem ea_87 : elemK Try.prog 87 = some (some 9, 9) := by kernel_rfl
theorem ea_86 : elemK Try.prog 86 = some (some 9, 1) := by kernel_rfl
theorem ia_85 : aggK Try.prog 85 = some (false, 1) := by kernel_rfl
theorem fa_59_0 : fieldAt Try.prog 59 0 = some (0, 1) := by kernel_rfl
theorem ia_5 : aggK Try.prog 5 = some (false, 1) := by kernel_rfl
theorem cv_5_3 : convK Try.prog 5 3 = some .i64 := by kernel_rfl
theorem fa_59_1 : fieldAt Try.prog 59 1 = some (1, 1) := by kernel_rfl
theorem fa_59_2 : fieldAt Try.prog 59 2 = some (2, 1) := by kernel_rfl
theorem pl_24 : plK Try.prog 24 = some [(0, 1), (1, 1), (2, 1), (3, 1)] := by kernel_rfl
theorem fa_59_3 : fieldAt Try.prog 59 3 = some (3, 1) := by kernel_rfl
theorem ia_57 : aggK Try.prog 57 = some (false, 1) := by kernel_rfl
theorem lk_57 : lenK Try.prog 57 = some .sl := by kernel_rfl
theorem es_57 : elemK Try.prog 57 = some (none, 1) := by kernel_rfl
theorem ze_22 : zeroE Try.prog 22 = some (.int .i64 (0)) := by kernel_rfl
theorem ba_22_1 : baseArr (Value.cells (.int .i64 (0))) (1 * 1) = #[(.int .i64 (0))] := by kernel_rfl
theorem ap_22 : apK Try.prog 22 = some (1, 8) := by kernel_rfl
theorem ni_22 : notInt Try.prog 22 = true := by kernel_rfl
theorem sz_22 : aggSize Try.prog 22 = some 1 := by kernel_rfl
theorem ea_60 : elemK Try.prog 60 = some (some 4, 1) := by kernel_rfl
theorem za_3 : zeroA Try.prog 3 = some (.int .i64 (0)) := by kernel_rfl
theorem sz_3 : aggSize Try.prog 3 = some 1 := by kernel_rfl
theorem za_89 : zeroA Try.prog 89 = some (.agg #[(.int .i64 (0)), (.int .i64 (0)), (.int .i64 (0)), (.int .i64 (0)), (.int .i64 (0)), (.int .i64 (0)), (.int .i64 (0)), (.int .i64 (0)), (.int .i64 (0)), (.int .i64 (0)), (.int .i64 (0)), (.int .i64 (0)), (.int .i64 (0)), (.int .i64 (0)), (.int .i64 (0)), (.int .i64 (0)), (.int .i64 (0)), (.int .i64 (0)), (.int .i64 (0)), (.int .i64 (0)), (.int .i64 (0)), (.int .i64 (0)), (.int .i64 (0)), (.int .i64 (0)), (.int .i64 (0)), (.int .i64 (0)), (.int .i64 (0)), (.int .i64 (0)), (.int .i64 (0)), (.int .i64 (0)), (.int .i64 (0)), (.int .i64 (0)), (.int .i64 (0)), (.int .i64 (0)), (.int .i64 (0)), (.int .i64 (0)), (.int .i64 (0)), (.int .i64 (0)), (.int .i64 (0)), (.int .i64 (0)), (.int .i64 (0)), (.int .i64 (0)), (.int .i64 (0)), (.int .i64 (0)), (.int .i64 (0)), (.int .i64 (0)), (.int .i64 (0)), (.int .i64 (0)), (.int .i64 (0)), (.int .i64 (0)), (.int .i64 (0)), (.int .i64 (0)), (.int .i64 (0)), (.int .i64 (0)), (.int .i64 (0)), (.int .i64 (0)), (.int .i64 (0)), (.int .i64 (0)), (.int .i64 (0)), (.int .i64 (0)), (.int .i64 (0)), (.int .i64 (0)), (.int .i64 (0)), (.int .i64 (0)), (.int .i64 (0)), (.int .i64 (0)), (.int .i64 (0)), (.int .i64 (0)), (.int .i64 (0)), (.int .i64 (0)), (.int .i64 (0)), (.int .i64 (0)), (.int .i64 (0)), (.int .i64 (0)), (.int .i64 (0)), (.int .i64 (0)), (.int .i64 (0)), (.int .i64 (0)), (.int .i64 (0)), (.int .i64 (0)), (.int .i64 (0)), .nilIface, .nilIface, .nilIface, .nilIface, .nilIface, .nilIface, .nilIface, .nilIface, .nilIface, .nilIface, .nilIface, .nilIface, .nilIface, .nilIface, .nilIface, .nilIface, .nilIface, .nilIface, .nilIface, .nilIface, .nilIface, .nilIface, .nilIface, .nilIface, .nilIface, .nilIface, .nilIface, .nilIface, .nilIface, .nilIface, .nilIface, .nilIface, .nilIface, .nilIface, .nilIface, .nilIface, .nilIface, .nilIface, .nilIface, .nilIface, .nilIface, .nilIface, .nilIface, .nilIface, .nilIface, .nilIface, .nilIface, .nilIface, .nilIface, .nilIface, .nilIface, .nilIface, .nilIface, .nilIface, .nilIface, .nilIface, .nilIface, .nilIface, .nilIface, .nilIface, .nilIface, .nilIface, .nilIface, .nilIface, .nilIface, .nilIface, .nilIface, .nilIface, .nilIface, .nilIface, .nilIface, .nilIface, .nilIface, .nilIface, .nilIface, .nilIface, .nilIface, .nilIface, .nilIface, .nilIface, .nilIface]) := by kernel_rfl
theorem pl_89 : plK Try.prog 89 = some [(0, 81), (81, 81)] := by kernel_rfl
theorem za_90 : zeroA Try.prog 90 = some (.pointer none) := by kernel_rfl
theorem sz_90 : aggSize Try.prog 90 = some 1 := by kernel_rfl
theorem za_79 : zeroA Try.prog 79 = some .nilFunc := by kernel_rfl
theorem sz_79 : aggSize Try.prog 79 = some 1 := by kernel_rfl
theorem ia_79 : aggK Try.prog 79 = some (false, 1) := by kernel_rfl
theorem ia_90 : aggK Try.prog 90 = some (false, 1) := by kernel_rfl
theorem lk_101 : lenK Try.prog 101 = some .sl := by kernel_rfl
theorem es_101 : elemK Try.prog 101 = some (none, 1) := by kernel_rfl
theorem sz_85 : aggSize Try.prog 85 = some 1 := by kernel_rfl
theorem ii_93 : notI Try.prog 93 = true := by kernel_rfl
theorem ze_101 : zeroE Try.prog 101 = some .nilIface := by kernel_rfl
theorem ba_101_1 : baseArr (Value.cells .nilIface) (1 * 1) = #[.nilIface] := by kernel_rfl
theorem ap_101 : apK Try.prog 101 = some (1, 16) := by kernel_rfl
theorem ni_101 : notInt Try.prog 101 = true := by kernel_rfl
theorem ii_94 : notI Try.prog 94 = true := by kernel_rfl
theorem za_103 : zeroA Try.prog 103 = some (.agg #[(.int .i64 (0)), (.int .i64 (0)), (.int .i64 (0))]) := by kernel_rfl
theorem pl_103 : plK Try.prog 103 = some [(0, 1), (1, 1), (2, 1)] := by kernel_rfl
theorem es_104 : elemK Try.prog 104 = some (none, 3) := by kernel_rfl
theorem ze_104 : zeroE Try.prog 104 = some (.agg #[(.int .i64 (0)), (.int .i64 (0)), (.int .i64 (0))]) := by kernel_rfl
theorem ba_104_4 : baseArr (Value.cells (.agg #[(.int .i64 (0)), (.int .i64 (0)), (.int .i64 (0))])) (4 * 3) = #[(.int .i64 (0)), (.int .i64 (0)), (.int .i64 (0)), (.int .i64 (0)), (.int .i64 (0)), (.int .i64 (0)), (.int .i64 (0)), (.int .i64 (0)), (.int .i64 (0)), (.int .i64 (0)), (.int .i64 (0)), (.int .i64 (0))] := by kernel_rfl
theorem lk_104 : lenK Try.prog 104 = some .sl := by kernel_rfl
theorem ia_103 : aggK Try.prog 103 = some (true, 3) := by kernel_rfl
theorem sz_103 : aggSize Try.prog 103 = some 3 := by kernel_rfl
theorem fa_103_2 : fieldAt Try.prog 103 2 = some (2, 1) := by kernel_rfl
theorem fa_103_0 : fieldAt Try.prog 103 0 = some (0, 1) := by kernel_rfl
theorem fa_103_1 : fieldAt Try.prog 103 1 = some (1, 1) := by kernel_rfl

end Go.Proofs.Ytgpcjdhlijompaa.ore
