/-
  Names for the nodes of the code of some functions (projections of their bodies), the step of each node, and the facts of types that they use.
-/
import Derived.Test.YtgpcjdhlijompaaN1
namespace Go.Proofs.Ytgpcjdhlijompaa.ore
open Go.GE
set_option maxRecDepth 100000
noncomputable def n3_0 : Code := sub [] (bodyOf Try.f3)
noncomputable def n3_1 : Code := sub [false] (bodyOf Try.f3)
noncomputable def q3_1 : List Oper := ops [false] Try.f3
noncomputable def n3_2 : Code := sub [true] (bodyOf Try.f3)
noncomputable def n3_3 : Code := sub [true, false] (bodyOf Try.f3)
noncomputable def n3_4 : Code := sub [true, false, false] (bodyOf Try.f3)
noncomputable def q3_4 : List Oper := ops [true, false, false] Try.f3
noncomputable def n3_5 : Code := sub [true, false, true] (bodyOf Try.f3)
noncomputable def n3_6 : Code := sub [true, false, true, false] (bodyOf Try.f3)
noncomputable def n3_7 : Code := sub [true, false, true, false, false] (bodyOf Try.f3)
noncomputable def q3_7 : List Oper := ops [true, false, true, false, false] Try.f3
noncomputable def n3_8 : Code := sub [true, false, true, false, true] (bodyOf Try.f3)
noncomputable def n3_9 : Code := sub [true, false, true, true] (bodyOf Try.f3)
noncomputable def n3_10 : Code := sub [true, true] (bodyOf Try.f3)
noncomputable def n3_11 : Code := sub [true, true, false] (bodyOf Try.f3)
noncomputable def q3_11 : List Oper := ops [true, true, false] Try.f3
noncomputable def n3_12 : Code := sub [true, true, true] (bodyOf Try.f3)
noncomputable def n3_13 : Code := sub [true, true, true, false] (bodyOf Try.f3)
noncomputable def q3_13 : List Oper := ops [true, true, true, false] Try.f3
noncomputable def n3_14 : Code := sub [true, true, true, true] (bodyOf Try.f3)
noncomputable def n3_15 : Code := sub [true, true, true, true, false] (bodyOf Try.f3)
noncomputable def q3_15 : List Oper := ops [true, true, true, true, false] Try.f3
noncomputable def n3_16 : Code := sub [true, true, true, true, true] (bodyOf Try.f3)
theorem body3 : Try.f3.body = some n3_0 := by kernel_rfl
theorem run3 (E : Ev) (args : List Value) (h : List Blk) (hl : args.length ≤ 47) : runB Try.prog E 3 args h = endS Try.prog [.tmp 6] h.length (codeB Try.prog E ⟨3, 47, h.length, none⟩ n3_0 ⟨enumT 0 args, h, []⟩) := GE.run_step Try.func3 body3 (by kernel_rfl) (by decide) (by kernel_rfl) hl
theorem n3_1s (E : Ev) (f : FuncId) (b : Nat) (ro : Option Nat) (st : St) : codeB Try.prog E ⟨f, 47, b, ro⟩ n3_1 st = plainS (runOps Try.prog E b q3_1 (ops [false] Try.f3) st) := GE.region_step (id := 0) (by kernel_rfl) (by kernel_rfl)
theorem n3_4s (E : Ev) (f : FuncId) (b : Nat) (ro : Option Nat) (st : St) : codeB Try.prog E ⟨f, 47, b, ro⟩ n3_4 st = plainS (runOps Try.prog E b q3_4 (ops [true, false, false] Try.f3) st) := GE.region_step (id := 1) (by kernel_rfl) (by kernel_rfl)
theorem n3_7s (E : Ev) (f : FuncId) (b : Nat) (ro : Option Nat) (st : St) : codeB Try.prog E ⟨f, 47, b, ro⟩ n3_7 st = plainS (runOps Try.prog E b q3_7 (ops [true, false, true, false, false] Try.f3) st) := GE.region_step (id := 2) (by kernel_rfl) (by kernel_rfl)
theorem n3_8s (E : Ev) (cx : Cx) (st : St) : codeB Try.prog E cx n3_8 st = some (.ret, st) := GE.ret_step (by kernel_rfl)
theorem n3_6s (E : Ev) (cx : Cx) (st : St) : codeB Try.prog E cx n3_6 st = thenS (codeB Try.prog E cx n3_7 st) (codeB Try.prog E cx n3_8) := GE.seq_step (by kernel_rfl)
theorem n3_9s (E : Ev) (cx : Cx) (st : St) : codeB Try.prog E cx n3_9 st = some (.normal, st) := GE.skip_step (by kernel_rfl)
theorem n3_5s (E : Ev) (cx : Cx) (st : St) : codeB Try.prog E cx n3_5 st = condS (codeB Try.prog E cx n3_6) (codeB Try.prog E cx n3_9) (lk st.σ 14) st := GE.cond_step (c := .tmp 14) (by kernel_rfl)
theorem n3_3s (E : Ev) (cx : Cx) (st : St) : codeB Try.prog E cx n3_3 st = thenS (codeB Try.prog E cx n3_4 st) (codeB Try.prog E cx n3_5) := GE.seq_step (by kernel_rfl)
theorem n3_11s (E : Ev) (f : FuncId) (b : Nat) (ro : Option Nat) (st : St) : codeB Try.prog E ⟨f, 47, b, ro⟩ n3_11 st = plainS (runOps Try.prog E b q3_11 (ops [true, true, false] Try.f3) st) := GE.region_step (id := 3) (by kernel_rfl) (by kernel_rfl)
theorem n3_13s (E : Ev) (f : FuncId) (b : Nat) (ro : Option Nat) (st : St) : codeB Try.prog E ⟨f, 47, b, ro⟩ n3_13 st = plainS (runOps Try.prog E b q3_13 (ops [true, true, true, false] Try.f3) st) := GE.region_step (id := 4) (by kernel_rfl) (by kernel_rfl)
theorem q3_15g3 : gd q3_15 3 = some 31 := by kernel_rfl
theorem q3_15g8 : gd q3_15 8 = some 36 := by kernel_rfl
theorem q3_15g16 : gd q3_15 16 = some 44 := by kernel_rfl
theorem n3_15s (E : Ev) (f : FuncId) (b : Nat) (ro : Option Nat) (st : St) : codeB Try.prog E ⟨f, 47, b, ro⟩ n3_15 st = drawS [0, 0, 3, 7, 15, 15, 63, 127, 255, 511, 1023, 511, 4095, 8191, 16383, 32767, 65535, 131071, 262143, 524287] (runOpsF Try.prog E b q3_15 (ops [true, true, true, true, false] Try.f3) st) := GE.draw_step (id := 5) (by kernel_rfl) (by kernel_rfl) (by kernel_rfl) (by kernel_rfl)
theorem n3_16s (E : Ev) (cx : Cx) (st : St) : codeB Try.prog E cx n3_16 st = some (.ret, st) := GE.ret_step (by kernel_rfl)
theorem n3_14s (E : Ev) (cx : Cx) (st : St) : codeB Try.prog E cx n3_14 st = thenS (codeB Try.prog E cx n3_15 st) (codeB Try.prog E cx n3_16) := GE.seq_step (by kernel_rfl)
theorem n3_12s (E : Ev) (cx : Cx) (st : St) : codeB Try.prog E cx n3_12 st = thenS (codeB Try.prog E cx n3_13 st) (codeB Try.prog E cx n3_14) := GE.seq_step (by kernel_rfl)
theorem n3_10s (E : Ev) (cx : Cx) (st : St) : codeB Try.prog E cx n3_10 st = thenS (codeB Try.prog E cx n3_11 st) (codeB Try.prog E cx n3_12) := GE.seq_step (by kernel_rfl)
theorem n3_2s (E : Ev) (cx : Cx) (st : St) : codeB Try.prog E cx n3_2 st = thenS (codeB Try.prog E cx n3_3 st) (codeB Try.prog E cx n3_10) := GE.seq_step (by kernel_rfl)
theorem n3_0s (E : Ev) (cx : Cx) (st : St) : codeB Try.prog E cx n3_0 st = thenS (codeB Try.prog E cx n3_1 st) (codeB Try.prog E cx n3_2) := GE.seq_step (by kernel_rfl)
noncomputable def n19_0 : Code := sub [] (bodyOf Try.f19)
noncomputable def n19_1 : Code := sub [false] (bodyOf Try.f19)
noncomputable def q19_1 : List Oper := ops [false] Try.f19
noncomputable def n19_2 : Code := sub [true] (bodyOf Try.f19)
noncomputable def n19_3 : Code := sub [true, false] (bodyOf Try.f19)
noncomputable def q19_3 : List Oper := ops [true, false] Try.f19
noncomputable def n19_4 : Code := sub [true, true] (bodyOf Try.f19)
theorem body19 : Try.f19.body = some n19_0 := by kernel_rfl
theorem run19 (E : Ev) (args : List Value) (h : List Blk) (hl : args.length ≤ 4) : runB Try.prog E 19 args h = endS Try.prog [.cell 2 31] h.length (codeB Try.prog E ⟨19, 4, h.length, none⟩ n19_0 ⟨enumT 0 args, h, []⟩) := GE.run_step Try.func19 body19 (by kernel_rfl) (by decide) (by kernel_rfl) hl
theorem n19_1s (E : Ev) (f : FuncId) (b : Nat) (ro : Option Nat) (st : St) : codeB Try.prog E ⟨f, 4, b, ro⟩ n19_1 st = plainS (runOps Try.prog E b q19_1 (ops [false] Try.f19) st) := GE.region_step (id := 0) (by kernel_rfl) (by kernel_rfl)
theorem n19_3s (E : Ev) (f : FuncId) (b : Nat) (ro : Option Nat) (st : St) : codeB Try.prog E ⟨f, 4, b, ro⟩ n19_3 st = plainS (runOps Try.prog E b q19_3 (ops [true, false] Try.f19) st) := GE.region_step (id := 1) (by kernel_rfl) (by kernel_rfl)
theorem n19_4s (E : Ev) (cx : Cx) (st : St) : codeB Try.prog E cx n19_4 st = some (.ret, st) := GE.ret_step (by kernel_rfl)
theorem n19_2s (E : Ev) (cx : Cx) (st : St) : codeB Try.prog E cx n19_2 st = thenS (codeB Try.prog E cx n19_3 st) (codeB Try.prog E cx n19_4) := GE.seq_step (by kernel_rfl)
theorem n19_0s (E : Ev) (cx : Cx) (st : St) : codeB Try.prog E cx n19_0 st = thenS (codeB Try.prog E cx n19_1 st) (codeB Try.prog E cx n19_2) := GE.seq_step (by kernel_rfl)
theorem za_31 : zeroA Try.prog 31 = some (.agg #[(.int .i64 (0)), (.int .i64 (0)), (.int .i64 (0)), (.slice none 0 0)]) := by kernel_rfl
theorem sz_31 : aggSize Try.prog 31 = some 4 := by kernel_rfl

end Go.Proofs.Ytgpcjdhlijompaa.ore
