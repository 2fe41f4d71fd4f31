/-
  Names for the nodes of the code of some functions (projections of their bodies), the step of each node, and the facts of types that they use.
-/
import Derived.Test.YtgpcjdhlijompaaRows
import Derived.Test.YtgpcjdhlijompaaE35
namespace Go.Proofs.Ytgpcjdhlijompaa.ore
open Go.GE
set_option maxRecDepth 100000
noncomputable def n36_0 : Code := sub [] (bodyOf Try.f36)
noncomputable def n36_1 : Code := sub [false] (bodyOf Try.f36)
noncomputable def q36_1 : List Oper := ops [false] Try.f36
noncomputable def n36_2 : Code := sub [true] (bodyOf Try.f36)
noncomputable def n36_3 : Code := sub [true, false] (bodyOf Try.f36)
noncomputable def q36_3 : List Oper := ops [true, false] Try.f36
noncomputable def n36_4 : Code := sub [true, true] (bodyOf Try.f36)
theorem body36 : Try.f36.body = some n36_0 := by kernel_rfl
theorem run36 (E : Ev) (args : List Value) (h : List Blk) (hl : args.length ≤ 15) : runB Try.prog E 36 args h = endS Try.prog [.tmp 6] h.length (codeB Try.prog E ⟨36, 15, h.length, none⟩ n36_0 ⟨enumT 0 args, h, []⟩) := GE.run_step Try.func36 body36 (by kernel_rfl) (by decide) (by kernel_rfl) hl
theorem n36_1s (E : Ev) (f : FuncId) (b : Nat) (ro : Option Nat) (st : St) : codeB Try.prog E ⟨f, 15, b, ro⟩ n36_1 st = plainS (runOps Try.prog E b q36_1 (ops [false] Try.f36) st) := GE.region_step (id := 0) (by kernel_rfl) (by kernel_rfl)
theorem q36_3g3 : gd q36_3 3 = some 10 := by kernel_rfl
theorem n36_3s (E : Ev) (f : FuncId) (b : Nat) (ro : Option Nat) (st : St) : codeB Try.prog E ⟨f, 15, b, ro⟩ n36_3 st = plainS (runOps Try.prog E b q36_3 (ops [true, false] Try.f36) st) := GE.region_step (id := 1) (by kernel_rfl) (by kernel_rfl)
theorem n36_4s (E : Ev) (cx : Cx) (st : St) : codeB Try.prog E cx n36_4 st = some (.ret, st) := GE.ret_step (by kernel_rfl)
theorem n36_2s (E : Ev) (cx : Cx) (st : St) : codeB Try.prog E cx n36_2 st = thenS (codeB Try.prog E cx n36_3 st) (codeB Try.prog E cx n36_4) := GE.seq_step (by kernel_rfl)
theorem n36_0s (E : Ev) (cx : Cx) (st : St) : codeB Try.prog E cx n36_0 st = thenS (codeB Try.prog E cx n36_1 st) (codeB Try.prog E cx n36_2) := GE.seq_step (by kernel_rfl)
noncomputable def n37_0 : Code := sub [] (bodyOf Try.f37)
noncomputable def n37_1 : Code := sub [false] (bodyOf Try.f37)
noncomputable def q37_1 : List Oper := ops [false] Try.f37
noncomputable def n37_2 : Code := sub [true] (bodyOf Try.f37)
noncomputable def n37_3 : Code := sub [true, false] (bodyOf Try.f37)
noncomputable def q37_3 : List Oper := ops [true, false] Try.f37
noncomputable def n37_4 : Code := sub [true, true] (bodyOf Try.f37)
theorem body37 : Try.f37.body = some n37_0 := by kernel_rfl
theorem run37 (E : Ev) (args : List Value) (h : List Blk) (hl : args.length ≤ 12) : runB Try.prog E 37 args h = endS Try.prog [.tmp 4] h.length (codeB Try.prog E ⟨37, 12, h.length, none⟩ n37_0 ⟨enumT 0 args, h, []⟩) := GE.run_step Try.func37 body37 (by kernel_rfl) (by decide) (by kernel_rfl) hl
theorem n37_1s (E : Ev) (f : FuncId) (b : Nat) (ro : Option Nat) (st : St) : codeB Try.prog E ⟨f, 12, b, ro⟩ n37_1 st = plainS (runOps Try.prog E b q37_1 (ops [false] Try.f37) st) := GE.region_step (id := 0) (by kernel_rfl) (by kernel_rfl)
theorem n37_3s (E : Ev) (f : FuncId) (b : Nat) (ro : Option Nat) (st : St) : codeB Try.prog E ⟨f, 12, b, ro⟩ n37_3 st = plainS (runOps Try.prog E b q37_3 (ops [true, false] Try.f37) st) := GE.region_step (id := 1) (by kernel_rfl) (by kernel_rfl)
theorem n37_4s (E : Ev) (cx : Cx) (st : St) : codeB Try.prog E cx n37_4 st = some (.ret, st) := GE.ret_step (by kernel_rfl)
theorem n37_2s (E : Ev) (cx : Cx) (st : St) : codeB Try.prog E cx n37_2 st = thenS (codeB Try.prog E cx n37_3 st) (codeB Try.prog E cx n37_4) := GE.seq_step (by kernel_rfl)
theorem n37_0s (E : Ev) (cx : Cx) (st : St) : codeB Try.prog E cx n37_0 st = thenS (codeB Try.prog E cx n37_1 st) (codeB Try.prog E cx n37_2) := GE.seq_step (by kernel_rfl)
noncomputable def n38_0 : Code := sub [] (bodyOf Try.f38)
noncomputable def n38_1 : Code := sub [false] (bodyOf Try.f38)
noncomputable def q38_1 : List Oper := ops [false] Try.f38
noncomputable def n38_2 : Code := sub [true] (bodyOf Try.f38)
noncomputable def n38_3 : Code := sub [true, false] (bodyOf Try.f38)
noncomputable def q38_3 : List Oper := ops [true, false] Try.f38
noncomputable def n38_4 : Code := sub [true, true] (bodyOf Try.f38)
theorem body38 : Try.f38.body = some n38_0 := by kernel_rfl
theorem run38 (E : Ev) (args : List Value) (h : List Blk) (hl : args.length ≤ 11) : runB Try.prog E 38 args h = endS Try.prog [.tmp 6] h.length (codeB Try.prog E ⟨38, 11, h.length, none⟩ n38_0 ⟨enumT 0 args, h, []⟩) := GE.run_step Try.func38 body38 (by kernel_rfl) (by decide) (by kernel_rfl) hl
theorem n38_1s (E : Ev) (f : FuncId) (b : Nat) (ro : Option Nat) (st : St) : codeB Try.prog E ⟨f, 11, b, ro⟩ n38_1 st = plainS (runOps Try.prog E b q38_1 (ops [false] Try.f38) st) := GE.region_step (id := 0) (by kernel_rfl) (by kernel_rfl)
theorem n38_3s (E : Ev) (f : FuncId) (b : Nat) (ro : Option Nat) (st : St) : codeB Try.prog E ⟨f, 11, b, ro⟩ n38_3 st = plainS (runOps Try.prog E b q38_3 (ops [true, false] Try.f38) st) := GE.region_step (id := 1) (by kernel_rfl) (by kernel_rfl)
theorem n38_4s (E : Ev) (cx : Cx) (st : St) : codeB Try.prog E cx n38_4 st = some (.ret, st) := GE.ret_step (by kernel_rfl)
theorem n38_2s (E : Ev) (cx : Cx) (st : St) : codeB Try.prog E cx n38_2 st = thenS (codeB Try.prog E cx n38_3 st) (codeB Try.prog E cx n38_4) := GE.seq_step (by kernel_rfl)
theorem n38_0s (E : Ev) (cx : Cx) (st : St) : codeB Try.prog E cx n38_0 st = thenS (codeB Try.prog E cx n38_1 st) (codeB Try.prog E cx n38_2) := GE.seq_step (by kernel_rfl)
noncomputable def n39_0 : Code := sub [] (bodyOf Try.f39)
noncomputable def n39_1 : Code := sub [false] (bodyOf Try.f39)
noncomputable def q39_1 : List Oper := ops [false] Try.f39
noncomputable def n39_2 : Code := sub [true] (bodyOf Try.f39)
noncomputable def n39_3 : Code := sub [true, false] (bodyOf Try.f39)
noncomputable def q39_3 : List Oper := ops [true, false] Try.f39
noncomputable def n39_4 : Code := sub [true, true] (bodyOf Try.f39)
noncomputable def n39_5 : Code := sub [true, true, false] (bodyOf Try.f39)
noncomputable def n39_6 : Code := sub [true, true, false, false] (bodyOf Try.f39)
noncomputable def q39_6 : List Oper := ops [true, true, false, false] Try.f39
noncomputable def n39_7 : Code := sub [true, true, false, true] (bodyOf Try.f39)
noncomputable def n39_8 : Code := sub [true, true, false, true, false] (bodyOf Try.f39)
noncomputable def q39_8 : List Oper := ops [true, true, false, true, false] Try.f39
noncomputable def n39_9 : Code := sub [true, true, false, true, true] (bodyOf Try.f39)
noncomputable def n39_10 : Code := sub [true, true, true] (bodyOf Try.f39)
noncomputable def n39_11 : Code := sub [true, true, true, false] (bodyOf Try.f39)
noncomputable def n39_12 : Code := sub [true, true, true, false, false] (bodyOf Try.f39)
noncomputable def q39_12 : List Oper := ops [true, true, true, false, false] Try.f39
noncomputable def n39_13 : Code := sub [true, true, true, false, true] (bodyOf Try.f39)
noncomputable def n39_14 : Code := sub [true, true, true, false, true, false] (bodyOf Try.f39)
noncomputable def q39_14 : List Oper := ops [true, true, true, false, true, false] Try.f39
noncomputable def n39_15 : Code := sub [true, true, true, false, true, true] (bodyOf Try.f39)
noncomputable def n39_16 : Code := sub [true, true, true, true] (bodyOf Try.f39)
noncomputable def n39_17 : Code := sub [true, true, true, true, false] (bodyOf Try.f39)
noncomputable def q39_17 : List Oper := ops [true, true, true, true, false] Try.f39
noncomputable def n39_18 : Code := sub [true, true, true, true, true] (bodyOf Try.f39)
theorem body39 : Try.f39.body = some n39_0 := by kernel_rfl
theorem run39 (E : Ev) (args : List Value) (h : List Blk) (hl : args.length ≤ 18) : runB Try.prog E 39 args h = endS Try.prog [.tmp 4] h.length (codeB Try.prog E ⟨39, 18, h.length, none⟩ n39_0 ⟨enumT 0 args, h, []⟩) := GE.run_step Try.func39 body39 (by kernel_rfl) (by decide) (by kernel_rfl) hl
theorem n39_1s (E : Ev) (f : FuncId) (b : Nat) (ro : Option Nat) (st : St) : codeB Try.prog E ⟨f, 18, b, ro⟩ n39_1 st = plainS (runOps Try.prog E b q39_1 (ops [false] Try.f39) st) := GE.region_step (id := 0) (by kernel_rfl) (by kernel_rfl)
theorem n39_3s (E : Ev) (f : FuncId) (b : Nat) (ro : Option Nat) (st : St) : codeB Try.prog E ⟨f, 18, b, ro⟩ n39_3 st = plainS (runOps Try.prog E b q39_3 (ops [true, false] Try.f39) st) := GE.region_step (id := 1) (by kernel_rfl) (by kernel_rfl)
theorem n39_6s (E : Ev) (f : FuncId) (b : Nat) (ro : Option Nat) (st : St) : codeB Try.prog E ⟨f, 18, b, ro⟩ n39_6 st = plainS (runOps Try.prog E b q39_6 (ops [true, true, false, false] Try.f39) st) := GE.region_step (id := 2) (by kernel_rfl) (by kernel_rfl)
theorem n39_8s (E : Ev) (f : FuncId) (b : Nat) (ro : Option Nat) (st : St) : codeB Try.prog E ⟨f, 18, b, ro⟩ n39_8 st = plainS (runOps Try.prog E b q39_8 (ops [true, true, false, true, false] Try.f39) st) := GE.region_step (id := 3) (by kernel_rfl) (by kernel_rfl)
theorem n39_9s (E : Ev) (cx : Cx) (st : St) : codeB Try.prog E cx n39_9 st = some (.normal, st) := GE.skip_step (by kernel_rfl)
theorem n39_7s (E : Ev) (cx : Cx) (st : St) : codeB Try.prog E cx n39_7 st = condS (codeB Try.prog E cx n39_8) (codeB Try.prog E cx n39_9) (lk st.σ 10) st := GE.cond_step (c := .tmp 10) (by kernel_rfl)
theorem n39_5s (E : Ev) (cx : Cx) (st : St) : codeB Try.prog E cx n39_5 st = thenS (codeB Try.prog E cx n39_6 st) (codeB Try.prog E cx n39_7) := GE.seq_step (by kernel_rfl)
theorem n39_12s (E : Ev) (f : FuncId) (b : Nat) (ro : Option Nat) (st : St) : codeB Try.prog E ⟨f, 18, b, ro⟩ n39_12 st = plainS (runOps Try.prog E b q39_12 (ops [true, true, true, false, false] Try.f39) st) := GE.region_step (id := 4) (by kernel_rfl) (by kernel_rfl)
theorem n39_14s (E : Ev) (f : FuncId) (b : Nat) (ro : Option Nat) (st : St) : codeB Try.prog E ⟨f, 18, b, ro⟩ n39_14 st = plainS (runOps Try.prog E b q39_14 (ops [true, true, true, false, true, false] Try.f39) st) := GE.region_step (id := 5) (by kernel_rfl) (by kernel_rfl)
theorem n39_15s (E : Ev) (cx : Cx) (st : St) : codeB Try.prog E cx n39_15 st = some (.normal, st) := GE.skip_step (by kernel_rfl)
theorem n39_13s (E : Ev) (cx : Cx) (st : St) : codeB Try.prog E cx n39_13 st = condS (codeB Try.prog E cx n39_14) (codeB Try.prog E cx n39_15) (lk st.σ 14) st := GE.cond_step (c := .tmp 14) (by kernel_rfl)
theorem n39_11s (E : Ev) (cx : Cx) (st : St) : codeB Try.prog E cx n39_11 st = thenS (codeB Try.prog E cx n39_12 st) (codeB Try.prog E cx n39_13) := GE.seq_step (by kernel_rfl)
theorem n39_17s (E : Ev) (f : FuncId) (b : Nat) (ro : Option Nat) (st : St) : codeB Try.prog E ⟨f, 18, b, ro⟩ n39_17 st = plainS (runOps Try.prog E b q39_17 (ops [true, true, true, true, false] Try.f39) st) := GE.region_step (id := 6) (by kernel_rfl) (by kernel_rfl)
theorem n39_18s (E : Ev) (cx : Cx) (st : St) : codeB Try.prog E cx n39_18 st = some (.ret, st) := GE.ret_step (by kernel_rfl)
theorem n39_16s (E : Ev) (cx : Cx) (st : St) : codeB Try.prog E cx n39_16 st = thenS (codeB Try.prog E cx n39_17 st) (codeB Try.prog E cx n39_18) := GE.seq_step (by kernel_rfl)
theorem n39_10s (E : Ev) (cx : Cx) (st : St) : codeB Try.prog E cx n39_10 st = thenS (codeB Try.prog E cx n39_11 st) (codeB Try.prog E cx n39_16) := GE.seq_step (by kernel_rfl)
theorem n39_4s (E : Ev) (cx : Cx) (st : St) : codeB Try.prog E cx n39_4 st = thenS (codeB Try.prog E cx n39_5 st) (codeB Try.prog E cx n39_10) := GE.seq_step (by kernel_rfl)
theorem n39_2s (E : Ev) (cx : Cx) (st : St) : codeB Try.prog E cx n39_2 st = thenS (codeB Try.prog E cx n39_3 st) (codeB Try.prog E cx n39_4) := GE.seq_step (by kernel_rfl)
theorem n39_0s (E : Ev) (cx : Cx) (st : St) : codeB Try.prog E cx n39_0 st = thenS (codeB Try.prog E cx n39_1 st) (codeB Try.prog E cx n39_2) := GE.seq_step (by kernel_rfl)
noncomputable def n40_0 : Code := sub [] (bodyOf Try.f40)
noncomputable def n40_1 : Code := sub [false] (bodyOf Try.f40)
noncomputable def q40_1 : List Oper := ops [false] Try.f40
noncomputable def n40_2 : Code := sub [true] (bodyOf Try.f40)
noncomputable def n40_3 : Code := sub [true, false] (bodyOf Try.f40)
noncomputable def q40_3 : List Oper := ops [true, false] Try.f40
noncomputable def n40_4 : Code := sub [true, true] (bodyOf Try.f40)
theorem body40 : Try.f40.body = some n40_0 := by kernel_rfl
theorem run40 (E : Ev) (args : List Value) (h : List Blk) (hl : args.length ≤ 14) : runB Try.prog E 40 args h = endS Try.prog [.tmp 4] h.length (codeB Try.prog E ⟨40, 14, h.length, none⟩ n40_0 ⟨enumT 0 args, h, []⟩) := GE.run_step Try.func40 body40 (by kernel_rfl) (by decide) (by kernel_rfl) hl
theorem n40_1s (E : Ev) (f : FuncId) (b : Nat) (ro : Option Nat) (st : St) : codeB Try.prog E ⟨f, 14, b, ro⟩ n40_1 st = plainS (runOps Try.prog E b q40_1 (ops [false] Try.f40) st) := GE.region_step (id := 0) (by kernel_rfl) (by kernel_rfl)
theorem n40_3s (E : Ev) (f : FuncId) (b : Nat) (ro : Option Nat) (st : St) : codeB Try.prog E ⟨f, 14, b, ro⟩ n40_3 st = plainS (runOps Try.prog E b q40_3 (ops [true, false] Try.f40) st) := GE.region_step (id := 1) (by kernel_rfl) (by kernel_rfl)
theorem n40_4s (E : Ev) (cx : Cx) (st : St) : codeB Try.prog E cx n40_4 st = some (.ret, st) := GE.ret_step (by kernel_rfl)
theorem n40_2s (E : Ev) (cx : Cx) (st : St) : codeB Try.prog E cx n40_2 st = thenS (codeB Try.prog E cx n40_3 st) (codeB Try.prog E cx n40_4) := GE.seq_step (by kernel_rfl)
theorem n40_0s (E : Ev) (cx : Cx) (st : St) : codeB Try.prog E cx n40_0 st = thenS (codeB Try.prog E cx n40_1 st) (codeB Try.prog E cx n40_2) := GE.seq_step (by kernel_rfl)
noncomputable def n41_0 : Code := sub [] (bodyOf Try.f41)
noncomputable def n41_1 : Code := sub [false] (bodyOf Try.f41)
noncomputable def q41_1 : List Oper := ops [false] Try.f41
noncomputable def n41_2 : Code := sub [true] (bodyOf Try.f41)
noncomputable def n41_3 : Code := sub [true, false] (bodyOf Try.f41)
noncomputable def q41_3 : List Oper := ops [true, false] Try.f41
noncomputable def n41_4 : Code := sub [true, true] (bodyOf Try.f41)
theorem body41 : Try.f41.body = some n41_0 := by kernel_rfl
theorem run41 (E : Ev) (args : List Value) (h : List Blk) (hl : args.length ≤ 17) : runB Try.prog E 41 args h = endS Try.prog [.tmp 6] h.length (codeB Try.prog E ⟨41, 17, h.length, none⟩ n41_0 ⟨enumT 0 args, h, []⟩) := GE.run_step Try.func41 body41 (by kernel_rfl) (by decide) (by kernel_rfl) hl
theorem n41_1s (E : Ev) (f : FuncId) (b : Nat) (ro : Option Nat) (st : St) : codeB Try.prog E ⟨f, 17, b, ro⟩ n41_1 st = plainS (runOps Try.prog E b q41_1 (ops [false] Try.f41) st) := GE.region_step (id := 0) (by kernel_rfl) (by kernel_rfl)
theorem n41_3s (E : Ev) (f : FuncId) (b : Nat) (ro : Option Nat) (st : St) : codeB Try.prog E ⟨f, 17, b, ro⟩ n41_3 st = plainS (runOps Try.prog E b q41_3 (ops [true, false] Try.f41) st) := GE.region_step (id := 1) (by kernel_rfl) (by kernel_rfl)
theorem n41_4s (E : Ev) (cx : Cx) (st : St) : codeB Try.prog E cx n41_4 st = some (.ret, st) := GE.ret_step (by kernel_rfl)
theorem n41_2s (E : Ev) (cx : Cx) (st : St) : codeB Try.prog E cx n41_2 st = thenS (codeB Try.prog E cx n41_3 st) (codeB Try.prog E cx n41_4) := GE.seq_step (by kernel_rfl)
theorem n41_0s (E : Ev) (cx : Cx) (st : St) : codeB Try.prog E cx n41_0 st = thenS (codeB Try.prog E cx n41_1 st) (codeB Try.prog E cx n41_2) := GE.seq_step (by kernel_rfl)
noncomputable def n42_0 : Code := sub [] (bodyOf Try.f42)
noncomputable def n42_1 : Code := sub [false] (bodyOf Try.f42)
noncomputable def q42_1 : List Oper := ops [false] Try.f42
noncomputable def n42_2 : Code := sub [true] (bodyOf Try.f42)
noncomputable def n42_3 : Code := sub [true, false] (bodyOf Try.f42)
noncomputable def q42_3 : List Oper := ops [true, false] Try.f42
noncomputable def n42_4 : Code := sub [true, true] (bodyOf Try.f42)
noncomputable def n42_5 : Code := sub [true, true, false] (bodyOf Try.f42)
noncomputable def q42_5 : List Oper := ops [true, true, false] Try.f42
noncomputable def n42_6 : Code := sub [true, true, true] (bodyOf Try.f42)
theorem body42 : Try.f42.body = some n42_0 := by kernel_rfl
theorem run42 (E : Ev) (args : List Value) (h : List Blk) (hl : args.length ≤ 30) : runB Try.prog E 42 args h = endS Try.prog [.tmp 10] h.length (codeB Try.prog E ⟨42, 30, h.length, none⟩ n42_0 ⟨enumT 0 args, h, []⟩) := GE.run_step Try.func42 body42 (by kernel_rfl) (by decide) (by kernel_rfl) hl
theorem n42_1s (E : Ev) (f : FuncId) (b : Nat) (ro : Option Nat) (st : St) : codeB Try.prog E ⟨f, 30, b, ro⟩ n42_1 st = plainS (runOps Try.prog E b q42_1 (ops [false] Try.f42) st) := GE.region_step (id := 0) (by kernel_rfl) (by kernel_rfl)
theorem n42_3s (E : Ev) (f : FuncId) (b : Nat) (ro : Option Nat) (st : St) : codeB Try.prog E ⟨f, 30, b, ro⟩ n42_3 st = drawS [0, 0, 0, 7, 0, 0, 0, 127, 255, 511] (runOpsF Try.prog E b q42_3 (ops [true, false] Try.f42) st) := GE.draw_step (id := 1) (by kernel_rfl) (by kernel_rfl) (by kernel_rfl) (by kernel_rfl)
theorem n42_5s (E : Ev) (f : FuncId) (b : Nat) (ro : Option Nat) (st : St) : codeB Try.prog E ⟨f, 30, b, ro⟩ n42_5 st = plainS (runOps Try.prog E b q42_5 (ops [true, true, false] Try.f42) st) := GE.region_step (id := 2) (by kernel_rfl) (by kernel_rfl)
theorem n42_6s (E : Ev) (cx : Cx) (st : St) : codeB Try.prog E cx n42_6 st = some (.ret, st) := GE.ret_step (by kernel_rfl)
theorem n42_4s (E : Ev) (cx : Cx) (st : St) : codeB Try.prog E cx n42_4 st = thenS (codeB Try.prog E cx n42_5 st) (codeB Try.prog E cx n42_6) := GE.seq_step (by kernel_rfl)
theorem n42_2s (E : Ev) (cx : Cx) (st : St) : codeB Try.prog E cx n42_2 st = thenS (codeB Try.prog E cx n42_3 st) (codeB Try.prog E cx n42_4) := GE.seq_step (by kernel_rfl)
theorem n42_0s (E : Ev) (cx : Cx) (st : St) : codeB Try.prog E cx n42_0 st = thenS (codeB Try.prog E cx n42_1 st) (codeB Try.prog E cx n42_2) := GE.seq_step (by kernel_rfl)
noncomputable def n51_0 : Code := sub [] (bodyOf Try.f51)
noncomputable def n51_1 : Code := sub [false] (bodyOf Try.f51)
noncomputable def q51_1 : List Oper := ops [false] Try.f51
noncomputable def n51_2 : Code := sub [true] (bodyOf Try.f51)
noncomputable def n51_3 : Code := sub [true, false] (bodyOf Try.f51)
noncomputable def q51_3 : List Oper := ops [true, false] Try.f51
noncomputable def n51_4 : Code := sub [true, true] (bodyOf Try.f51)
theorem body51 : Try.f51.body = some n51_0 := by kernel_rfl
theorem run51 (E : Ev) (args : List Value) (h : List Blk) (hl : args.length ≤ 15) : runB Try.prog E 51 args h = endS Try.prog [.tmp 6] h.length (codeB Try.prog E ⟨51, 15, h.length, none⟩ n51_0 ⟨enumT 0 args, h, []⟩) := GE.run_step Try.func51 body51 (by kernel_rfl) (by decide) (by kernel_rfl) hl
theorem n51_1s (E : Ev) (f : FuncId) (b : Nat) (ro : Option Nat) (st : St) : codeB Try.prog E ⟨f, 15, b, ro⟩ n51_1 st = plainS (runOps Try.prog E b q51_1 (ops [false] Try.f51) st) := GE.region_step (id := 0) (by kernel_rfl) (by kernel_rfl)
theorem q51_3g3 : gd q51_3 3 = some 10 := by kernel_rfl
theorem n51_3s (E : Ev) (f : FuncId) (b : Nat) (ro : Option Nat) (st : St) : codeB Try.prog E ⟨f, 15, b, ro⟩ n51_3 st = plainS (runOps Try.prog E b q51_3 (ops [true, false] Try.f51) st) := GE.region_step (id := 1) (by kernel_rfl) (by kernel_rfl)
theorem n51_4s (E : Ev) (cx : Cx) (st : St) : codeB Try.prog E cx n51_4 st = some (.ret, st) := GE.ret_step (by kernel_rfl)
theorem n51_2s (E : Ev) (cx : Cx) (st : St) : codeB Try.prog E cx n51_2 st = thenS (codeB Try.prog E cx n51_3 st) (codeB Try.prog E cx n51_4) := GE.seq_step (by kernel_rfl)
theorem n51_0s (E : Ev) (cx : Cx) (st : St) : codeB Try.prog E cx n51_0 st = thenS (codeB Try.prog E cx n51_1 st) (codeB Try.prog E cx n51_2) := GE.seq_step (by kernel_rfl)
noncomputable def n52_0 : Code := sub [] (bodyOf Try.f52)
noncomputable def n52_1 : Code := sub [false] (bodyOf Try.f52)
noncomputable def q52_1 : List Oper := ops [false] Try.f52
noncomputable def n52_2 : Code := sub [true] (bodyOf Try.f52)
noncomputable def n52_3 : Code := sub [true, false] (bodyOf Try.f52)
noncomputable def q52_3 : List Oper := ops [true, false] Try.f52
noncomputable def n52_4 : Code := sub [true, true] (bodyOf Try.f52)
theorem body52 : Try.f52.body = some n52_0 := by kernel_rfl
theorem run52 (E : Ev) (args : List Value) (h : List Blk) (hl : args.length ≤ 17) : runB Try.prog E 52 args h = endS Try.prog [.tmp 6] h.length (codeB Try.prog E ⟨52, 17, h.length, none⟩ n52_0 ⟨enumT 0 args, h, []⟩) := GE.run_step Try.func52 body52 (by kernel_rfl) (by decide) (by kernel_rfl) hl
theorem n52_1s (E : Ev) (f : FuncId) (b : Nat) (ro : Option Nat) (st : St) : codeB Try.prog E ⟨f, 17, b, ro⟩ n52_1 st = plainS (runOps Try.prog E b q52_1 (ops [false] Try.f52) st) := GE.region_step (id := 0) (by kernel_rfl) (by kernel_rfl)
theorem n52_3s (E : Ev) (f : FuncId) (b : Nat) (ro : Option Nat) (st : St) : codeB Try.prog E ⟨f, 17, b, ro⟩ n52_3 st = plainS (runOps Try.prog E b q52_3 (ops [true, false] Try.f52) st) := GE.region_step (id := 1) (by kernel_rfl) (by kernel_rfl)
theorem n52_4s (E : Ev) (cx : Cx) (st : St) : codeB Try.prog E cx n52_4 st = some (.ret, st) := GE.ret_step (by kernel_rfl)
theorem n52_2s (E : Ev) (cx : Cx) (st : St) : codeB Try.prog E cx n52_2 st = thenS (codeB Try.prog E cx n52_3 st) (codeB Try.prog E cx n52_4) := GE.seq_step (by kernel_rfl)
theorem n52_0s (E : Ev) (cx : Cx) (st : St) : codeB Try.prog E cx n52_0 st = thenS (codeB Try.prog E cx n52_1 st) (codeB Try.prog E cx n52_2) := GE.seq_step (by kernel_rfl)
noncomputable def n17_0 : Code := sub [] (bodyOf Try.f17)
noncomputable def n17_1 : Code := sub [false] (bodyOf Try.f17)
noncomputable def q17_1 : List Oper := ops [false] Try.f17
noncomputable def n17_2 : Code := sub [true] (bodyOf Try.f17)
noncomputable def n17_3 : Code := sub [true, false] (bodyOf Try.f17)
noncomputable def n17_4 : Code := sub [true, false, false] (bodyOf Try.f17)
noncomputable def n17_5 : Code := sub [true, false, false, false] (bodyOf Try.f17)
noncomputable def q17_5 : List Oper := ops [true, false, false, false] Try.f17
noncomputable def n17_6 : Code := sub [true, false, false, true] (bodyOf Try.f17)
noncomputable def n17_7 : Code := sub [true, false, false, true, false] (bodyOf Try.f17)
noncomputable def n17_8 : Code := sub [true, false, false, true, false, false] (bodyOf Try.f17)
noncomputable def q17_8 : List Oper := ops [true, false, false, true, false, false] Try.f17
noncomputable def n17_9 : Code := sub [true, false, false, true, false, true] (bodyOf Try.f17)
noncomputable def n17_10 : Code := sub [true, false, false, true, true] (bodyOf Try.f17)
noncomputable def n17_11 : Code := sub [true, false, false, true, true, false] (bodyOf Try.f17)
noncomputable def q17_11 : List Oper := ops [true, false, false, true, true, false] Try.f17
noncomputable def n17_12 : Code := sub [true, false, false, true, true, true] (bodyOf Try.f17)
noncomputable def n17_13 : Code := sub [true, false, false, true, true, true, false] (bodyOf Try.f17)
noncomputable def n17_14 : Code := sub [true, false, false, true, true, true, false, false] (bodyOf Try.f17)
noncomputable def q17_14 : List Oper := ops [true, false, false, true, true, true, false, false] Try.f17
noncomputable def n17_15 : Code := sub [true, false, false, true, true, true, false, true] (bodyOf Try.f17)
noncomputable def n17_16 : Code := sub [true, false, false, true, true, true, true] (bodyOf Try.f17)
noncomputable def n17_17 : Code := sub [true, true] (bodyOf Try.f17)
noncomputable def n17_18 : Code := sub [true, true, false] (bodyOf Try.f17)
noncomputable def n17_19 : Code := sub [true, true, false, false] (bodyOf Try.f17)
noncomputable def q17_19 : List Oper := ops [true, true, false, false] Try.f17
noncomputable def n17_20 : Code := sub [true, true, false, true] (bodyOf Try.f17)
noncomputable def n17_21 : Code := sub [true, true, false, true, false] (bodyOf Try.f17)
noncomputable def n17_22 : Code := sub [true, true, false, true, false, false] (bodyOf Try.f17)
noncomputable def n17_23 : Code := sub [true, true, false, true, false, false, false] (bodyOf Try.f17)
noncomputable def q17_23 : List Oper := ops [true, true, false, true, false, false, false] Try.f17
noncomputable def n17_24 : Code := sub [true, true, false, true, false, false, true] (bodyOf Try.f17)
noncomputable def n17_25 : Code := sub [true, true, false, true, false, false, true, false] (bodyOf Try.f17)
noncomputable def n17_26 : Code := sub [true, true, false, true, false, false, true, false, false] (bodyOf Try.f17)
noncomputable def n17_27 : Code := sub [true, true, false, true, false, false, true, false, true] (bodyOf Try.f17)
noncomputable def n17_28 : Code := sub [true, true, false, true, false, false, true, true] (bodyOf Try.f17)
noncomputable def n17_29 : Code := sub [true, true, false, true, false, false, true, true, false] (bodyOf Try.f17)
noncomputable def n17_30 : Code := sub [true, true, false, true, false, false, true, true, false, false] (bodyOf Try.f17)
noncomputable def n17_31 : Code := sub [true, true, false, true, false, false, true, true, false, false, false] (bodyOf Try.f17)
noncomputable def q17_31 : List Oper := ops [true, true, false, true, false, false, true, true, false, false, false] Try.f17
noncomputable def n17_32 : Code := sub [true, true, false, true, false, false, true, true, false, false, true] (bodyOf Try.f17)
noncomputable def n17_33 : Code := sub [true, true, false, true, false, false, true, true, false, false, true, false] (bodyOf Try.f17)
noncomputable def q17_33 : List Oper := ops [true, true, false, true, false, false, true, true, false, false, true, false] Try.f17
noncomputable def n17_34 : Code := sub [true, true, false, true, false, false, true, true, false, false, true, true] (bodyOf Try.f17)
noncomputable def n17_35 : Code := sub [true, true, false, true, false, false, true, true, false, false, true, true, false] (bodyOf Try.f17)
noncomputable def n17_36 : Code := sub [true, true, false, true, false, false, true, true, false, false, true, true, false, false] (bodyOf Try.f17)
noncomputable def q17_36 : List Oper := ops [true, true, false, true, false, false, true, true, false, false, true, true, false, false] Try.f17
noncomputable def n17_37 : Code := sub [true, true, false, true, false, false, true, true, false, false, true, true, false, true] (bodyOf Try.f17)
noncomputable def n17_38 : Code := sub [true, true, false, true, false, false, true, true, false, false, true, true, true] (bodyOf Try.f17)
noncomputable def n17_39 : Code := sub [true, true, false, true, false, false, true, true, true] (bodyOf Try.f17)
noncomputable def q17_39 : List Oper := ops [true, true, false, true, false, false, true, true, true] Try.f17
noncomputable def n17_40 : Code := sub [true, true, true] (bodyOf Try.f17)
noncomputable def n17_41 : Code := sub [true, true, true, false] (bodyOf Try.f17)
noncomputable def n17_42 : Code := sub [true, true, true, false, false] (bodyOf Try.f17)
noncomputable def q17_42 : List Oper := ops [true, true, true, false, false] Try.f17
noncomputable def n17_43 : Code := sub [true, true, true, false, true] (bodyOf Try.f17)
noncomputable def n17_44 : Code := sub [true, true, true, false, true, false] (bodyOf Try.f17)
noncomputable def n17_45 : Code := sub [true, true, true, false, true, false, false] (bodyOf Try.f17)
noncomputable def n17_46 : Code := sub [true, true, true, false, true, false, false, false] (bodyOf Try.f17)
noncomputable def q17_46 : List Oper := ops [true, true, true, false, true, false, false, false] Try.f17
noncomputable def n17_47 : Code := sub [true, true, true, false, true, false, false, true] (bodyOf Try.f17)
noncomputable def n17_48 : Code := sub [true, true, true, false, true, false, false, true, false] (bodyOf Try.f17)
noncomputable def n17_49 : Code := sub [true, true, true, false, true, false, false, true, false, false] (bodyOf Try.f17)
noncomputable def n17_50 : Code := sub [true, true, true, false, true, false, false, true, false, true] (bodyOf Try.f17)
noncomputable def n17_51 : Code := sub [true, true, true, false, true, false, false, true, true] (bodyOf Try.f17)
noncomputable def n17_52 : Code := sub [true, true, true, false, true, false, false, true, true, false] (bodyOf Try.f17)
noncomputable def n17_53 : Code := sub [true, true, true, false, true, false, false, true, true, false, false] (bodyOf Try.f17)
noncomputable def n17_54 : Code := sub [true, true, true, false, true, false, false, true, true, false, false, false] (bodyOf Try.f17)
noncomputable def q17_54 : List Oper := ops [true, true, true, false, true, false, false, true, true, false, false, false] Try.f17
noncomputable def n17_55 : Code := sub [true, true, true, false, true, false, false, true, true, false, false, true] (bodyOf Try.f17)
noncomputable def n17_56 : Code := sub [true, true, true, false, true, false, false, true, true, false, false, true, false] (bodyOf Try.f17)
noncomputable def q17_56 : List Oper := ops [true, true, true, false, true, false, false, true, true, false, false, true, false] Try.f17
noncomputable def n17_57 : Code := sub [true, true, true, false, true, false, false, true, true, false, false, true, true] (bodyOf Try.f17)
noncomputable def n17_58 : Code := sub [true, true, true, false, true, false, false, true, true, false, false, true, true, false] (bodyOf Try.f17)
noncomputable def q17_58 : List Oper := ops [true, true, true, false, true, false, false, true, true, false, false, true, true, false] Try.f17
noncomputable def n17_59 : Code := sub [true, true, true, false, true, false, false, true, true, false, false, true, true, true] (bodyOf Try.f17)
noncomputable def n17_60 : Code := sub [true, true, true, false, true, false, false, true, true, false, false, true, true, true, false] (bodyOf Try.f17)
noncomputable def n17_61 : Code := sub [true, true, true, false, true, false, false, true, true, false, false, true, true, true, false, false] (bodyOf Try.f17)
noncomputable def q17_61 : List Oper := ops [true, true, true, false, true, false, false, true, true, false, false, true, true, true, false, false] Try.f17
noncomputable def n17_62 : Code := sub [true, true, true, false, true, false, false, true, true, false, false, true, true, true, false, true] (bodyOf Try.f17)
noncomputable def n17_63 : Code := sub [true, true, true, false, true, false, false, true, true, false, false, true, true, true, true] (bodyOf Try.f17)
noncomputable def n17_64 : Code := sub [true, true, true, false, true, false, false, true, true, true] (bodyOf Try.f17)
noncomputable def q17_64 : List Oper := ops [true, true, true, false, true, false, false, true, true, true] Try.f17
noncomputable def n17_65 : Code := sub [true, true, true, true] (bodyOf Try.f17)
noncomputable def n17_66 : Code := sub [true, true, true, true, false] (bodyOf Try.f17)
noncomputable def q17_66 : List Oper := ops [true, true, true, true, false] Try.f17
noncomputable def n17_67 : Code := sub [true, true, true, true, true] (bodyOf Try.f17)
theorem body17 : Try.f17.body = some n17_0 := by kernel_rfl
theorem run17 (E : Ev) (args : List Value) (h : List Blk) (hl : args.length ≤ 94) : runB Try.prog E 17 args h = endS Try.prog [.tmp 2] h.length (codeB Try.prog E ⟨17, 94, h.length, none⟩ n17_0 ⟨enumT 0 args, h, []⟩) := GE.run_step Try.func17 body17 (by kernel_rfl) (by decide) (by kernel_rfl) hl
theorem n17_1s (E : Ev) (f : FuncId) (b : Nat) (ro : Option Nat) (st : St) : codeB Try.prog E ⟨f, 94, b, ro⟩ n17_1 st = plainS (runOps Try.prog E b q17_1 (ops [false] Try.f17) st) := GE.region_step (id := 0) (by kernel_rfl) (by kernel_rfl)
theorem q17_5g4 : gd q17_5 4 = some 14 := by kernel_rfl
theorem q17_5g10 : gd q17_5 10 = some 20 := by kernel_rfl
theorem n17_5s (E : Ev) (f : FuncId) (b : Nat) (ro : Option Nat) (st : St) : codeB Try.prog E ⟨f, 94, b, ro⟩ n17_5 st = plainS (runOps Try.prog E b q17_5 (ops [true, false, false, false] Try.f17) st) := GE.region_step (id := 1) (by kernel_rfl) (by kernel_rfl)
theorem n17_8s (E : Ev) (f : FuncId) (b : Nat) (ro : Option Nat) (st : St) : codeB Try.prog E ⟨f, 94, b, ro⟩ n17_8 st = plainS (runOps Try.prog E b q17_8 (ops [true, false, false, true, false, false] Try.f17) st) := GE.region_step (id := 2) (by kernel_rfl) (by kernel_rfl)
theorem n17_9s (E : Ev) (cx : Cx) (st : St) : codeB Try.prog E cx n17_9 st = some (.ret, st) := GE.ret_step (by kernel_rfl)
theorem n17_7s (E : Ev) (cx : Cx) (st : St) : codeB Try.prog E cx n17_7 st = thenS (codeB Try.prog E cx n17_8 st) (codeB Try.prog E cx n17_9) := GE.seq_step (by kernel_rfl)
theorem n17_11s (E : Ev) (f : FuncId) (b : Nat) (ro : Option Nat) (st : St) : codeB Try.prog E ⟨f, 94, b, ro⟩ n17_11 st = plainS (runOps Try.prog E b q17_11 (ops [true, false, false, true, true, false] Try.f17) st) := GE.region_step (id := 3) (by kernel_rfl) (by kernel_rfl)
theorem n17_14s (E : Ev) (f : FuncId) (b : Nat) (ro : Option Nat) (st : St) : codeB Try.prog E ⟨f, 94, b, ro⟩ n17_14 st = plainS (runOps Try.prog E b q17_14 (ops [true, false, false, true, true, true, false, false] Try.f17) st) := GE.region_step (id := 4) (by kernel_rfl) (by kernel_rfl)
theorem n17_15s (E : Ev) (cx : Cx) (st : St) : codeB Try.prog E cx n17_15 st = some (.ret, st) := GE.ret_step (by kernel_rfl)
theorem n17_13s (E : Ev) (cx : Cx) (st : St) : codeB Try.prog E cx n17_13 st = thenS (codeB Try.prog E cx n17_14 st) (codeB Try.prog E cx n17_15) := GE.seq_step (by kernel_rfl)
theorem n17_16s (E : Ev) (cx : Cx) (st : St) : codeB Try.prog E cx n17_16 st = some (.normal, st) := GE.skip_step (by kernel_rfl)
theorem n17_12s (E : Ev) (cx : Cx) (st : St) : codeB Try.prog E cx n17_12 st = condS (codeB Try.prog E cx n17_13) (codeB Try.prog E cx n17_16) (lk st.σ 26) st := GE.cond_step (c := .tmp 26) (by kernel_rfl)
theorem n17_10s (E : Ev) (cx : Cx) (st : St) : codeB Try.prog E cx n17_10 st = thenS (codeB Try.prog E cx n17_11 st) (codeB Try.prog E cx n17_12) := GE.seq_step (by kernel_rfl)
theorem n17_6s (E : Ev) (cx : Cx) (st : St) : codeB Try.prog E cx n17_6 st = condS (codeB Try.prog E cx n17_7) (codeB Try.prog E cx n17_10) (lk st.σ 9) st := GE.cond_step (c := .tmp 9) (by kernel_rfl)
theorem n17_4s (E : Ev) (cx : Cx) (st : St) : codeB Try.prog E cx n17_4 st = thenS (codeB Try.prog E cx n17_5 st) (codeB Try.prog E cx n17_6) := GE.seq_step (by kernel_rfl)
theorem n17_3s (E : Ev) (cx : Cx) (st : St) : codeB Try.prog E cx n17_3 st = blockS 0 (codeB Try.prog E cx n17_4 st) st := GE.block_step (by kernel_rfl)
theorem n17_19s (E : Ev) (f : FuncId) (b : Nat) (ro : Option Nat) (st : St) : codeB Try.prog E ⟨f, 94, b, ro⟩ n17_19 st = plainS (runOps Try.prog E b q17_19 (ops [true, true, false, false] Try.f17) st) := GE.region_step (id := 5) (by kernel_rfl) (by kernel_rfl)
theorem n17_23s (E : Ev) (f : FuncId) (b : Nat) (ro : Option Nat) (st : St) : codeB Try.prog E ⟨f, 94, b, ro⟩ n17_23 st = plainS (runOps Try.prog E b q17_23 (ops [true, true, false, true, false, false, false] Try.f17) st) := GE.region_step (id := 6) (by kernel_rfl) (by kernel_rfl)
theorem n17_26s (E : Ev) (cx : Cx) (st : St) : codeB Try.prog E cx n17_26 st = some (.normal, st) := GE.skip_step (by kernel_rfl)
theorem n17_27s (E : Ev) (cx : Cx) (st : St) : codeB Try.prog E cx n17_27 st = some (.exit 1, st) := GE.exit_step (by kernel_rfl)
theorem n17_25s (E : Ev) (cx : Cx) (st : St) : codeB Try.prog E cx n17_25 st = condS (codeB Try.prog E cx n17_26) (codeB Try.prog E cx n17_27) (lk st.σ 40) st := GE.cond_step (c := .tmp 40) (by kernel_rfl)
theorem n17_31s (E : Ev) (f : FuncId) (b : Nat) (ro : Option Nat) (st : St) : codeB Try.prog E ⟨f, 94, b, ro⟩ n17_31 st = plainS (runOps Try.prog E b q17_31 (ops [true, true, false, true, false, false, true, true, false, false, false] Try.f17) st) := GE.region_step (id := 7) (by kernel_rfl) (by kernel_rfl)
theorem n17_33s (E : Ev) (f : FuncId) (b : Nat) (ro : Option Nat) (st : St) : codeB Try.prog E ⟨f, 94, b, ro⟩ n17_33 st = plainS (runOps Try.prog E b q17_33 (ops [true, true, false, true, false, false, true, true, false, false, true, false] Try.f17) st) := GE.region_step (id := 8) (by kernel_rfl) (by kernel_rfl)
theorem n17_36s (E : Ev) (f : FuncId) (b : Nat) (ro : Option Nat) (st : St) : codeB Try.prog E ⟨f, 94, b, ro⟩ n17_36 st = plainS (runOps Try.prog E b q17_36 (ops [true, true, false, true, false, false, true, true, false, false, true, true, false, false] Try.f17) st) := GE.region_step (id := 9) (by kernel_rfl) (by kernel_rfl)
theorem n17_37s (E : Ev) (cx : Cx) (st : St) : codeB Try.prog E cx n17_37 st = some (.ret, st) := GE.ret_step (by kernel_rfl)
theorem n17_35s (E : Ev) (cx : Cx) (st : St) : codeB Try.prog E cx n17_35 st = thenS (codeB Try.prog E cx n17_36 st) (codeB Try.prog E cx n17_37) := GE.seq_step (by kernel_rfl)
theorem n17_38s (E : Ev) (cx : Cx) (st : St) : codeB Try.prog E cx n17_38 st = some (.normal, st) := GE.skip_step (by kernel_rfl)
theorem n17_34s (E : Ev) (cx : Cx) (st : St) : codeB Try.prog E cx n17_34 st = condS (codeB Try.prog E cx n17_35) (codeB Try.prog E cx n17_38) (lk st.σ 45) st := GE.cond_step (c := .tmp 45) (by kernel_rfl)
theorem n17_32s (E : Ev) (cx : Cx) (st : St) : codeB Try.prog E cx n17_32 st = thenS (codeB Try.prog E cx n17_33 st) (codeB Try.prog E cx n17_34) := GE.seq_step (by kernel_rfl)
theorem n17_30s (E : Ev) (cx : Cx) (st : St) : codeB Try.prog E cx n17_30 st = thenS (codeB Try.prog E cx n17_31 st) (codeB Try.prog E cx n17_32) := GE.seq_step (by kernel_rfl)
theorem n17_29s (E : Ev) (cx : Cx) (st : St) : codeB Try.prog E cx n17_29 st = blockS 2 (codeB Try.prog E cx n17_30 st) st := GE.block_step (by kernel_rfl)
theorem n17_39s (E : Ev) (f : FuncId) (b : Nat) (ro : Option Nat) (st : St) : codeB Try.prog E ⟨f, 94, b, ro⟩ n17_39 st = plainS (runOps Try.prog E b q17_39 (ops [true, true, false, true, false, false, true, true, true] Try.f17) st) := GE.region_step (id := 10) (by kernel_rfl) (by kernel_rfl)
theorem n17_28s (E : Ev) (cx : Cx) (st : St) : codeB Try.prog E cx n17_28 st = thenS (codeB Try.prog E cx n17_29 st) (codeB Try.prog E cx n17_39) := GE.seq_step (by kernel_rfl)
theorem n17_24s (E : Ev) (cx : Cx) (st : St) : codeB Try.prog E cx n17_24 st = thenS (codeB Try.prog E cx n17_25 st) (codeB Try.prog E cx n17_28) := GE.seq_step (by kernel_rfl)
theorem n17_22s (E : Ev) (cx : Cx) (st : St) : codeB Try.prog E cx n17_22 st = thenS (codeB Try.prog E cx n17_23 st) (codeB Try.prog E cx n17_24) := GE.seq_step (by kernel_rfl)
theorem n17_21s (E : Ev) (cx : Cx) (st : St) : codeB Try.prog E cx n17_21 st = loopS (fun st' => E.code cx n17_21 st') cx.base (codeB Try.prog E cx n17_22 st) st := GE.loop_step (by kernel_rfl)
theorem n17_20s (E : Ev) (cx : Cx) (st : St) : codeB Try.prog E cx n17_20 st = blockS 1 (codeB Try.prog E cx n17_21 st) st := GE.block_step (by kernel_rfl)
theorem n17_18s (E : Ev) (cx : Cx) (st : St) : codeB Try.prog E cx n17_18 st = thenS (codeB Try.prog E cx n17_19 st) (codeB Try.prog E cx n17_20) := GE.seq_step (by kernel_rfl)
theorem n17_42s (E : Ev) (f : FuncId) (b : Nat) (ro : Option Nat) (st : St) : codeB Try.prog E ⟨f, 94, b, ro⟩ n17_42 st = plainS (runOps Try.prog E b q17_42 (ops [true, true, true, false, false] Try.f17) st) := GE.region_step (id := 11) (by kernel_rfl) (by kernel_rfl)
theorem n17_46s (E : Ev) (f : FuncId) (b : Nat) (ro : Option Nat) (st : St) : codeB Try.prog E ⟨f, 94, b, ro⟩ n17_46 st = plainS (runOps Try.prog E b q17_46 (ops [true, true, true, false, true, false, false, false] Try.f17) st) := GE.region_step (id := 12) (by kernel_rfl) (by kernel_rfl)
theorem n17_49s (E : Ev) (cx : Cx) (st : St) : codeB Try.prog E cx n17_49 st = some (.normal, st) := GE.skip_step (by kernel_rfl)
theorem n17_50s (E : Ev) (cx : Cx) (st : St) : codeB Try.prog E cx n17_50 st = some (.exit 3, st) := GE.exit_step (by kernel_rfl)
theorem n17_48s (E : Ev) (cx : Cx) (st : St) : codeB Try.prog E cx n17_48 st = condS (codeB Try.prog E cx n17_49) (codeB Try.prog E cx n17_50) (lk st.σ 51) st := GE.cond_step (c := .tmp 51) (by kernel_rfl)
theorem n17_54s (E : Ev) (f : FuncId) (b : Nat) (ro : Option Nat) (st : St) : codeB Try.prog E ⟨f, 94, b, ro⟩ n17_54 st = plainS (runOps Try.prog E b q17_54 (ops [true, true, true, false, true, false, false, true, true, false, false, false] Try.f17) st) := GE.region_step (id := 13) (by kernel_rfl) (by kernel_rfl)
theorem n17_56s (E : Ev) (f : FuncId) (b : Nat) (ro : Option Nat) (st : St) : codeB Try.prog E ⟨f, 94, b, ro⟩ n17_56 st = drawS [0, 0, 2, 7, 0, 0, 32, 112, 15, 511] (runOpsF Try.prog E b q17_56 (ops [true, true, true, false, true, false, false, true, true, false, false, true, false] Try.f17) st) := GE.draw_step (id := 14) (by kernel_rfl) (by kernel_rfl) (by kernel_rfl) (by kernel_rfl)
theorem q17_58g2 : gd q17_58 2 = some 65 := by kernel_rfl
theorem q17_58g14 : gd q17_58 14 = some 77 := by kernel_rfl
theorem q17_58g17 : gd q17_58 17 = some 80 := by kernel_rfl
theorem n17_58s (E : Ev) (f : FuncId) (b : Nat) (ro : Option Nat) (st : St) : codeB Try.prog E ⟨f, 94, b, ro⟩ n17_58 st = drawS [0, 1, 3, 7, 7, 7, 7, 71, 7, 487, 1015, 2047, 4095, 8191, 16383, 32767, 65535, 131071, 262143, 262143, 262143, 262143, 262143, 4456447, 15990783, 33292287, 67108863, 134217727, 268435455, 536870911] (runOpsF Try.prog E b q17_58 (ops [true, true, true, false, true, false, false, true, true, false, false, true, true, false] Try.f17) st) := GE.draw_step (id := 15) (by kernel_rfl) (by kernel_rfl) (by kernel_rfl) (by kernel_rfl)
theorem n17_61s (E : Ev) (f : FuncId) (b : Nat) (ro : Option Nat) (st : St) : codeB Try.prog E ⟨f, 94, b, ro⟩ n17_61 st = plainS (runOps Try.prog E b q17_61 (ops [true, true, true, false, true, false, false, true, true, false, false, true, true, true, false, false] Try.f17) st) := GE.region_step (id := 16) (by kernel_rfl) (by kernel_rfl)
theorem n17_62s (E : Ev) (cx : Cx) (st : St) : codeB Try.prog E cx n17_62 st = some (.ret, st) := GE.ret_step (by kernel_rfl)
theorem n17_60s (E : Ev) (cx : Cx) (st : St) : codeB Try.prog E cx n17_60 st = thenS (codeB Try.prog E cx n17_61 st) (codeB Try.prog E cx n17_62) := GE.seq_step (by kernel_rfl)
theorem n17_63s (E : Ev) (cx : Cx) (st : St) : codeB Try.prog E cx n17_63 st = some (.normal, st) := GE.skip_step (by kernel_rfl)
theorem n17_59s (E : Ev) (cx : Cx) (st : St) : codeB Try.prog E cx n17_59 st = condS (codeB Try.prog E cx n17_60) (codeB Try.prog E cx n17_63) (lk st.σ 92) st := GE.cond_step (c := .tmp 92) (by kernel_rfl)
theorem n17_57s (E : Ev) (cx : Cx) (st : St) : codeB Try.prog E cx n17_57 st = thenS (codeB Try.prog E cx n17_58 st) (codeB Try.prog E cx n17_59) := GE.seq_step (by kernel_rfl)
theorem n17_55s (E : Ev) (cx : Cx) (st : St) : codeB Try.prog E cx n17_55 st = thenS (codeB Try.prog E cx n17_56 st) (codeB Try.prog E cx n17_57) := GE.seq_step (by kernel_rfl)
theorem n17_53s (E : Ev) (cx : Cx) (st : St) : codeB Try.prog E cx n17_53 st = thenS (codeB Try.prog E cx n17_54 st) (codeB Try.prog E cx n17_55) := GE.seq_step (by kernel_rfl)
theorem n17_52s (E : Ev) (cx : Cx) (st : St) : codeB Try.prog E cx n17_52 st = blockS 4 (codeB Try.prog E cx n17_53 st) st := GE.block_step (by kernel_rfl)
theorem n17_64s (E : Ev) (f : FuncId) (b : Nat) (ro : Option Nat) (st : St) : codeB Try.prog E ⟨f, 94, b, ro⟩ n17_64 st = plainS (runOps Try.prog E b q17_64 (ops [true, true, true, false, true, false, false, true, true, true] Try.f17) st) := GE.region_step (id := 17) (by kernel_rfl) (by kernel_rfl)
theorem n17_51s (E : Ev) (cx : Cx) (st : St) : codeB Try.prog E cx n17_51 st = thenS (codeB Try.prog E cx n17_52 st) (codeB Try.prog E cx n17_64) := GE.seq_step (by kernel_rfl)
theorem n17_47s (E : Ev) (cx : Cx) (st : St) : codeB Try.prog E cx n17_47 st = thenS (codeB Try.prog E cx n17_48 st) (codeB Try.prog E cx n17_51) := GE.seq_step (by kernel_rfl)
theorem n17_45s (E : Ev) (cx : Cx) (st : St) : codeB Try.prog E cx n17_45 st = thenS (codeB Try.prog E cx n17_46 st) (codeB Try.prog E cx n17_47) := GE.seq_step (by kernel_rfl)
theorem n17_44s (E : Ev) (cx : Cx) (st : St) : codeB Try.prog E cx n17_44 st = loopS (fun st' => E.code cx n17_44 st') cx.base (codeB Try.prog E cx n17_45 st) st := GE.loop_step (by kernel_rfl)
theorem n17_43s (E : Ev) (cx : Cx) (st : St) : codeB Try.prog E cx n17_43 st = blockS 3 (codeB Try.prog E cx n17_44 st) st := GE.block_step (by kernel_rfl)
theorem n17_41s (E : Ev) (cx : Cx) (st : St) : codeB Try.prog E cx n17_41 st = thenS (codeB Try.prog E cx n17_42 st) (codeB Try.prog E cx n17_43) := GE.seq_step (by kernel_rfl)
theorem n17_66s (E : Ev) (f : FuncId) (b : Nat) (ro : Option Nat) (st : St) : codeB Try.prog E ⟨f, 94, b, ro⟩ n17_66 st = plainS (runOps Try.prog E b q17_66 (ops [true, true, true, true, false] Try.f17) st) := GE.region_step (id := 18) (by kernel_rfl) (by kernel_rfl)
theorem n17_67s (E : Ev) (cx : Cx) (st : St) : codeB Try.prog E cx n17_67 st = some (.ret, st) := GE.ret_step (by kernel_rfl)
theorem n17_65s (E : Ev) (cx : Cx) (st : St) : codeB Try.prog E cx n17_65 st = thenS (codeB Try.prog E cx n17_66 st) (codeB Try.prog E cx n17_67) := GE.seq_step (by kernel_rfl)
theorem n17_40s (E : Ev) (cx : Cx) (st : St) : codeB Try.prog E cx n17_40 st = thenS (codeB Try.prog E cx n17_41 st) (codeB Try.prog E cx n17_65) := GE.seq_step (by kernel_rfl)
theorem n17_17s (E : Ev) (cx : Cx) (st : St) : codeB Try.prog E cx n17_17 st = thenS (codeB Try.prog E cx n17_18 st) (codeB Try.prog E cx n17_40) := GE.seq_step (by kernel_rfl)
theorem n17_2s (E : Ev) (cx : Cx) (st : St) : codeB Try.prog E cx n17_2 st = thenS (codeB Try.prog E cx n17_3 st) (codeB Try.prog E cx n17_17) := GE.seq_step (by kernel_rfl)
theorem n17_0s (E : Ev) (cx : Cx) (st : St) : codeB Try.prog E cx n17_0 st = thenS (codeB Try.prog E cx n17_1 st) (codeB Try.prog E cx n17_2) := GE.seq_step (by kernel_rfl)
noncomputable def n18_0 : Code := sub [] (bodyOf Try.f18)
noncomputable def n18_1 : Code := sub [false] (bodyOf Try.f18)
noncomputable def q18_1 : List Oper := ops [false] Try.f18
noncomputable def n18_2 : Code := sub [true] (bodyOf Try.f18)
noncomputable def n18_3 : Code := sub [true, false] (bodyOf Try.f18)
noncomputable def n18_4 : Code := sub [true, false, false] (bodyOf Try.f18)
noncomputable def q18_4 : List Oper := ops [true, false, false] Try.f18
noncomputable def n18_5 : Code := sub [true, false, true] (bodyOf Try.f18)
noncomputable def n18_6 : Code := sub [true, false, true, false] (bodyOf Try.f18)
noncomputable def n18_7 : Code := sub [true, false, true, false, false] (bodyOf Try.f18)
noncomputable def q18_7 : List Oper := ops [true, false, true, false, false] Try.f18
noncomputable def n18_8 : Code := sub [true, false, true, false, true] (bodyOf Try.f18)
noncomputable def n18_9 : Code := sub [true, false, true, true] (bodyOf Try.f18)
noncomputable def n18_10 : Code := sub [true, true] (bodyOf Try.f18)
noncomputable def n18_11 : Code := sub [true, true, false] (bodyOf Try.f18)
noncomputable def n18_12 : Code := sub [true, true, false, false] (bodyOf Try.f18)
noncomputable def q18_12 : List Oper := ops [true, true, false, false] Try.f18
noncomputable def n18_13 : Code := sub [true, true, false, true] (bodyOf Try.f18)
noncomputable def n18_14 : Code := sub [true, true, false, true, false] (bodyOf Try.f18)
noncomputable def n18_15 : Code := sub [true, true, false, true, false, false] (bodyOf Try.f18)
noncomputable def q18_15 : List Oper := ops [true, true, false, true, false, false] Try.f18
noncomputable def n18_16 : Code := sub [true, true, false, true, false, true] (bodyOf Try.f18)
noncomputable def n18_17 : Code := sub [true, true, false, true, true] (bodyOf Try.f18)
noncomputable def n18_18 : Code := sub [true, true, true] (bodyOf Try.f18)
noncomputable def n18_19 : Code := sub [true, true, true, false] (bodyOf Try.f18)
noncomputable def n18_20 : Code := sub [true, true, true, false, false] (bodyOf Try.f18)
noncomputable def q18_20 : List Oper := ops [true, true, true, false, false] Try.f18
noncomputable def n18_21 : Code := sub [true, true, true, false, true] (bodyOf Try.f18)
noncomputable def n18_22 : Code := sub [true, true, true, false, true, false] (bodyOf Try.f18)
noncomputable def n18_23 : Code := sub [true, true, true, false, true, false, false] (bodyOf Try.f18)
noncomputable def n18_24 : Code := sub [true, true, true, false, true, false, false, false] (bodyOf Try.f18)
noncomputable def n18_25 : Code := sub [true, true, true, false, true, false, false, false, false] (bodyOf Try.f18)
noncomputable def q18_25 : List Oper := ops [true, true, true, false, true, false, false, false, false] Try.f18
noncomputable def n18_26 : Code := sub [true, true, true, false, true, false, false, false, true] (bodyOf Try.f18)
noncomputable def n18_27 : Code := sub [true, true, true, false, true, false, false, false, true, false] (bodyOf Try.f18)
noncomputable def n18_28 : Code := sub [true, true, true, false, true, false, false, false, true, true] (bodyOf Try.f18)
noncomputable def n18_29 : Code := sub [true, true, true, false, true, false, false, true] (bodyOf Try.f18)
noncomputable def n18_30 : Code := sub [true, true, true, false, true, false, false, true, false] (bodyOf Try.f18)
noncomputable def n18_31 : Code := sub [true, true, true, false, true, false, false, true, false, false] (bodyOf Try.f18)
noncomputable def n18_32 : Code := sub [true, true, true, false, true, false, false, true, false, false, false] (bodyOf Try.f18)
noncomputable def q18_32 : List Oper := ops [true, true, true, false, true, false, false, true, false, false, false] Try.f18
noncomputable def n18_33 : Code := sub [true, true, true, false, true, false, false, true, false, false, true] (bodyOf Try.f18)
noncomputable def n18_34 : Code := sub [true, true, true, false, true, false, false, true, false, false, true, false] (bodyOf Try.f18)
noncomputable def n18_35 : Code := sub [true, true, true, false, true, false, false, true, false, false, true, false, false] (bodyOf Try.f18)
noncomputable def q18_35 : List Oper := ops [true, true, true, false, true, false, false, true, false, false, true, false, false] Try.f18
noncomputable def n18_36 : Code := sub [true, true, true, false, true, false, false, true, false, false, true, false, true] (bodyOf Try.f18)
noncomputable def n18_37 : Code := sub [true, true, true, false, true, false, false, true, false, false, true, true] (bodyOf Try.f18)
noncomputable def n18_38 : Code := sub [true, true, true, false, true, false, false, true, true] (bodyOf Try.f18)
noncomputable def q18_38 : List Oper := ops [true, true, true, false, true, false, false, true, true] Try.f18
noncomputable def n18_39 : Code := sub [true, true, true, true] (bodyOf Try.f18)
noncomputable def n18_40 : Code := sub [true, true, true, true, false] (bodyOf Try.f18)
noncomputable def n18_41 : Code := sub [true, true, true, true, false, false] (bodyOf Try.f18)
noncomputable def q18_41 : List Oper := ops [true, true, true, true, false, false] Try.f18
noncomputable def n18_42 : Code := sub [true, true, true, true, false, true] (bodyOf Try.f18)
noncomputable def n18_43 : Code := sub [true, true, true, true, false, true, false] (bodyOf Try.f18)
noncomputable def n18_44 : Code := sub [true, true, true, true, false, true, false, false] (bodyOf Try.f18)
noncomputable def n18_45 : Code := sub [true, true, true, true, false, true, false, false, false] (bodyOf Try.f18)
noncomputable def n18_46 : Code := sub [true, true, true, true, false, true, false, false, false, false] (bodyOf Try.f18)
noncomputable def q18_46 : List Oper := ops [true, true, true, true, false, true, false, false, false, false] Try.f18
noncomputable def n18_47 : Code := sub [true, true, true, true, false, true, false, false, false, true] (bodyOf Try.f18)
noncomputable def n18_48 : Code := sub [true, true, true, true, false, true, false, false, false, true, false] (bodyOf Try.f18)
noncomputable def n18_49 : Code := sub [true, true, true, true, false, true, false, false, false, true, true] (bodyOf Try.f18)
noncomputable def n18_50 : Code := sub [true, true, true, true, false, true, false, false, true] (bodyOf Try.f18)
noncomputable def n18_51 : Code := sub [true, true, true, true, false, true, false, false, true, false] (bodyOf Try.f18)
noncomputable def n18_52 : Code := sub [true, true, true, true, false, true, false, false, true, false, false] (bodyOf Try.f18)
noncomputable def n18_53 : Code := sub [true, true, true, true, false, true, false, false, true, false, false, false] (bodyOf Try.f18)
noncomputable def q18_53 : List Oper := ops [true, true, true, true, false, true, false, false, true, false, false, false] Try.f18
noncomputable def n18_54 : Code := sub [true, true, true, true, false, true, false, false, true, false, false, true] (bodyOf Try.f18)
noncomputable def n18_55 : Code := sub [true, true, true, true, false, true, false, false, true, false, false, true, false] (bodyOf Try.f18)
noncomputable def n18_56 : Code := sub [true, true, true, true, false, true, false, false, true, false, false, true, false, false] (bodyOf Try.f18)
noncomputable def n18_57 : Code := sub [true, true, true, true, false, true, false, false, true, false, false, true, false, false, false] (bodyOf Try.f18)
noncomputable def n18_58 : Code := sub [true, true, true, true, false, true, false, false, true, false, false, true, false, false, false, false] (bodyOf Try.f18)
noncomputable def q18_58 : List Oper := ops [true, true, true, true, false, true, false, false, true, false, false, true, false, false, false, false] Try.f18
noncomputable def n18_59 : Code := sub [true, true, true, true, false, true, false, false, true, false, false, true, false, false, false, true] (bodyOf Try.f18)
noncomputable def n18_60 : Code := sub [true, true, true, true, false, true, false, false, true, false, false, true, false, false, false, true, false] (bodyOf Try.f18)
noncomputable def n18_61 : Code := sub [true, true, true, true, false, true, false, false, true, false, false, true, false, false, false, true, true] (bodyOf Try.f18)
noncomputable def n18_62 : Code := sub [true, true, true, true, false, true, false, false, true, false, false, true, false, false, true] (bodyOf Try.f18)
noncomputable def n18_63 : Code := sub [true, true, true, true, false, true, false, false, true, false, false, true, false, false, true, false] (bodyOf Try.f18)
noncomputable def n18_64 : Code := sub [true, true, true, true, false, true, false, false, true, false, false, true, false, false, true, false, false] (bodyOf Try.f18)
noncomputable def n18_65 : Code := sub [true, true, true, true, false, true, false, false, true, false, false, true, false, false, true, false, false, false] (bodyOf Try.f18)
noncomputable def q18_65 : List Oper := ops [true, true, true, true, false, true, false, false, true, false, false, true, false, false, true, false, false, false] Try.f18
noncomputable def n18_66 : Code := sub [true, true, true, true, false, true, false, false, true, false, false, true, false, false, true, false, false, true] (bodyOf Try.f18)
noncomputable def n18_67 : Code := sub [true, true, true, true, false, true, false, false, true, false, false, true, false, false, true, false, false, true, false] (bodyOf Try.f18)
noncomputable def n18_68 : Code := sub [true, true, true, true, false, true, false, false, true, false, false, true, false, false, true, false, false, true, false, false] (bodyOf Try.f18)
noncomputable def q18_68 : List Oper := ops [true, true, true, true, false, true, false, false, true, false, false, true, false, false, true, false, false, true, false, false] Try.f18
noncomputable def n18_69 : Code := sub [true, true, true, true, false, true, false, false, true, false, false, true, false, false, true, false, false, true, false, true] (bodyOf Try.f18)
noncomputable def n18_70 : Code := sub [true, true, true, true, false, true, false, false, true, false, false, true, false, false, true, false, false, true, true] (bodyOf Try.f18)
noncomputable def n18_71 : Code := sub [true, true, true, true, false, true, false, false, true, false, false, true, false, false, true, true] (bodyOf Try.f18)
noncomputable def q18_71 : List Oper := ops [true, true, true, true, false, true, false, false, true, false, false, true, false, false, true, true] Try.f18
noncomputable def n18_72 : Code := sub [true, true, true, true, false, true, false, false, true, true] (bodyOf Try.f18)
noncomputable def q18_72 : List Oper := ops [true, true, true, true, false, true, false, false, true, true] Try.f18
noncomputable def n18_73 : Code := sub [true, true, true, true, true] (bodyOf Try.f18)
noncomputable def n18_74 : Code := sub [true, true, true, true, true, false] (bodyOf Try.f18)
noncomputable def q18_74 : List Oper := ops [true, true, true, true, true, false] Try.f18
noncomputable def n18_75 : Code := sub [true, true, true, true, true, true] (bodyOf Try.f18)
theorem body18 : Try.f18.body = some n18_0 := by kernel_rfl
theorem run18 (E : Ev) (args : List Value) (h : List Blk) (hl : args.length ≤ 83) : runB Try.prog E 18 args h = endS Try.prog [.tmp 2] h.length (codeB Try.prog E ⟨18, 83, h.length, none⟩ n18_0 ⟨enumT 0 args, h, []⟩) := GE.run_step Try.func18 body18 (by kernel_rfl) (by decide) (by kernel_rfl) hl
theorem n18_1s (E : Ev) (f : FuncId) (b : Nat) (ro : Option Nat) (st : St) : codeB Try.prog E ⟨f, 83, b, ro⟩ n18_1 st = plainS (runOps Try.prog E b q18_1 (ops [false] Try.f18) st) := GE.region_step (id := 0) (by kernel_rfl) (by kernel_rfl)
theorem q18_4g4 : gd q18_4 4 = some 10 := by kernel_rfl
theorem q18_4g10 : gd q18_4 10 = some 16 := by kernel_rfl
theorem n18_4s (E : Ev) (f : FuncId) (b : Nat) (ro : Option Nat) (st : St) : codeB Try.prog E ⟨f, 83, b, ro⟩ n18_4 st = plainS (runOps Try.prog E b q18_4 (ops [true, false, false] Try.f18) st) := GE.region_step (id := 1) (by kernel_rfl) (by kernel_rfl)
theorem n18_7s (E : Ev) (f : FuncId) (b : Nat) (ro : Option Nat) (st : St) : codeB Try.prog E ⟨f, 83, b, ro⟩ n18_7 st = plainS (runOps Try.prog E b q18_7 (ops [true, false, true, false, false] Try.f18) st) := GE.region_step (id := 2) (by kernel_rfl) (by kernel_rfl)
theorem n18_8s (E : Ev) (cx : Cx) (st : St) : codeB Try.prog E cx n18_8 st = some (.ret, st) := GE.ret_step (by kernel_rfl)
theorem n18_6s (E : Ev) (cx : Cx) (st : St) : codeB Try.prog E cx n18_6 st = thenS (codeB Try.prog E cx n18_7 st) (codeB Try.prog E cx n18_8) := GE.seq_step (by kernel_rfl)
theorem n18_9s (E : Ev) (cx : Cx) (st : St) : codeB Try.prog E cx n18_9 st = some (.normal, st) := GE.skip_step (by kernel_rfl)
theorem n18_5s (E : Ev) (cx : Cx) (st : St) : codeB Try.prog E cx n18_5 st = condS (codeB Try.prog E cx n18_6) (codeB Try.prog E cx n18_9) (lk st.σ 21) st := GE.cond_step (c := .tmp 21) (by kernel_rfl)
theorem n18_3s (E : Ev) (cx : Cx) (st : St) : codeB Try.prog E cx n18_3 st = thenS (codeB Try.prog E cx n18_4 st) (codeB Try.prog E cx n18_5) := GE.seq_step (by kernel_rfl)
theorem n18_12s (E : Ev) (f : FuncId) (b : Nat) (ro : Option Nat) (st : St) : codeB Try.prog E ⟨f, 83, b, ro⟩ n18_12 st = plainS (runOps Try.prog E b q18_12 (ops [true, true, false, false] Try.f18) st) := GE.region_step (id := 3) (by kernel_rfl) (by kernel_rfl)
theorem n18_15s (E : Ev) (f : FuncId) (b : Nat) (ro : Option Nat) (st : St) : codeB Try.prog E ⟨f, 83, b, ro⟩ n18_15 st = plainS (runOps Try.prog E b q18_15 (ops [true, true, false, true, false, false] Try.f18) st) := GE.region_step (id := 4) (by kernel_rfl) (by kernel_rfl)
theorem n18_16s (E : Ev) (cx : Cx) (st : St) : codeB Try.prog E cx n18_16 st = some (.ret, st) := GE.ret_step (by kernel_rfl)
theorem n18_14s (E : Ev) (cx : Cx) (st : St) : codeB Try.prog E cx n18_14 st = thenS (codeB Try.prog E cx n18_15 st) (codeB Try.prog E cx n18_16) := GE.seq_step (by kernel_rfl)
theorem n18_17s (E : Ev) (cx : Cx) (st : St) : codeB Try.prog E cx n18_17 st = some (.normal, st) := GE.skip_step (by kernel_rfl)
theorem n18_13s (E : Ev) (cx : Cx) (st : St) : codeB Try.prog E cx n18_13 st = condS (codeB Try.prog E cx n18_14) (codeB Try.prog E cx n18_17) (lk st.σ 30) st := GE.cond_step (c := .tmp 30) (by kernel_rfl)
theorem n18_11s (E : Ev) (cx : Cx) (st : St) : codeB Try.prog E cx n18_11 st = thenS (codeB Try.prog E cx n18_12 st) (codeB Try.prog E cx n18_13) := GE.seq_step (by kernel_rfl)
theorem n18_20s (E : Ev) (f : FuncId) (b : Nat) (ro : Option Nat) (st : St) : codeB Try.prog E ⟨f, 83, b, ro⟩ n18_20 st = plainS (runOps Try.prog E b q18_20 (ops [true, true, true, false, false] Try.f18) st) := GE.region_step (id := 5) (by kernel_rfl) (by kernel_rfl)
theorem n18_25s (E : Ev) (f : FuncId) (b : Nat) (ro : Option Nat) (st : St) : codeB Try.prog E ⟨f, 83, b, ro⟩ n18_25 st = plainS (runOps Try.prog E b q18_25 (ops [true, true, true, false, true, false, false, false, false] Try.f18) st) := GE.region_step (id := 6) (by kernel_rfl) (by kernel_rfl)
theorem n18_27s (E : Ev) (cx : Cx) (st : St) : codeB Try.prog E cx n18_27 st = some (.normal, st) := GE.skip_step (by kernel_rfl)
theorem n18_28s (E : Ev) (cx : Cx) (st : St) : codeB Try.prog E cx n18_28 st = some (.exit 0, st) := GE.exit_step (by kernel_rfl)
theorem n18_26s (E : Ev) (cx : Cx) (st : St) : codeB Try.prog E cx n18_26 st = condS (codeB Try.prog E cx n18_27) (codeB Try.prog E cx n18_28) (lk st.σ 35) st := GE.cond_step (c := .tmp 35) (by kernel_rfl)
theorem n18_24s (E : Ev) (cx : Cx) (st : St) : codeB Try.prog E cx n18_24 st = thenS (codeB Try.prog E cx n18_25 st) (codeB Try.prog E cx n18_26) := GE.seq_step (by kernel_rfl)
theorem n18_32s (E : Ev) (f : FuncId) (b : Nat) (ro : Option Nat) (st : St) : codeB Try.prog E ⟨f, 83, b, ro⟩ n18_32 st = plainS (runOps Try.prog E b q18_32 (ops [true, true, true, false, true, false, false, true, false, false, false] Try.f18) st) := GE.region_step (id := 8) (by kernel_rfl) (by kernel_rfl)
theorem n18_35s (E : Ev) (f : FuncId) (b : Nat) (ro : Option Nat) (st : St) : codeB Try.prog E ⟨f, 83, b, ro⟩ n18_35 st = plainS (runOps Try.prog E b q18_35 (ops [true, true, true, false, true, false, false, true, false, false, true, false, false] Try.f18) st) := GE.region_step (id := 9) (by kernel_rfl) (by kernel_rfl)
theorem n18_36s (E : Ev) (cx : Cx) (st : St) : codeB Try.prog E cx n18_36 st = some (.ret, st) := GE.ret_step (by kernel_rfl)
theorem n18_34s (E : Ev) (cx : Cx) (st : St) : codeB Try.prog E cx n18_34 st = thenS (codeB Try.prog E cx n18_35 st) (codeB Try.prog E cx n18_36) := GE.seq_step (by kernel_rfl)
theorem n18_37s (E : Ev) (cx : Cx) (st : St) : codeB Try.prog E cx n18_37 st = some (.normal, st) := GE.skip_step (by kernel_rfl)
theorem n18_33s (E : Ev) (cx : Cx) (st : St) : codeB Try.prog E cx n18_33 st = condS (codeB Try.prog E cx n18_34) (codeB Try.prog E cx n18_37) (lk st.σ 44) st := GE.cond_step (c := .tmp 44) (by kernel_rfl)
theorem n18_31s (E : Ev) (cx : Cx) (st : St) : codeB Try.prog E cx n18_31 st = thenS (codeB Try.prog E cx n18_32 st) (codeB Try.prog E cx n18_33) := GE.seq_step (by kernel_rfl)
theorem n18_30s (E : Ev) (cx : Cx) (st : St) : codeB Try.prog E cx n18_30 st = blockS 1 (codeB Try.prog E cx n18_31 st) st := GE.block_step (by kernel_rfl)
theorem n18_38s (E : Ev) (f : FuncId) (b : Nat) (ro : Option Nat) (st : St) : codeB Try.prog E ⟨f, 83, b, ro⟩ n18_38 st = plainS (runOps Try.prog E b q18_38 (ops [true, true, true, false, true, false, false, true, true] Try.f18) st) := GE.region_step (id := 7) (by kernel_rfl) (by kernel_rfl)
theorem n18_29s (E : Ev) (cx : Cx) (st : St) : codeB Try.prog E cx n18_29 st = thenS (codeB Try.prog E cx n18_30 st) (codeB Try.prog E cx n18_38) := GE.seq_step (by kernel_rfl)
theorem n18_23s (E : Ev) (cx : Cx) (st : St) : codeB Try.prog E cx n18_23 st = thenS (codeB Try.prog E cx n18_24 st) (codeB Try.prog E cx n18_29) := GE.seq_step (by kernel_rfl)
theorem n18_22s (E : Ev) (cx : Cx) (st : St) : codeB Try.prog E cx n18_22 st = loopS (fun st' => E.code cx n18_22 st') cx.base (codeB Try.prog E cx n18_23 st) st := GE.loop_step (by kernel_rfl)
theorem n18_21s (E : Ev) (cx : Cx) (st : St) : codeB Try.prog E cx n18_21 st = blockS 0 (codeB Try.prog E cx n18_22 st) st := GE.block_step (by kernel_rfl)
theorem n18_19s (E : Ev) (cx : Cx) (st : St) : codeB Try.prog E cx n18_19 st = thenS (codeB Try.prog E cx n18_20 st) (codeB Try.prog E cx n18_21) := GE.seq_step (by kernel_rfl)
theorem n18_41s (E : Ev) (f : FuncId) (b : Nat) (ro : Option Nat) (st : St) : codeB Try.prog E ⟨f, 83, b, ro⟩ n18_41 st = plainS (runOps Try.prog E b q18_41 (ops [true, true, true, true, false, false] Try.f18) st) := GE.region_step (id := 10) (by kernel_rfl) (by kernel_rfl)
theorem n18_46s (E : Ev) (f : FuncId) (b : Nat) (ro : Option Nat) (st : St) : codeB Try.prog E ⟨f, 83, b, ro⟩ n18_46 st = plainS (runOps Try.prog E b q18_46 (ops [true, true, true, true, false, true, false, false, false, false] Try.f18) st) := GE.region_step (id := 11) (by kernel_rfl) (by kernel_rfl)
theorem n18_48s (E : Ev) (cx : Cx) (st : St) : codeB Try.prog E cx n18_48 st = some (.normal, st) := GE.skip_step (by kernel_rfl)
theorem n18_49s (E : Ev) (cx : Cx) (st : St) : codeB Try.prog E cx n18_49 st = some (.exit 2, st) := GE.exit_step (by kernel_rfl)
theorem n18_47s (E : Ev) (cx : Cx) (st : St) : codeB Try.prog E cx n18_47 st = condS (codeB Try.prog E cx n18_48) (codeB Try.prog E cx n18_49) (lk st.σ 48) st := GE.cond_step (c := .tmp 48) (by kernel_rfl)
theorem n18_45s (E : Ev) (cx : Cx) (st : St) : codeB Try.prog E cx n18_45 st = thenS (codeB Try.prog E cx n18_46 st) (codeB Try.prog E cx n18_47) := GE.seq_step (by kernel_rfl)
theorem n18_53s (E : Ev) (f : FuncId) (b : Nat) (ro : Option Nat) (st : St) : codeB Try.prog E ⟨f, 83, b, ro⟩ n18_53 st = plainS (runOps Try.prog E b q18_53 (ops [true, true, true, true, false, true, false, false, true, false, false, false] Try.f18) st) := GE.region_step (id := 13) (by kernel_rfl) (by kernel_rfl)
theorem n18_58s (E : Ev) (f : FuncId) (b : Nat) (ro : Option Nat) (st : St) : codeB Try.prog E ⟨f, 83, b, ro⟩ n18_58 st = plainS (runOps Try.prog E b q18_58 (ops [true, true, true, true, false, true, false, false, true, false, false, true, false, false, false, false] Try.f18) st) := GE.region_step (id := 14) (by kernel_rfl) (by kernel_rfl)
theorem n18_60s (E : Ev) (cx : Cx) (st : St) : codeB Try.prog E cx n18_60 st = some (.normal, st) := GE.skip_step (by kernel_rfl)
theorem n18_61s (E : Ev) (cx : Cx) (st : St) : codeB Try.prog E cx n18_61 st = some (.exit 4, st) := GE.exit_step (by kernel_rfl)
theorem n18_59s (E : Ev) (cx : Cx) (st : St) : codeB Try.prog E cx n18_59 st = condS (codeB Try.prog E cx n18_60) (codeB Try.prog E cx n18_61) (lk st.σ 54) st := GE.cond_step (c := .tmp 54) (by kernel_rfl)
theorem n18_57s (E : Ev) (cx : Cx) (st : St) : codeB Try.prog E cx n18_57 st = thenS (codeB Try.prog E cx n18_58 st) (codeB Try.prog E cx n18_59) := GE.seq_step (by kernel_rfl)
theorem q18_65g2 : gd q18_65 2 = some 59 := by kernel_rfl
theorem q18_65g12 : gd q18_65 12 = some 69 := by kernel_rfl
theorem q18_65g15 : gd q18_65 15 = some 72 := by kernel_rfl
theorem n18_65s (E : Ev) (f : FuncId) (b : Nat) (ro : Option Nat) (st : St) : codeB Try.prog E ⟨f, 83, b, ro⟩ n18_65 st = plainS (runOps Try.prog E b q18_65 (ops [true, true, true, true, false, true, false, false, true, false, false, true, false, false, true, false, false, false] Try.f18) st) := GE.region_step (id := 16) (by kernel_rfl) (by kernel_rfl)
theorem n18_68s (E : Ev) (f : FuncId) (b : Nat) (ro : Option Nat) (st : St) : codeB Try.prog E ⟨f, 83, b, ro⟩ n18_68 st = plainS (runOps Try.prog E b q18_68 (ops [true, true, true, true, false, true, false, false, true, false, false, true, false, false, true, false, false, true, false, false] Try.f18) st) := GE.region_step (id := 17) (by kernel_rfl) (by kernel_rfl)
theorem n18_69s (E : Ev) (cx : Cx) (st : St) : codeB Try.prog E cx n18_69 st = some (.ret, st) := GE.ret_step (by kernel_rfl)
theorem n18_67s (E : Ev) (cx : Cx) (st : St) : codeB Try.prog E cx n18_67 st = thenS (codeB Try.prog E cx n18_68 st) (codeB Try.prog E cx n18_69) := GE.seq_step (by kernel_rfl)
theorem n18_70s (E : Ev) (cx : Cx) (st : St) : codeB Try.prog E cx n18_70 st = some (.normal, st) := GE.skip_step (by kernel_rfl)
theorem n18_66s (E : Ev) (cx : Cx) (st : St) : codeB Try.prog E cx n18_66 st = condS (codeB Try.prog E cx n18_67) (codeB Try.prog E cx n18_70) (lk st.σ 82) st := GE.cond_step (c := .tmp 82) (by kernel_rfl)
theorem n18_64s (E : Ev) (cx : Cx) (st : St) : codeB Try.prog E cx n18_64 st = thenS (codeB Try.prog E cx n18_65 st) (codeB Try.prog E cx n18_66) := GE.seq_step (by kernel_rfl)
theorem n18_63s (E : Ev) (cx : Cx) (st : St) : codeB Try.prog E cx n18_63 st = blockS 5 (codeB Try.prog E cx n18_64 st) st := GE.block_step (by kernel_rfl)
theorem n18_71s (E : Ev) (f : FuncId) (b : Nat) (ro : Option Nat) (st : St) : codeB Try.prog E ⟨f, 83, b, ro⟩ n18_71 st = plainS (runOps Try.prog E b q18_71 (ops [true, true, true, true, false, true, false, false, true, false, false, true, false, false, true, true] Try.f18) st) := GE.region_step (id := 15) (by kernel_rfl) (by kernel_rfl)
theorem n18_62s (E : Ev) (cx : Cx) (st : St) : codeB Try.prog E cx n18_62 st = thenS (codeB Try.prog E cx n18_63 st) (codeB Try.prog E cx n18_71) := GE.seq_step (by kernel_rfl)
theorem n18_56s (E : Ev) (cx : Cx) (st : St) : codeB Try.prog E cx n18_56 st = thenS (codeB Try.prog E cx n18_57 st) (codeB Try.prog E cx n18_62) := GE.seq_step (by kernel_rfl)
theorem n18_55s (E : Ev) (cx : Cx) (st : St) : codeB Try.prog E cx n18_55 st = loopS (fun st' => E.code cx n18_55 st') cx.base (codeB Try.prog E cx n18_56 st) st := GE.loop_step (by kernel_rfl)
theorem n18_54s (E : Ev) (cx : Cx) (st : St) : codeB Try.prog E cx n18_54 st = blockS 4 (codeB Try.prog E cx n18_55 st) st := GE.block_step (by kernel_rfl)
theorem n18_52s (E : Ev) (cx : Cx) (st : St) : codeB Try.prog E cx n18_52 st = thenS (codeB Try.prog E cx n18_53 st) (codeB Try.prog E cx n18_54) := GE.seq_step (by kernel_rfl)
theorem n18_51s (E : Ev) (cx : Cx) (st : St) : codeB Try.prog E cx n18_51 st = blockS 3 (codeB Try.prog E cx n18_52 st) st := GE.block_step (by kernel_rfl)
theorem n18_72s (E : Ev) (f : FuncId) (b : Nat) (ro : Option Nat) (st : St) : codeB Try.prog E ⟨f, 83, b, ro⟩ n18_72 st = plainS (runOps Try.prog E b q18_72 (ops [true, true, true, true, false, true, false, false, true, true] Try.f18) st) := GE.region_step (id := 12) (by kernel_rfl) (by kernel_rfl)
theorem n18_50s (E : Ev) (cx : Cx) (st : St) : codeB Try.prog E cx n18_50 st = thenS (codeB Try.prog E cx n18_51 st) (codeB Try.prog E cx n18_72) := GE.seq_step (by kernel_rfl)
theorem n18_44s (E : Ev) (cx : Cx) (st : St) : codeB Try.prog E cx n18_44 st = thenS (codeB Try.prog E cx n18_45 st) (codeB Try.prog E cx n18_50) := GE.seq_step (by kernel_rfl)
theorem n18_43s (E : Ev) (cx : Cx) (st : St) : codeB Try.prog E cx n18_43 st = loopS (fun st' => E.code cx n18_43 st') cx.base (codeB Try.prog E cx n18_44 st) st := GE.loop_step (by kernel_rfl)
theorem n18_42s (E : Ev) (cx : Cx) (st : St) : codeB Try.prog E cx n18_42 st = blockS 2 (codeB Try.prog E cx n18_43 st) st := GE.block_step (by kernel_rfl)
theorem n18_40s (E : Ev) (cx : Cx) (st : St) : codeB Try.prog E cx n18_40 st = thenS (codeB Try.prog E cx n18_41 st) (codeB Try.prog E cx n18_42) := GE.seq_step (by kernel_rfl)
theorem n18_74s (E : Ev) (f : FuncId) (b : Nat) (ro : Option Nat) (st : St) : codeB Try.prog E ⟨f, 83, b, ro⟩ n18_74 st = plainS (runOps Try.prog E b q18_74 (ops [true, true, true, true, true, false] Try.f18) st) := GE.region_step (id := 18) (by kernel_rfl) (by kernel_rfl)
theorem n18_75s (E : Ev) (cx : Cx) (st : St) : codeB Try.prog E cx n18_75 st = some (.ret, st) := GE.ret_step (by kernel_rfl)
theorem n18_73s (E : Ev) (cx : Cx) (st : St) : codeB Try.prog E cx n18_73 st = thenS (codeB Try.prog E cx n18_74 st) (codeB Try.prog E cx n18_75) := GE.seq_step (by kernel_rfl)
theorem n18_39s (E : Ev) (cx : Cx) (st : St) : codeB Try.prog E cx n18_39 st = thenS (codeB Try.prog E cx n18_40 st) (codeB Try.prog E cx n18_73) := GE.seq_step (by kernel_rfl)
theorem n18_18s (E : Ev) (cx : Cx) (st : St) : codeB Try.prog E cx n18_18 st = thenS (codeB Try.prog E cx n18_19 st) (codeB Try.prog E cx n18_39) := GE.seq_step (by kernel_rfl)
theorem n18_10s (E : Ev) (cx : Cx) (st : St) : codeB Try.prog E cx n18_10 st = thenS (codeB Try.prog E cx n18_11 st) (codeB Try.prog E cx n18_18) := GE.seq_step (by kernel_rfl)
theorem n18_2s (E : Ev) (cx : Cx) (st : St) : codeB Try.prog E cx n18_2 st = thenS (codeB Try.prog E cx n18_3 st) (codeB Try.prog E cx n18_10) := GE.seq_step (by kernel_rfl)
theorem n18_0s (E : Ev) (cx : Cx) (st : St) : codeB Try.prog E cx n18_0 st = thenS (codeB Try.prog E cx n18_1 st) (codeB Try.prog E cx n18_2) := GE.seq_step (by kernel_rfl)
noncomputable def n19_0 : Code := sub [] (bodyOf Try.f19)
noncomputable def n19_1 : Code := sub [false] (bodyOf Try.f19)
noncomputable def q19_1 : List Oper := ops [false] Try.f19
noncomputable def n19_2 : Code := sub [true] (bodyOf Try.f19)
noncomputable def n19_3 : Code := sub [true, false] (bodyOf Try.f19)
noncomputable def q19_3 : List Oper := ops [true, false] Try.f19
noncomputable def n19_4 : Code := sub [true, true] (bodyOf Try.f19)
theorem body19 : Try.f19.body = some n19_0 := by kernel_rfl
theorem run19 (E : Ev) (args : List Value) (h : List Blk) (hl : args.length ≤ 4) : runB Try.prog E 19 args h = endS Try.prog [.cell 2 31] h.length (codeB Try.prog E ⟨19, 4, h.length, none⟩ n19_0 ⟨enumT 0 args, h, []⟩) := GE.run_step Try.func19 body19 (by kernel_rfl) (by decide) (by kernel_rfl) hl
theorem n19_1s (E : Ev) (f : FuncId) (b : Nat) (ro : Option Nat) (st : St) : codeB Try.prog E ⟨f, 4, b, ro⟩ n19_1 st = plainS (runOps Try.prog E b q19_1 (ops [false] Try.f19) st) := GE.region_step (id := 0) (by kernel_rfl) (by kernel_rfl)
theorem n19_3s (E : Ev) (f : FuncId) (b : Nat) (ro : Option Nat) (st : St) : codeB Try.prog E ⟨f, 4, b, ro⟩ n19_3 st = plainS (runOps Try.prog E b q19_3 (ops [true, false] Try.f19) st) := GE.region_step (id := 1) (by kernel_rfl) (by kernel_rfl)
theorem n19_4s (E : Ev) (cx : Cx) (st : St) : codeB Try.prog E cx n19_4 st = some (.ret, st) := GE.ret_step (by kernel_rfl)
theorem n19_2s (E : Ev) (cx : Cx) (st : St) : codeB Try.prog E cx n19_2 st = thenS (codeB Try.prog E cx n19_3 st) (codeB Try.prog E cx n19_4) := GE.seq_step (by kernel_rfl)
theorem n19_0s (E : Ev) (cx : Cx) (st : St) : codeB Try.prog E cx n19_0 st = thenS (codeB Try.prog E cx n19_1 st) (codeB Try.prog E cx n19_2) := GE.seq_step (by kernel_rfl)
noncomputable def n43_0 : Code := sub [] (bodyOf Try.f43)
noncomputable def n43_1 : Code := sub [false] (bodyOf Try.f43)
noncomputable def q43_1 : List Oper := ops [false] Try.f43
noncomputable def n43_2 : Code := sub [true] (bodyOf Try.f43)
noncomputable def n43_3 : Code := sub [true, false] (bodyOf Try.f43)
noncomputable def q43_3 : List Oper := ops [true, false] Try.f43
noncomputable def n43_4 : Code := sub [true, true] (bodyOf Try.f43)
theorem body43 : Try.f43.body = some n43_0 := by kernel_rfl
theorem run43 (E : Ev) (args : List Value) (h : List Blk) (hl : args.length ≤ 41) : runB Try.prog E 43 args h = endS Try.prog [.tmp 4] h.length (codeB Try.prog E ⟨43, 41, h.length, none⟩ n43_0 ⟨enumT 0 args, h, []⟩) := GE.run_step Try.func43 body43 (by kernel_rfl) (by decide) (by kernel_rfl) hl
theorem n43_1s (E : Ev) (f : FuncId) (b : Nat) (ro : Option Nat) (st : St) : codeB Try.prog E ⟨f, 41, b, ro⟩ n43_1 st = plainS (runOps Try.prog E b q43_1 (ops [false] Try.f43) st) := GE.region_step (id := 0) (by kernel_rfl) (by kernel_rfl)
theorem q43_3g6 : gd q43_3 6 = some 11 := by kernel_rfl
theorem q43_3g14 : gd q43_3 14 = some 19 := by kernel_rfl
theorem q43_3g25 : gd q43_3 25 = some 30 := by kernel_rfl
theorem n43_3s (E : Ev) (f : FuncId) (b : Nat) (ro : Option Nat) (st : St) : codeB Try.prog E ⟨f, 41, b, ro⟩ n43_3 st = plainS (runOps Try.prog E b q43_3 (ops [true, false] Try.f43) st) := GE.region_step (id := 1) (by kernel_rfl) (by kernel_rfl)
theorem n43_4s (E : Ev) (cx : Cx) (st : St) : codeB Try.prog E cx n43_4 st = some (.ret, st) := GE.ret_step (by kernel_rfl)
theorem n43_2s (E : Ev) (cx : Cx) (st : St) : codeB Try.prog E cx n43_2 st = thenS (codeB Try.prog E cx n43_3 st) (codeB Try.prog E cx n43_4) := GE.seq_step (by kernel_rfl)
theorem n43_0s (E : Ev) (cx : Cx) (st : St) : codeB Try.prog E cx n43_0 st = thenS (codeB Try.prog E cx n43_1 st) (codeB Try.prog E cx n43_2) := GE.seq_step (by kernel_rfl)
noncomputable def n44_0 : Code := sub [] (bodyOf Try.f44)
noncomputable def n44_1 : Code := sub [false] (bodyOf Try.f44)
noncomputable def q44_1 : List Oper := ops [false] Try.f44
noncomputable def n44_2 : Code := sub [true] (bodyOf Try.f44)
noncomputable def n44_3 : Code := sub [true, false] (bodyOf Try.f44)
noncomputable def q44_3 : List Oper := ops [true, false] Try.f44
noncomputable def n44_4 : Code := sub [true, true] (bodyOf Try.f44)
noncomputable def n44_5 : Code := sub [true, true, false] (bodyOf Try.f44)
noncomputable def n44_6 : Code := sub [true, true, false, false] (bodyOf Try.f44)
noncomputable def q44_6 : List Oper := ops [true, true, false, false] Try.f44
noncomputable def n44_7 : Code := sub [true, true, false, true] (bodyOf Try.f44)
noncomputable def n44_8 : Code := sub [true, true, false, true, false] (bodyOf Try.f44)
noncomputable def n44_9 : Code := sub [true, true, false, true, false, false] (bodyOf Try.f44)
noncomputable def q44_9 : List Oper := ops [true, true, false, true, false, false] Try.f44
noncomputable def n44_10 : Code := sub [true, true, false, true, false, true] (bodyOf Try.f44)
noncomputable def n44_11 : Code := sub [true, true, false, true, false, true, false] (bodyOf Try.f44)
noncomputable def n44_12 : Code := sub [true, true, false, true, false, true, false, false] (bodyOf Try.f44)
noncomputable def n44_13 : Code := sub [true, true, false, true, false, true, false, false, false] (bodyOf Try.f44)
noncomputable def q44_13 : List Oper := ops [true, true, false, true, false, true, false, false, false] Try.f44
noncomputable def n44_14 : Code := sub [true, true, false, true, false, true, false, false, true] (bodyOf Try.f44)
noncomputable def n44_15 : Code := sub [true, true, false, true, false, true, false, false, true, false] (bodyOf Try.f44)
noncomputable def q44_15 : List Oper := ops [true, true, false, true, false, true, false, false, true, false] Try.f44
noncomputable def n44_16 : Code := sub [true, true, false, true, false, true, false, false, true, true] (bodyOf Try.f44)
noncomputable def n44_17 : Code := sub [true, true, false, true, false, true, false, true] (bodyOf Try.f44)
noncomputable def q44_17 : List Oper := ops [true, true, false, true, false, true, false, true] Try.f44
noncomputable def n44_18 : Code := sub [true, true, true] (bodyOf Try.f44)
noncomputable def n44_19 : Code := sub [true, true, true, false] (bodyOf Try.f44)
noncomputable def q44_19 : List Oper := ops [true, true, true, false] Try.f44
noncomputable def n44_20 : Code := sub [true, true, true, true] (bodyOf Try.f44)
theorem body44 : Try.f44.body = some n44_0 := by kernel_rfl
theorem run44 (E : Ev) (args : List Value) (h : List Blk) (hl : args.length ≤ 22) : runB Try.prog E 44 args h = endS Try.prog [.tmp 4] h.length (codeB Try.prog E ⟨44, 22, h.length, none⟩ n44_0 ⟨enumT 0 args, h, []⟩) := GE.run_step Try.func44 body44 (by kernel_rfl) (by decide) (by kernel_rfl) hl
theorem n44_1s (E : Ev) (f : FuncId) (b : Nat) (ro : Option Nat) (st : St) : codeB Try.prog E ⟨f, 22, b, ro⟩ n44_1 st = plainS (runOps Try.prog E b q44_1 (ops [false] Try.f44) st) := GE.region_step (id := 0) (by kernel_rfl) (by kernel_rfl)
theorem n44_3s (E : Ev) (f : FuncId) (b : Nat) (ro : Option Nat) (st : St) : codeB Try.prog E ⟨f, 22, b, ro⟩ n44_3 st = plainS (runOps Try.prog E b q44_3 (ops [true, false] Try.f44) st) := GE.region_step (id := 1) (by kernel_rfl) (by kernel_rfl)
theorem n44_6s (E : Ev) (f : FuncId) (b : Nat) (ro : Option Nat) (st : St) : codeB Try.prog E ⟨f, 22, b, ro⟩ n44_6 st = plainS (runOps Try.prog E b q44_6 (ops [true, true, false, false] Try.f44) st) := GE.region_step (id := 2) (by kernel_rfl) (by kernel_rfl)
theorem n44_9s (E : Ev) (f : FuncId) (b : Nat) (ro : Option Nat) (st : St) : codeB Try.prog E ⟨f, 22, b, ro⟩ n44_9 st = plainS (runOps Try.prog E b q44_9 (ops [true, true, false, true, false, false] Try.f44) st) := GE.region_step (id := 3) (by kernel_rfl) (by kernel_rfl)
theorem n44_13s (E : Ev) (f : FuncId) (b : Nat) (ro : Option Nat) (st : St) : codeB Try.prog E ⟨f, 22, b, ro⟩ n44_13 st = plainS (runOps Try.prog E b q44_13 (ops [true, true, false, true, false, true, false, false, false] Try.f44) st) := GE.region_step (id := 4) (by kernel_rfl) (by kernel_rfl)
theorem n44_15s (E : Ev) (f : FuncId) (b : Nat) (ro : Option Nat) (st : St) : codeB Try.prog E ⟨f, 22, b, ro⟩ n44_15 st = drawS [0, 0, 0, 6, 15, 31] (runOpsF Try.prog E b q44_15 (ops [true, true, false, true, false, true, false, false, true, false] Try.f44) st) := GE.draw_step (id := 5) (by kernel_rfl) (by kernel_rfl) (by kernel_rfl) (by kernel_rfl)
theorem n44_16s (E : Ev) (cx : Cx) (st : St) : codeB Try.prog E cx n44_16 st = some (.normal, st) := GE.skip_step (by kernel_rfl)
theorem n44_14s (E : Ev) (cx : Cx) (st : St) : codeB Try.prog E cx n44_14 st = condS (codeB Try.prog E cx n44_15) (codeB Try.prog E cx n44_16) (lk st.σ 13) st := GE.cond_step (c := .tmp 13) (by kernel_rfl)
theorem n44_12s (E : Ev) (cx : Cx) (st : St) : codeB Try.prog E cx n44_12 st = thenS (codeB Try.prog E cx n44_13 st) (codeB Try.prog E cx n44_14) := GE.seq_step (by kernel_rfl)
theorem n44_17s (E : Ev) (f : FuncId) (b : Nat) (ro : Option Nat) (st : St) : codeB Try.prog E ⟨f, 22, b, ro⟩ n44_17 st = plainS (runOps Try.prog E b q44_17 (ops [true, true, false, true, false, true, false, true] Try.f44) st) := GE.region_step (id := 6) (by kernel_rfl) (by kernel_rfl)
theorem n44_11s (E : Ev) (cx : Cx) (st : St) : codeB Try.prog E cx n44_11 st = thenS (codeB Try.prog E cx n44_12 st) (codeB Try.prog E cx n44_17) := GE.seq_step (by kernel_rfl)
theorem n44_10s (E : Ev) (cx : Cx) (st : St) : codeB Try.prog E cx n44_10 st = blockS 1 (codeB Try.prog E cx n44_11 st) st := GE.block_step (by kernel_rfl)
theorem n44_8e : n44_8 = .rangeFunc (.tmp 10) #[11] n44_9 n44_10 := by kernel_rfl
theorem n44_8k : (ue n44_9).1 ++ (ue n44_10).1 = [11, 6, 5, 7] := by kernel_rfl
theorem n44_7s (E : Ev) (cx : Cx) (st : St) : codeB Try.prog E cx n44_7 st = blockS 0 (codeB Try.prog E cx n44_8 st) st := GE.block_step (by kernel_rfl)
theorem n44_5s (E : Ev) (cx : Cx) (st : St) : codeB Try.prog E cx n44_5 st = thenS (codeB Try.prog E cx n44_6 st) (codeB Try.prog E cx n44_7) := GE.seq_step (by kernel_rfl)
theorem n44_19s (E : Ev) (f : FuncId) (b : Nat) (ro : Option Nat) (st : St) : codeB Try.prog E ⟨f, 22, b, ro⟩ n44_19 st = plainS (runOps Try.prog E b q44_19 (ops [true, true, true, false] Try.f44) st) := GE.region_step (id := 7) (by kernel_rfl) (by kernel_rfl)
theorem n44_20s (E : Ev) (cx : Cx) (st : St) : codeB Try.prog E cx n44_20 st = some (.ret, st) := GE.ret_step (by kernel_rfl)
theorem n44_18s (E : Ev) (cx : Cx) (st : St) : codeB Try.prog E cx n44_18 st = thenS (codeB Try.prog E cx n44_19 st) (codeB Try.prog E cx n44_20) := GE.seq_step (by kernel_rfl)
theorem n44_4s (E : Ev) (cx : Cx) (st : St) : codeB Try.prog E cx n44_4 st = thenS (codeB Try.prog E cx n44_5 st) (codeB Try.prog E cx n44_18) := GE.seq_step (by kernel_rfl)
theorem n44_2s (E : Ev) (cx : Cx) (st : St) : codeB Try.prog E cx n44_2 st = thenS (codeB Try.prog E cx n44_3 st) (codeB Try.prog E cx n44_4) := GE.seq_step (by kernel_rfl)
theorem n44_0s (E : Ev) (cx : Cx) (st : St) : codeB Try.prog E cx n44_0 st = thenS (codeB Try.prog E cx n44_1 st) (codeB Try.prog E cx n44_2) := GE.seq_step (by kernel_rfl)
noncomputable def n53_0 : Code := sub [] (bodyOf Try.f53)
noncomputable def n53_1 : Code := sub [false] (bodyOf Try.f53)
noncomputable def q53_1 : List Oper := ops [false] Try.f53
noncomputable def n53_2 : Code := sub [true] (bodyOf Try.f53)
noncomputable def n53_3 : Code := sub [true, false] (bodyOf Try.f53)
noncomputable def q53_3 : List Oper := ops [true, false] Try.f53
noncomputable def n53_4 : Code := sub [true, true] (bodyOf Try.f53)
theorem body53 : Try.f53.body = some n53_0 := by kernel_rfl
theorem run53 (E : Ev) (args : List Value) (h : List Blk) (hl : args.length ≤ 6) : runB Try.prog E 53 args h = endS Try.prog [.tmp 4] h.length (codeB Try.prog E ⟨53, 6, h.length, none⟩ n53_0 ⟨enumT 0 args, h, []⟩) := GE.run_step Try.func53 body53 (by kernel_rfl) (by decide) (by kernel_rfl) hl
theorem n53_1s (E : Ev) (f : FuncId) (b : Nat) (ro : Option Nat) (st : St) : codeB Try.prog E ⟨f, 6, b, ro⟩ n53_1 st = plainS (runOps Try.prog E b q53_1 (ops [false] Try.f53) st) := GE.region_step (id := 0) (by kernel_rfl) (by kernel_rfl)
theorem n53_3s (E : Ev) (f : FuncId) (b : Nat) (ro : Option Nat) (st : St) : codeB Try.prog E ⟨f, 6, b, ro⟩ n53_3 st = plainS (runOps Try.prog E b q53_3 (ops [true, false] Try.f53) st) := GE.region_step (id := 1) (by kernel_rfl) (by kernel_rfl)
theorem n53_4s (E : Ev) (cx : Cx) (st : St) : codeB Try.prog E cx n53_4 st = some (.ret, st) := GE.ret_step (by kernel_rfl)
theorem n53_2s (E : Ev) (cx : Cx) (st : St) : codeB Try.prog E cx n53_2 st = thenS (codeB Try.prog E cx n53_3 st) (codeB Try.prog E cx n53_4) := GE.seq_step (by kernel_rfl)
theorem n53_0s (E : Ev) (cx : Cx) (st : St) : codeB Try.prog E cx n53_0 st = thenS (codeB Try.prog E cx n53_1 st) (codeB Try.prog E cx n53_2) := GE.seq_step (by kernel_rfl)
noncomputable def n56_0 : Code := sub [] (bodyOf Try.f56)
noncomputable def n56_1 : Code := sub [false] (bodyOf Try.f56)
noncomputable def q56_1 : List Oper := ops [false] Try.f56
noncomputable def n56_2 : Code := sub [true] (bodyOf Try.f56)
noncomputable def n56_3 : Code := sub [true, false] (bodyOf Try.f56)
noncomputable def n56_4 : Code := sub [true, false, false] (bodyOf Try.f56)
noncomputable def q56_4 : List Oper := ops [true, false, false] Try.f56
noncomputable def n56_5 : Code := sub [true, false, true] (bodyOf Try.f56)
noncomputable def n56_6 : Code := sub [true, false, true, false] (bodyOf Try.f56)
noncomputable def n56_7 : Code := sub [true, false, true, false, false] (bodyOf Try.f56)
noncomputable def n56_8 : Code := sub [true, false, true, false, false, false] (bodyOf Try.f56)
noncomputable def q56_8 : List Oper := ops [true, false, true, false, false, false] Try.f56
noncomputable def n56_9 : Code := sub [true, false, true, false, false, true] (bodyOf Try.f56)
noncomputable def n56_10 : Code := sub [true, false, true, false, false, true, false] (bodyOf Try.f56)
noncomputable def n56_11 : Code := sub [true, false, true, false, false, true, false, false] (bodyOf Try.f56)
noncomputable def n56_12 : Code := sub [true, false, true, false, false, true, false, true] (bodyOf Try.f56)
noncomputable def n56_13 : Code := sub [true, false, true, false, false, true, true] (bodyOf Try.f56)
noncomputable def n56_14 : Code := sub [true, false, true, false, false, true, true, false] (bodyOf Try.f56)
noncomputable def n56_15 : Code := sub [true, false, true, false, false, true, true, false, false] (bodyOf Try.f56)
noncomputable def n56_16 : Code := sub [true, false, true, false, false, true, true, false, false, false] (bodyOf Try.f56)
noncomputable def q56_16 : List Oper := ops [true, false, true, false, false, true, true, false, false, false] Try.f56
noncomputable def n56_17 : Code := sub [true, false, true, false, false, true, true, false, false, true] (bodyOf Try.f56)
noncomputable def n56_18 : Code := sub [true, false, true, false, false, true, true, false, false, true, false] (bodyOf Try.f56)
noncomputable def q56_18 : List Oper := ops [true, false, true, false, false, true, true, false, false, true, false] Try.f56
noncomputable def n56_19 : Code := sub [true, false, true, false, false, true, true, false, false, true, true] (bodyOf Try.f56)
noncomputable def n56_20 : Code := sub [true, false, true, false, false, true, true, false, false, true, true, false] (bodyOf Try.f56)
noncomputable def n56_21 : Code := sub [true, false, true, false, false, true, true, false, false, true, true, false, false] (bodyOf Try.f56)
noncomputable def n56_22 : Code := sub [true, false, true, false, false, true, true, false, false, true, true, false, false, false] (bodyOf Try.f56)
noncomputable def q56_22 : List Oper := ops [true, false, true, false, false, true, true, false, false, true, true, false, false, false] Try.f56
noncomputable def n56_23 : Code := sub [true, false, true, false, false, true, true, false, false, true, true, false, false, true] (bodyOf Try.f56)
noncomputable def n56_24 : Code := sub [true, false, true, false, false, true, true, false, false, true, true, false, false, true, false] (bodyOf Try.f56)
noncomputable def n56_25 : Code := sub [true, false, true, false, false, true, true, false, false, true, true, false, false, true, false, false] (bodyOf Try.f56)
noncomputable def n56_26 : Code := sub [true, false, true, false, false, true, true, false, false, true, true, false, false, true, false, true] (bodyOf Try.f56)
noncomputable def n56_27 : Code := sub [true, false, true, false, false, true, true, false, false, true, true, false, false, true, true] (bodyOf Try.f56)
noncomputable def n56_28 : Code := sub [true, false, true, false, false, true, true, false, false, true, true, false, false, true, true, false] (bodyOf Try.f56)
noncomputable def n56_29 : Code := sub [true, false, true, false, false, true, true, false, false, true, true, false, false, true, true, false, false] (bodyOf Try.f56)
noncomputable def n56_30 : Code := sub [true, false, true, false, false, true, true, false, false, true, true, false, false, true, true, false, false, false] (bodyOf Try.f56)
noncomputable def n56_31 : Code := sub [true, false, true, false, false, true, true, false, false, true, true, false, false, true, true, false, false, false, false] (bodyOf Try.f56)
noncomputable def q56_31 : List Oper := ops [true, false, true, false, false, true, true, false, false, true, true, false, false, true, true, false, false, false, false] Try.f56
noncomputable def n56_32 : Code := sub [true, false, true, false, false, true, true, false, false, true, true, false, false, true, true, false, false, false, true] (bodyOf Try.f56)
noncomputable def n56_33 : Code := sub [true, false, true, false, false, true, true, false, false, true, true, false, false, true, true, false, false, false, true, false] (bodyOf Try.f56)
noncomputable def n56_34 : Code := sub [true, false, true, false, false, true, true, false, false, true, true, false, false, true, true, false, false, false, true, true] (bodyOf Try.f56)
noncomputable def n56_35 : Code := sub [true, false, true, false, false, true, true, false, false, true, true, false, false, true, true, false, false, true] (bodyOf Try.f56)
noncomputable def q56_35 : List Oper := ops [true, false, true, false, false, true, true, false, false, true, true, false, false, true, true, false, false, true] Try.f56
noncomputable def n56_36 : Code := sub [true, false, true, false, false, true, true, false, false, true, true, false, false, true, true, true] (bodyOf Try.f56)
noncomputable def q56_36 : List Oper := ops [true, false, true, false, false, true, true, false, false, true, true, false, false, true, true, true] Try.f56
noncomputable def n56_37 : Code := sub [true, false, true, false, false, true, true, true] (bodyOf Try.f56)
noncomputable def q56_37 : List Oper := ops [true, false, true, false, false, true, true, true] Try.f56
noncomputable def n56_38 : Code := sub [true, true] (bodyOf Try.f56)
noncomputable def q56_38 : List Oper := ops [true, true] Try.f56
theorem body56 : Try.f56.body = some n56_0 := by kernel_rfl
theorem run56 (E : Ev) (args : List Value) (h : List Blk) (hl : args.length ≤ 57) : runB Try.prog E 56 args h = endS Try.prog [] h.length (codeB Try.prog E ⟨56, 57, h.length, none⟩ n56_0 ⟨enumT 0 args, h, []⟩) := GE.run_step Try.func56 body56 (by kernel_rfl) (by decide) (by kernel_rfl) hl
theorem n56_1s (E : Ev) (f : FuncId) (b : Nat) (ro : Option Nat) (st : St) : codeB Try.prog E ⟨f, 57, b, ro⟩ n56_1 st = drawS [0, 1, 0, 4, 3, 31] (runOpsF Try.prog E b q56_1 (ops [false] Try.f56) st) := GE.draw_step (id := 0) (by kernel_rfl) (by kernel_rfl) (by kernel_rfl) (by kernel_rfl)
theorem n56_4s (E : Ev) (f : FuncId) (b : Nat) (ro : Option Nat) (st : St) : codeB Try.prog E ⟨f, 57, b, ro⟩ n56_4 st = plainS (runOps Try.prog E b q56_4 (ops [true, false, false] Try.f56) st) := GE.region_step (id := 1) (by kernel_rfl) (by kernel_rfl)
theorem n56_8s (E : Ev) (f : FuncId) (b : Nat) (ro : Option Nat) (st : St) : codeB Try.prog E ⟨f, 57, b, ro⟩ n56_8 st = plainS (runOps Try.prog E b q56_8 (ops [true, false, true, false, false, false] Try.f56) st) := GE.region_step (id := 2) (by kernel_rfl) (by kernel_rfl)
theorem n56_11s (E : Ev) (cx : Cx) (st : St) : codeB Try.prog E cx n56_11 st = some (.normal, st) := GE.skip_step (by kernel_rfl)
theorem n56_12s (E : Ev) (cx : Cx) (st : St) : codeB Try.prog E cx n56_12 st = some (.exit 0, st) := GE.exit_step (by kernel_rfl)
theorem n56_10s (E : Ev) (cx : Cx) (st : St) : codeB Try.prog E cx n56_10 st = condS (codeB Try.prog E cx n56_11) (codeB Try.prog E cx n56_12) (lk st.σ 27) st := GE.cond_step (c := .tmp 27) (by kernel_rfl)
theorem n56_16s (E : Ev) (f : FuncId) (b : Nat) (ro : Option Nat) (st : St) : codeB Try.prog E ⟨f, 57, b, ro⟩ n56_16 st = plainS (runOps Try.prog E b q56_16 (ops [true, false, true, false, false, true, true, false, false, false] Try.f56) st) := GE.region_step (id := 3) (by kernel_rfl) (by kernel_rfl)
theorem n56_18s (E : Ev) (f : FuncId) (b : Nat) (ro : Option Nat) (st : St) : codeB Try.prog E ⟨f, 57, b, ro⟩ n56_18 st = plainS (runOps Try.prog E b q56_18 (ops [true, false, true, false, false, true, true, false, false, true, false] Try.f56) st) := GE.region_step (id := 4) (by kernel_rfl) (by kernel_rfl)
theorem n56_22s (E : Ev) (f : FuncId) (b : Nat) (ro : Option Nat) (st : St) : codeB Try.prog E ⟨f, 57, b, ro⟩ n56_22 st = plainS (runOps Try.prog E b q56_22 (ops [true, false, true, false, false, true, true, false, false, true, true, false, false, false] Try.f56) st) := GE.region_step (id := 5) (by kernel_rfl) (by kernel_rfl)
theorem n56_25s (E : Ev) (cx : Cx) (st : St) : codeB Try.prog E cx n56_25 st = some (.normal, st) := GE.skip_step (by kernel_rfl)
theorem n56_26s (E : Ev) (cx : Cx) (st : St) : codeB Try.prog E cx n56_26 st = some (.exit 2, st) := GE.exit_step (by kernel_rfl)
theorem n56_24s (E : Ev) (cx : Cx) (st : St) : codeB Try.prog E cx n56_24 st = condS (codeB Try.prog E cx n56_25) (codeB Try.prog E cx n56_26) (lk st.σ 33) st := GE.cond_step (c := .tmp 33) (by kernel_rfl)
theorem n56_31s (E : Ev) (f : FuncId) (b : Nat) (ro : Option Nat) (st : St) : codeB Try.prog E ⟨f, 57, b, ro⟩ n56_31 st = plainS (runOps Try.prog E b q56_31 (ops [true, false, true, false, false, true, true, false, false, true, true, false, false, true, true, false, false, false, false] Try.f56) st) := GE.region_step (id := 6) (by kernel_rfl) (by kernel_rfl)
theorem n56_33s (E : Ev) (cx : Cx) (st : St) : codeB Try.prog E cx n56_33 st = some (.ret, st) := GE.ret_step (by kernel_rfl)
theorem n56_34s (E : Ev) (cx : Cx) (st : St) : codeB Try.prog E cx n56_34 st = some (.normal, st) := GE.skip_step (by kernel_rfl)
theorem n56_32s (E : Ev) (cx : Cx) (st : St) : codeB Try.prog E cx n56_32 st = condS (codeB Try.prog E cx n56_33) (codeB Try.prog E cx n56_34) (lk st.σ 40) st := GE.cond_step (c := .tmp 40) (by kernel_rfl)
theorem n56_30s (E : Ev) (cx : Cx) (st : St) : codeB Try.prog E cx n56_30 st = thenS (codeB Try.prog E cx n56_31 st) (codeB Try.prog E cx n56_32) := GE.seq_step (by kernel_rfl)
theorem n56_35s (E : Ev) (f : FuncId) (b : Nat) (ro : Option Nat) (st : St) : codeB Try.prog E ⟨f, 57, b, ro⟩ n56_35 st = drawS [0, 0, 2, 7, 0, 0, 32, 112, 15, 511] (runOpsF Try.prog E b q56_35 (ops [true, false, true, false, false, true, true, false, false, true, true, false, false, true, true, false, false, true] Try.f56) st) := GE.draw_step (id := 7) (by kernel_rfl) (by kernel_rfl) (by kernel_rfl) (by kernel_rfl)
theorem n56_29s (E : Ev) (cx : Cx) (st : St) : codeB Try.prog E cx n56_29 st = thenS (codeB Try.prog E cx n56_30 st) (codeB Try.prog E cx n56_35) := GE.seq_step (by kernel_rfl)
theorem n56_28s (E : Ev) (cx : Cx) (st : St) : codeB Try.prog E cx n56_28 st = blockS 3 (codeB Try.prog E cx n56_29 st) st := GE.block_step (by kernel_rfl)
theorem n56_36s (E : Ev) (f : FuncId) (b : Nat) (ro : Option Nat) (st : St) : codeB Try.prog E ⟨f, 57, b, ro⟩ n56_36 st = plainS (runOps Try.prog E b q56_36 (ops [true, false, true, false, false, true, true, false, false, true, true, false, false, true, true, true] Try.f56) st) := GE.region_step (id := 8) (by kernel_rfl) (by kernel_rfl)
theorem n56_27s (E : Ev) (cx : Cx) (st : St) : codeB Try.prog E cx n56_27 st = thenS (codeB Try.prog E cx n56_28 st) (codeB Try.prog E cx n56_36) := GE.seq_step (by kernel_rfl)
theorem n56_23s (E : Ev) (cx : Cx) (st : St) : codeB Try.prog E cx n56_23 st = thenS (codeB Try.prog E cx n56_24 st) (codeB Try.prog E cx n56_27) := GE.seq_step (by kernel_rfl)
theorem n56_21s (E : Ev) (cx : Cx) (st : St) : codeB Try.prog E cx n56_21 st = thenS (codeB Try.prog E cx n56_22 st) (codeB Try.prog E cx n56_23) := GE.seq_step (by kernel_rfl)
theorem n56_20s (E : Ev) (cx : Cx) (st : St) : codeB Try.prog E cx n56_20 st = loopS (fun st' => E.code cx n56_20 st') cx.base (codeB Try.prog E cx n56_21 st) st := GE.loop_step (by kernel_rfl)
theorem n56_19s (E : Ev) (cx : Cx) (st : St) : codeB Try.prog E cx n56_19 st = blockS 2 (codeB Try.prog E cx n56_20 st) st := GE.block_step (by kernel_rfl)
theorem n56_17s (E : Ev) (cx : Cx) (st : St) : codeB Try.prog E cx n56_17 st = thenS (codeB Try.prog E cx n56_18 st) (codeB Try.prog E cx n56_19) := GE.seq_step (by kernel_rfl)
theorem n56_15s (E : Ev) (cx : Cx) (st : St) : codeB Try.prog E cx n56_15 st = thenS (codeB Try.prog E cx n56_16 st) (codeB Try.prog E cx n56_17) := GE.seq_step (by kernel_rfl)
theorem n56_14s (E : Ev) (cx : Cx) (st : St) : codeB Try.prog E cx n56_14 st = blockS 1 (codeB Try.prog E cx n56_15 st) st := GE.block_step (by kernel_rfl)
theorem n56_37s (E : Ev) (f : FuncId) (b : Nat) (ro : Option Nat) (st : St) : codeB Try.prog E ⟨f, 57, b, ro⟩ n56_37 st = plainS (runOps Try.prog E b q56_37 (ops [true, false, true, false, false, true, true, true] Try.f56) st) := GE.region_step (id := 9) (by kernel_rfl) (by kernel_rfl)
theorem n56_13s (E : Ev) (cx : Cx) (st : St) : codeB Try.prog E cx n56_13 st = thenS (codeB Try.prog E cx n56_14 st) (codeB Try.prog E cx n56_37) := GE.seq_step (by kernel_rfl)
theorem n56_9s (E : Ev) (cx : Cx) (st : St) : codeB Try.prog E cx n56_9 st = thenS (codeB Try.prog E cx n56_10 st) (codeB Try.prog E cx n56_13) := GE.seq_step (by kernel_rfl)
theorem n56_7s (E : Ev) (cx : Cx) (st : St) : codeB Try.prog E cx n56_7 st = thenS (codeB Try.prog E cx n56_8 st) (codeB Try.prog E cx n56_9) := GE.seq_step (by kernel_rfl)
theorem n56_6s (E : Ev) (cx : Cx) (st : St) : codeB Try.prog E cx n56_6 st = loopS (fun st' => E.code cx n56_6 st') cx.base (codeB Try.prog E cx n56_7 st) st := GE.loop_step (by kernel_rfl)
theorem n56_5s (E : Ev) (cx : Cx) (st : St) : codeB Try.prog E cx n56_5 st = blockS 0 (codeB Try.prog E cx n56_6 st) st := GE.block_step (by kernel_rfl)
theorem n56_3s (E : Ev) (cx : Cx) (st : St) : codeB Try.prog E cx n56_3 st = thenS (codeB Try.prog E cx n56_4 st) (codeB Try.prog E cx n56_5) := GE.seq_step (by kernel_rfl)
theorem n56_38s (E : Ev) (f : FuncId) (b : Nat) (ro : Option Nat) (st : St) : codeB Try.prog E ⟨f, 57, b, ro⟩ n56_38 st = plainS (runOps Try.prog E b q56_38 (ops [true, true] Try.f56) st) := GE.region_step (id := 10) (by kernel_rfl) (by kernel_rfl)
theorem n56_2s (E : Ev) (cx : Cx) (st : St) : codeB Try.prog E cx n56_2 st = thenS (codeB Try.prog E cx n56_3 st) (codeB Try.prog E cx n56_38) := GE.seq_step (by kernel_rfl)
theorem n56_0s (E : Ev) (cx : Cx) (st : St) : codeB Try.prog E cx n56_0 st = thenS (codeB Try.prog E cx n56_1 st) (codeB Try.prog E cx n56_2) := GE.seq_step (by kernel_rfl)
noncomputable def n45_0 : Code := sub [] (bodyOf Try.f45)
noncomputable def n45_1 : Code := sub [false] (bodyOf Try.f45)
noncomputable def q45_1 : List Oper := ops [false] Try.f45
noncomputable def n45_2 : Code := sub [true] (bodyOf Try.f45)
noncomputable def n45_3 : Code := sub [true, false] (bodyOf Try.f45)
noncomputable def q45_3 : List Oper := ops [true, false] Try.f45
noncomputable def n45_4 : Code := sub [true, true] (bodyOf Try.f45)
theorem body45 : Try.f45.body = some n45_0 := by kernel_rfl
theorem run45 (E : Ev) (args : List Value) (h : List Blk) (hl : args.length ≤ 41) : runB Try.prog E 45 args h = endS Try.prog [.tmp 4] h.length (codeB Try.prog E ⟨45, 41, h.length, none⟩ n45_0 ⟨enumT 0 args, h, []⟩) := GE.run_step Try.func45 body45 (by kernel_rfl) (by decide) (by kernel_rfl) hl
theorem n45_1s (E : Ev) (f : FuncId) (b : Nat) (ro : Option Nat) (st : St) : codeB Try.prog E ⟨f, 41, b, ro⟩ n45_1 st = plainS (runOps Try.prog E b q45_1 (ops [false] Try.f45) st) := GE.region_step (id := 0) (by kernel_rfl) (by kernel_rfl)
theorem q45_3g6 : gd q45_3 6 = some 11 := by kernel_rfl
theorem q45_3g14 : gd q45_3 14 = some 19 := by kernel_rfl
theorem q45_3g25 : gd q45_3 25 = some 30 := by kernel_rfl
theorem n45_3s (E : Ev) (f : FuncId) (b : Nat) (ro : Option Nat) (st : St) : codeB Try.prog E ⟨f, 41, b, ro⟩ n45_3 st = plainS (runOps Try.prog E b q45_3 (ops [true, false] Try.f45) st) := GE.region_step (id := 1) (by kernel_rfl) (by kernel_rfl)
theorem n45_4s (E : Ev) (cx : Cx) (st : St) : codeB Try.prog E cx n45_4 st = some (.ret, st) := GE.ret_step (by kernel_rfl)
theorem n45_2s (E : Ev) (cx : Cx) (st : St) : codeB Try.prog E cx n45_2 st = thenS (codeB Try.prog E cx n45_3 st) (codeB Try.prog E cx n45_4) := GE.seq_step (by kernel_rfl)
theorem n45_0s (E : Ev) (cx : Cx) (st : St) : codeB Try.prog E cx n45_0 st = thenS (codeB Try.prog E cx n45_1 st) (codeB Try.prog E cx n45_2) := GE.seq_step (by kernel_rfl)
noncomputable def n46_0 : Code := sub [] (bodyOf Try.f46)
noncomputable def n46_1 : Code := sub [false] (bodyOf Try.f46)
noncomputable def q46_1 : List Oper := ops [false] Try.f46
noncomputable def n46_2 : Code := sub [true] (bodyOf Try.f46)
noncomputable def n46_3 : Code := sub [true, false] (bodyOf Try.f46)
noncomputable def q46_3 : List Oper := ops [true, false] Try.f46
noncomputable def n46_4 : Code := sub [true, true] (bodyOf Try.f46)
noncomputable def n46_5 : Code := sub [true, true, false] (bodyOf Try.f46)
noncomputable def n46_6 : Code := sub [true, true, false, false] (bodyOf Try.f46)
noncomputable def q46_6 : List Oper := ops [true, true, false, false] Try.f46
noncomputable def n46_7 : Code := sub [true, true, false, true] (bodyOf Try.f46)
noncomputable def n46_8 : Code := sub [true, true, false, true, false] (bodyOf Try.f46)
noncomputable def n46_9 : Code := sub [true, true, false, true, false, false] (bodyOf Try.f46)
noncomputable def n46_10 : Code := sub [true, true, false, true, false, false, false] (bodyOf Try.f46)
noncomputable def n46_11 : Code := sub [true, true, false, true, false, false, false, false] (bodyOf Try.f46)
noncomputable def q46_11 : List Oper := ops [true, true, false, true, false, false, false, false] Try.f46
noncomputable def n46_12 : Code := sub [true, true, false, true, false, false, false, true] (bodyOf Try.f46)
noncomputable def n46_13 : Code := sub [true, true, false, true, false, false, false, true, false] (bodyOf Try.f46)
noncomputable def n46_14 : Code := sub [true, true, false, true, false, false, false, true, true] (bodyOf Try.f46)
noncomputable def n46_15 : Code := sub [true, true, false, true, false, false, true] (bodyOf Try.f46)
noncomputable def n46_16 : Code := sub [true, true, false, true, false, false, true, false] (bodyOf Try.f46)
noncomputable def n46_17 : Code := sub [true, true, false, true, false, false, true, false, false] (bodyOf Try.f46)
noncomputable def n46_18 : Code := sub [true, true, false, true, false, false, true, false, false, false] (bodyOf Try.f46)
noncomputable def q46_18 : List Oper := ops [true, true, false, true, false, false, true, false, false, false] Try.f46
noncomputable def n46_19 : Code := sub [true, true, false, true, false, false, true, false, false, true] (bodyOf Try.f46)
noncomputable def q46_19 : List Oper := ops [true, true, false, true, false, false, true, false, false, true] Try.f46
noncomputable def n46_20 : Code := sub [true, true, false, true, false, false, true, true] (bodyOf Try.f46)
noncomputable def q46_20 : List Oper := ops [true, true, false, true, false, false, true, true] Try.f46
noncomputable def n46_21 : Code := sub [true, true, true] (bodyOf Try.f46)
noncomputable def n46_22 : Code := sub [true, true, true, false] (bodyOf Try.f46)
noncomputable def n46_23 : Code := sub [true, true, true, false, false] (bodyOf Try.f46)
noncomputable def q46_23 : List Oper := ops [true, true, true, false, false] Try.f46
noncomputable def n46_24 : Code := sub [true, true, true, false, true] (bodyOf Try.f46)
noncomputable def n46_25 : Code := sub [true, true, true, false, true, false] (bodyOf Try.f46)
noncomputable def n46_26 : Code := sub [true, true, true, false, true, false, false] (bodyOf Try.f46)
noncomputable def n46_27 : Code := sub [true, true, true, false, true, false, false, false] (bodyOf Try.f46)
noncomputable def n46_28 : Code := sub [true, true, true, false, true, false, false, false, false] (bodyOf Try.f46)
noncomputable def q46_28 : List Oper := ops [true, true, true, false, true, false, false, false, false] Try.f46
noncomputable def n46_29 : Code := sub [true, true, true, false, true, false, false, false, true] (bodyOf Try.f46)
noncomputable def n46_30 : Code := sub [true, true, true, false, true, false, false, false, true, false] (bodyOf Try.f46)
noncomputable def n46_31 : Code := sub [true, true, true, false, true, false, false, false, true, true] (bodyOf Try.f46)
noncomputable def n46_32 : Code := sub [true, true, true, false, true, false, false, true] (bodyOf Try.f46)
noncomputable def n46_33 : Code := sub [true, true, true, false, true, false, false, true, false] (bodyOf Try.f46)
noncomputable def n46_34 : Code := sub [true, true, true, false, true, false, false, true, false, false] (bodyOf Try.f46)
noncomputable def n46_35 : Code := sub [true, true, true, false, true, false, false, true, false, false, false] (bodyOf Try.f46)
noncomputable def q46_35 : List Oper := ops [true, true, true, false, true, false, false, true, false, false, false] Try.f46
noncomputable def n46_36 : Code := sub [true, true, true, false, true, false, false, true, false, false, true] (bodyOf Try.f46)
noncomputable def q46_36 : List Oper := ops [true, true, true, false, true, false, false, true, false, false, true] Try.f46
noncomputable def n46_37 : Code := sub [true, true, true, false, true, false, false, true, true] (bodyOf Try.f46)
noncomputable def q46_37 : List Oper := ops [true, true, true, false, true, false, false, true, true] Try.f46
noncomputable def n46_38 : Code := sub [true, true, true, true] (bodyOf Try.f46)
noncomputable def n46_39 : Code := sub [true, true, true, true, false] (bodyOf Try.f46)
noncomputable def q46_39 : List Oper := ops [true, true, true, true, false] Try.f46
noncomputable def n46_40 : Code := sub [true, true, true, true, true] (bodyOf Try.f46)
theorem body46 : Try.f46.body = some n46_0 := by kernel_rfl
theorem run46 (E : Ev) (args : List Value) (h : List Blk) (hl : args.length ≤ 100) : runB Try.prog E 46 args h = endS Try.prog [.tmp 4] h.length (codeB Try.prog E ⟨46, 100, h.length, none⟩ n46_0 ⟨enumT 0 args, h, []⟩) := GE.run_step Try.func46 body46 (by kernel_rfl) (by decide) (by kernel_rfl) hl
theorem n46_1s (E : Ev) (f : FuncId) (b : Nat) (ro : Option Nat) (st : St) : codeB Try.prog E ⟨f, 100, b, ro⟩ n46_1 st = plainS (runOps Try.prog E b q46_1 (ops [false] Try.f46) st) := GE.region_step (id := 0) (by kernel_rfl) (by kernel_rfl)
theorem n46_3s (E : Ev) (f : FuncId) (b : Nat) (ro : Option Nat) (st : St) : codeB Try.prog E ⟨f, 100, b, ro⟩ n46_3 st = plainS (runOps Try.prog E b q46_3 (ops [true, false] Try.f46) st) := GE.region_step (id := 1) (by kernel_rfl) (by kernel_rfl)
theorem n46_6s (E : Ev) (f : FuncId) (b : Nat) (ro : Option Nat) (st : St) : codeB Try.prog E ⟨f, 100, b, ro⟩ n46_6 st = plainS (runOps Try.prog E b q46_6 (ops [true, true, false, false] Try.f46) st) := GE.region_step (id := 2) (by kernel_rfl) (by kernel_rfl)
theorem n46_11s (E : Ev) (f : FuncId) (b : Nat) (ro : Option Nat) (st : St) : codeB Try.prog E ⟨f, 100, b, ro⟩ n46_11 st = plainS (runOps Try.prog E b q46_11 (ops [true, true, false, true, false, false, false, false] Try.f46) st) := GE.region_step (id := 3) (by kernel_rfl) (by kernel_rfl)
theorem n46_13s (E : Ev) (cx : Cx) (st : St) : codeB Try.prog E cx n46_13 st = some (.normal, st) := GE.skip_step (by kernel_rfl)
theorem n46_14s (E : Ev) (cx : Cx) (st : St) : codeB Try.prog E cx n46_14 st = some (.exit 0, st) := GE.exit_step (by kernel_rfl)
theorem n46_12s (E : Ev) (cx : Cx) (st : St) : codeB Try.prog E cx n46_12 st = condS (codeB Try.prog E cx n46_13) (codeB Try.prog E cx n46_14) (lk st.σ 16) st := GE.cond_step (c := .tmp 16) (by kernel_rfl)
theorem n46_10s (E : Ev) (cx : Cx) (st : St) : codeB Try.prog E cx n46_10 st = thenS (codeB Try.prog E cx n46_11 st) (codeB Try.prog E cx n46_12) := GE.seq_step (by kernel_rfl)
theorem n46_18s (E : Ev) (f : FuncId) (b : Nat) (ro : Option Nat) (st : St) : codeB Try.prog E ⟨f, 100, b, ro⟩ n46_18 st = drawS [0, 0, 0, 0, 8, 30, 0, 0, 128, 0, 512, 2046, 4094, 8191, 16383] (runOpsF Try.prog E b q46_18 (ops [true, true, false, true, false, false, true, false, false, false] Try.f46) st) := GE.draw_step (id := 5) (by kernel_rfl) (by kernel_rfl) (by kernel_rfl) (by kernel_rfl)
theorem n46_19s (E : Ev) (f : FuncId) (b : Nat) (ro : Option Nat) (st : St) : codeB Try.prog E ⟨f, 100, b, ro⟩ n46_19 st = drawS [0, 0, 0, 4, 0, 16, 0, 64, 240, 510, 0, 0, 0, 4096, 0, 16384, 61440, 131070, 262142, 524287, 1048575] (runOpsF Try.prog E b q46_19 (ops [true, true, false, true, false, false, true, false, false, true] Try.f46) st) := GE.draw_step (id := 6) (by kernel_rfl) (by kernel_rfl) (by kernel_rfl) (by kernel_rfl)
theorem n46_17s (E : Ev) (cx : Cx) (st : St) : codeB Try.prog E cx n46_17 st = thenS (codeB Try.prog E cx n46_18 st) (codeB Try.prog E cx n46_19) := GE.seq_step (by kernel_rfl)
theorem n46_16s (E : Ev) (cx : Cx) (st : St) : codeB Try.prog E cx n46_16 st = blockS 1 (codeB Try.prog E cx n46_17 st) st := GE.block_step (by kernel_rfl)
theorem n46_20s (E : Ev) (f : FuncId) (b : Nat) (ro : Option Nat) (st : St) : codeB Try.prog E ⟨f, 100, b, ro⟩ n46_20 st = plainS (runOps Try.prog E b q46_20 (ops [true, true, false, true, false, false, true, true] Try.f46) st) := GE.region_step (id := 4) (by kernel_rfl) (by kernel_rfl)
theorem n46_15s (E : Ev) (cx : Cx) (st : St) : codeB Try.prog E cx n46_15 st = thenS (codeB Try.prog E cx n46_16 st) (codeB Try.prog E cx n46_20) := GE.seq_step (by kernel_rfl)
theorem n46_9s (E : Ev) (cx : Cx) (st : St) : codeB Try.prog E cx n46_9 st = thenS (codeB Try.prog E cx n46_10 st) (codeB Try.prog E cx n46_15) := GE.seq_step (by kernel_rfl)
theorem n46_8s (E : Ev) (cx : Cx) (st : St) : codeB Try.prog E cx n46_8 st = loopS (fun st' => E.code cx n46_8 st') cx.base (codeB Try.prog E cx n46_9 st) st := GE.loop_step (by kernel_rfl)
theorem n46_7s (E : Ev) (cx : Cx) (st : St) : codeB Try.prog E cx n46_7 st = blockS 0 (codeB Try.prog E cx n46_8 st) st := GE.block_step (by kernel_rfl)
theorem n46_5s (E : Ev) (cx : Cx) (st : St) : codeB Try.prog E cx n46_5 st = thenS (codeB Try.prog E cx n46_6 st) (codeB Try.prog E cx n46_7) := GE.seq_step (by kernel_rfl)
theorem n46_23s (E : Ev) (f : FuncId) (b : Nat) (ro : Option Nat) (st : St) : codeB Try.prog E ⟨f, 100, b, ro⟩ n46_23 st = plainS (runOps Try.prog E b q46_23 (ops [true, true, true, false, false] Try.f46) st) := GE.region_step (id := 7) (by kernel_rfl) (by kernel_rfl)
theorem n46_28s (E : Ev) (f : FuncId) (b : Nat) (ro : Option Nat) (st : St) : codeB Try.prog E ⟨f, 100, b, ro⟩ n46_28 st = plainS (runOps Try.prog E b q46_28 (ops [true, true, true, false, true, false, false, false, false] Try.f46) st) := GE.region_step (id := 8) (by kernel_rfl) (by kernel_rfl)
theorem n46_30s (E : Ev) (cx : Cx) (st : St) : codeB Try.prog E cx n46_30 st = some (.normal, st) := GE.skip_step (by kernel_rfl)
theorem n46_31s (E : Ev) (cx : Cx) (st : St) : codeB Try.prog E cx n46_31 st = some (.exit 2, st) := GE.exit_step (by kernel_rfl)
theorem n46_29s (E : Ev) (cx : Cx) (st : St) : codeB Try.prog E cx n46_29 st = condS (codeB Try.prog E cx n46_30) (codeB Try.prog E cx n46_31) (lk st.σ 61) st := GE.cond_step (c := .tmp 61) (by kernel_rfl)
theorem n46_27s (E : Ev) (cx : Cx) (st : St) : codeB Try.prog E cx n46_27 st = thenS (codeB Try.prog E cx n46_28 st) (codeB Try.prog E cx n46_29) := GE.seq_step (by kernel_rfl)
theorem n46_35s (E : Ev) (f : FuncId) (b : Nat) (ro : Option Nat) (st : St) : codeB Try.prog E ⟨f, 100, b, ro⟩ n46_35 st = drawS [0, 0, 0, 4, 0, 16, 60, 0, 254, 0, 0, 1024, 0, 4096, 15360, 0, 32768, 131070, 262142, 524287, 1048575] (runOpsF Try.prog E b q46_35 (ops [true, true, true, false, true, false, false, true, false, false, false] Try.f46) st) := GE.draw_step (id := 10) (by kernel_rfl) (by kernel_rfl) (by kernel_rfl) (by kernel_rfl)
theorem n46_36s (E : Ev) (f : FuncId) (b : Nat) (ro : Option Nat) (st : St) : codeB Try.prog E ⟨f, 100, b, ro⟩ n46_36 st = drawS [0, 0, 0, 4, 0, 16, 62, 0, 0, 256, 0, 2046, 4094, 8191, 16383] (runOpsF Try.prog E b q46_36 (ops [true, true, true, false, true, false, false, true, false, false, true] Try.f46) st) := GE.draw_step (id := 11) (by kernel_rfl) (by kernel_rfl) (by kernel_rfl) (by kernel_rfl)
theorem n46_34s (E : Ev) (cx : Cx) (st : St) : codeB Try.prog E cx n46_34 st = thenS (codeB Try.prog E cx n46_35 st) (codeB Try.prog E cx n46_36) := GE.seq_step (by kernel_rfl)
theorem n46_33s (E : Ev) (cx : Cx) (st : St) : codeB Try.prog E cx n46_33 st = blockS 3 (codeB Try.prog E cx n46_34 st) st := GE.block_step (by kernel_rfl)
theorem n46_37s (E : Ev) (f : FuncId) (b : Nat) (ro : Option Nat) (st : St) : codeB Try.prog E ⟨f, 100, b, ro⟩ n46_37 st = plainS (runOps Try.prog E b q46_37 (ops [true, true, true, false, true, false, false, true, true] Try.f46) st) := GE.region_step (id := 9) (by kernel_rfl) (by kernel_rfl)
theorem n46_32s (E : Ev) (cx : Cx) (st : St) : codeB Try.prog E cx n46_32 st = thenS (codeB Try.prog E cx n46_33 st) (codeB Try.prog E cx n46_37) := GE.seq_step (by kernel_rfl)
theorem n46_26s (E : Ev) (cx : Cx) (st : St) : codeB Try.prog E cx n46_26 st = thenS (codeB Try.prog E cx n46_27 st) (codeB Try.prog E cx n46_32) := GE.seq_step (by kernel_rfl)
theorem n46_25s (E : Ev) (cx : Cx) (st : St) : codeB Try.prog E cx n46_25 st = loopS (fun st' => E.code cx n46_25 st') cx.base (codeB Try.prog E cx n46_26 st) st := GE.loop_step (by kernel_rfl)
theorem n46_24s (E : Ev) (cx : Cx) (st : St) : codeB Try.prog E cx n46_24 st = blockS 2 (codeB Try.prog E cx n46_25 st) st := GE.block_step (by kernel_rfl)
theorem n46_22s (E : Ev) (cx : Cx) (st : St) : codeB Try.prog E cx n46_22 st = thenS (codeB Try.prog E cx n46_23 st) (codeB Try.prog E cx n46_24) := GE.seq_step (by kernel_rfl)
theorem n46_39s (E : Ev) (f : FuncId) (b : Nat) (ro : Option Nat) (st : St) : codeB Try.prog E ⟨f, 100, b, ro⟩ n46_39 st = plainS (runOps Try.prog E b q46_39 (ops [true, true, true, true, false] Try.f46) st) := GE.region_step (id := 12) (by kernel_rfl) (by kernel_rfl)
theorem n46_40s (E : Ev) (cx : Cx) (st : St) : codeB Try.prog E cx n46_40 st = some (.ret, st) := GE.ret_step (by kernel_rfl)
theorem n46_38s (E : Ev) (cx : Cx) (st : St) : codeB Try.prog E cx n46_38 st = thenS (codeB Try.prog E cx n46_39 st) (codeB Try.prog E cx n46_40) := GE.seq_step (by kernel_rfl)
theorem n46_21s (E : Ev) (cx : Cx) (st : St) : codeB Try.prog E cx n46_21 st = thenS (codeB Try.prog E cx n46_22 st) (codeB Try.prog E cx n46_38) := GE.seq_step (by kernel_rfl)
theorem n46_4s (E : Ev) (cx : Cx) (st : St) : codeB Try.prog E cx n46_4 st = thenS (codeB Try.prog E cx n46_5 st) (codeB Try.prog E cx n46_21) := GE.seq_step (by kernel_rfl)
theorem n46_2s (E : Ev) (cx : Cx) (st : St) : codeB Try.prog E cx n46_2 st = thenS (codeB Try.prog E cx n46_3 st) (codeB Try.prog E cx n46_4) := GE.seq_step (by kernel_rfl)
theorem n46_0s (E : Ev) (cx : Cx) (st : St) : codeB Try.prog E cx n46_0 st = thenS (codeB Try.prog E cx n46_1 st) (codeB Try.prog E cx n46_2) := GE.seq_step (by kernel_rfl)
noncomputable def n20_0 : Code := sub [] (bodyOf Try.f20)
noncomputable def n20_1 : Code := sub [false] (bodyOf Try.f20)
noncomputable def q20_1 : List Oper := ops [false] Try.f20
noncomputable def n20_2 : Code := sub [true] (bodyOf Try.f20)
noncomputable def n20_3 : Code := sub [true, false] (bodyOf Try.f20)
noncomputable def q20_3 : List Oper := ops [true, false] Try.f20
noncomputable def n20_4 : Code := sub [true, true] (bodyOf Try.f20)
noncomputable def n20_5 : Code := sub [true, true, false] (bodyOf Try.f20)
noncomputable def n20_6 : Code := sub [true, true, false, false] (bodyOf Try.f20)
noncomputable def n20_7 : Code := sub [true, true, false, false, false] (bodyOf Try.f20)
noncomputable def q20_7 : List Oper := ops [true, true, false, false, false] Try.f20
noncomputable def n20_8 : Code := sub [true, true, false, false, true] (bodyOf Try.f20)
noncomputable def n20_9 : Code := sub [true, true, false, false, true, false] (bodyOf Try.f20)
noncomputable def n20_10 : Code := sub [true, true, false, false, true, false, false] (bodyOf Try.f20)
noncomputable def q20_10 : List Oper := ops [true, true, false, false, true, false, false] Try.f20
noncomputable def n20_11 : Code := sub [true, true, false, false, true, false, true] (bodyOf Try.f20)
noncomputable def n20_12 : Code := sub [true, true, false, false, true, true] (bodyOf Try.f20)
noncomputable def n20_13 : Code := sub [true, true, false, false, true, true, false] (bodyOf Try.f20)
noncomputable def q20_13 : List Oper := ops [true, true, false, false, true, true, false] Try.f20
noncomputable def n20_14 : Code := sub [true, true, false, false, true, true, true] (bodyOf Try.f20)
noncomputable def n20_15 : Code := sub [true, true, false, false, true, true, true, false] (bodyOf Try.f20)
noncomputable def n20_16 : Code := sub [true, true, false, false, true, true, true, false, false] (bodyOf Try.f20)
noncomputable def q20_16 : List Oper := ops [true, true, false, false, true, true, true, false, false] Try.f20
noncomputable def n20_17 : Code := sub [true, true, false, false, true, true, true, false, true] (bodyOf Try.f20)
noncomputable def n20_18 : Code := sub [true, true, false, false, true, true, true, true] (bodyOf Try.f20)
noncomputable def n20_19 : Code := sub [true, true, true] (bodyOf Try.f20)
noncomputable def n20_20 : Code := sub [true, true, true, false] (bodyOf Try.f20)
noncomputable def q20_20 : List Oper := ops [true, true, true, false] Try.f20
noncomputable def n20_21 : Code := sub [true, true, true, true] (bodyOf Try.f20)
theorem body20 : Try.f20.body = some n20_0 := by kernel_rfl
theorem run20 (E : Ev) (args : List Value) (h : List Blk) (hl : args.length ≤ 21) : runB Try.prog E 20 args h = endS Try.prog [.tmp 4, .tmp 5] h.length (codeB Try.prog E ⟨20, 21, h.length, none⟩ n20_0 ⟨enumT 0 args, h, []⟩) := GE.run_step Try.func20 body20 (by kernel_rfl) (by decide) (by kernel_rfl) hl
theorem n20_1s (E : Ev) (f : FuncId) (b : Nat) (ro : Option Nat) (st : St) : codeB Try.prog E ⟨f, 21, b, ro⟩ n20_1 st = plainS (runOps Try.prog E b q20_1 (ops [false] Try.f20) st) := GE.region_step (id := 0) (by kernel_rfl) (by kernel_rfl)
theorem n20_3s (E : Ev) (f : FuncId) (b : Nat) (ro : Option Nat) (st : St) : codeB Try.prog E ⟨f, 21, b, ro⟩ n20_3 st = plainS (runOps Try.prog E b q20_3 (ops [true, false] Try.f20) st) := GE.region_step (id := 1) (by kernel_rfl) (by kernel_rfl)
theorem n20_7s (E : Ev) (f : FuncId) (b : Nat) (ro : Option Nat) (st : St) : codeB Try.prog E ⟨f, 21, b, ro⟩ n20_7 st = plainS (runOps Try.prog E b q20_7 (ops [true, true, false, false, false] Try.f20) st) := GE.region_step (id := 2) (by kernel_rfl) (by kernel_rfl)
theorem n20_10s (E : Ev) (f : FuncId) (b : Nat) (ro : Option Nat) (st : St) : codeB Try.prog E ⟨f, 21, b, ro⟩ n20_10 st = plainS (runOps Try.prog E b q20_10 (ops [true, true, false, false, true, false, false] Try.f20) st) := GE.region_step (id := 3) (by kernel_rfl) (by kernel_rfl)
theorem n20_11s (E : Ev) (cx : Cx) (st : St) : codeB Try.prog E cx n20_11 st = some (.ret, st) := GE.ret_step (by kernel_rfl)
theorem n20_9s (E : Ev) (cx : Cx) (st : St) : codeB Try.prog E cx n20_9 st = thenS (codeB Try.prog E cx n20_10 st) (codeB Try.prog E cx n20_11) := GE.seq_step (by kernel_rfl)
theorem n20_13s (E : Ev) (f : FuncId) (b : Nat) (ro : Option Nat) (st : St) : codeB Try.prog E ⟨f, 21, b, ro⟩ n20_13 st = plainS (runOps Try.prog E b q20_13 (ops [true, true, false, false, true, true, false] Try.f20) st) := GE.region_step (id := 4) (by kernel_rfl) (by kernel_rfl)
theorem n20_16s (E : Ev) (f : FuncId) (b : Nat) (ro : Option Nat) (st : St) : codeB Try.prog E ⟨f, 21, b, ro⟩ n20_16 st = plainS (runOps Try.prog E b q20_16 (ops [true, true, false, false, true, true, true, false, false] Try.f20) st) := GE.region_step (id := 5) (by kernel_rfl) (by kernel_rfl)
theorem n20_17s (E : Ev) (cx : Cx) (st : St) : codeB Try.prog E cx n20_17 st = some (.ret, st) := GE.ret_step (by kernel_rfl)
theorem n20_15s (E : Ev) (cx : Cx) (st : St) : codeB Try.prog E cx n20_15 st = thenS (codeB Try.prog E cx n20_16 st) (codeB Try.prog E cx n20_17) := GE.seq_step (by kernel_rfl)
theorem n20_18s (E : Ev) (cx : Cx) (st : St) : codeB Try.prog E cx n20_18 st = some (.normal, st) := GE.skip_step (by kernel_rfl)
theorem n20_14s (E : Ev) (cx : Cx) (st : St) : codeB Try.prog E cx n20_14 st = condS (codeB Try.prog E cx n20_15) (codeB Try.prog E cx n20_18) (lk st.σ 13) st := GE.cond_step (c := .tmp 13) (by kernel_rfl)
theorem n20_12s (E : Ev) (cx : Cx) (st : St) : codeB Try.prog E cx n20_12 st = thenS (codeB Try.prog E cx n20_13 st) (codeB Try.prog E cx n20_14) := GE.seq_step (by kernel_rfl)
theorem n20_8s (E : Ev) (cx : Cx) (st : St) : codeB Try.prog E cx n20_8 st = condS (codeB Try.prog E cx n20_9) (codeB Try.prog E cx n20_12) (lk st.σ 9) st := GE.cond_step (c := .tmp 9) (by kernel_rfl)
theorem n20_6s (E : Ev) (cx : Cx) (st : St) : codeB Try.prog E cx n20_6 st = thenS (codeB Try.prog E cx n20_7 st) (codeB Try.prog E cx n20_8) := GE.seq_step (by kernel_rfl)
theorem n20_5s (E : Ev) (cx : Cx) (st : St) : codeB Try.prog E cx n20_5 st = blockS 0 (codeB Try.prog E cx n20_6 st) st := GE.block_step (by kernel_rfl)
theorem n20_20s (E : Ev) (f : FuncId) (b : Nat) (ro : Option Nat) (st : St) : codeB Try.prog E ⟨f, 21, b, ro⟩ n20_20 st = plainS (runOps Try.prog E b q20_20 (ops [true, true, true, false] Try.f20) st) := GE.region_step (id := 6) (by kernel_rfl) (by kernel_rfl)
theorem n20_21s (E : Ev) (cx : Cx) (st : St) : codeB Try.prog E cx n20_21 st = some (.ret, st) := GE.ret_step (by kernel_rfl)
theorem n20_19s (E : Ev) (cx : Cx) (st : St) : codeB Try.prog E cx n20_19 st = thenS (codeB Try.prog E cx n20_20 st) (codeB Try.prog E cx n20_21) := GE.seq_step (by kernel_rfl)
theorem n20_4s (E : Ev) (cx : Cx) (st : St) : codeB Try.prog E cx n20_4 st = thenS (codeB Try.prog E cx n20_5 st) (codeB Try.prog E cx n20_19) := GE.seq_step (by kernel_rfl)
theorem n20_2s (E : Ev) (cx : Cx) (st : St) : codeB Try.prog E cx n20_2 st = thenS (codeB Try.prog E cx n20_3 st) (codeB Try.prog E cx n20_4) := GE.seq_step (by kernel_rfl)
theorem n20_0s (E : Ev) (cx : Cx) (st : St) : codeB Try.prog E cx n20_0 st = thenS (codeB Try.prog E cx n20_1 st) (codeB Try.prog E cx n20_2) := GE.seq_step (by kernel_rfl)
noncomputable def n21_0 : Code := sub [] (bodyOf Try.f21)
noncomputable def n21_1 : Code := sub [false] (bodyOf Try.f21)
noncomputable def q21_1 : List Oper := ops [false] Try.f21
noncomputable def n21_2 : Code := sub [true] (bodyOf Try.f21)
noncomputable def n21_3 : Code := sub [true, false] (bodyOf Try.f21)
noncomputable def q21_3 : List Oper := ops [true, false] Try.f21
noncomputable def n21_4 : Code := sub [true, true] (bodyOf Try.f21)
noncomputable def n21_5 : Code := sub [true, true, false] (bodyOf Try.f21)
noncomputable def n21_6 : Code := sub [true, true, false, false] (bodyOf Try.f21)
noncomputable def q21_6 : List Oper := ops [true, true, false, false] Try.f21
noncomputable def n21_7 : Code := sub [true, true, false, true] (bodyOf Try.f21)
noncomputable def n21_8 : Code := sub [true, true, false, true, false] (bodyOf Try.f21)
noncomputable def q21_8 : List Oper := ops [true, true, false, true, false] Try.f21
noncomputable def n21_9 : Code := sub [true, true, false, true, true] (bodyOf Try.f21)
noncomputable def n21_10 : Code := sub [true, true, true] (bodyOf Try.f21)
noncomputable def n21_11 : Code := sub [true, true, true, false] (bodyOf Try.f21)
noncomputable def n21_12 : Code := sub [true, true, true, false, false] (bodyOf Try.f21)
noncomputable def q21_12 : List Oper := ops [true, true, true, false, false] Try.f21
noncomputable def n21_13 : Code := sub [true, true, true, false, true] (bodyOf Try.f21)
noncomputable def n21_14 : Code := sub [true, true, true, false, true, false] (bodyOf Try.f21)
noncomputable def n21_15 : Code := sub [true, true, true, false, true, false, false] (bodyOf Try.f21)
noncomputable def q21_15 : List Oper := ops [true, true, true, false, true, false, false] Try.f21
noncomputable def n21_16 : Code := sub [true, true, true, false, true, false, true] (bodyOf Try.f21)
noncomputable def n21_17 : Code := sub [true, true, true, false, true, true] (bodyOf Try.f21)
noncomputable def n21_18 : Code := sub [true, true, true, true] (bodyOf Try.f21)
noncomputable def n21_19 : Code := sub [true, true, true, true, false] (bodyOf Try.f21)
noncomputable def q21_19 : List Oper := ops [true, true, true, true, false] Try.f21
noncomputable def n21_20 : Code := sub [true, true, true, true, true] (bodyOf Try.f21)
theorem body21 : Try.f21.body = some n21_0 := by kernel_rfl
theorem run21 (E : Ev) (args : List Value) (h : List Blk) (hl : args.length ≤ 23) : runB Try.prog E 21 args h = endS Try.prog [.tmp 4, .tmp 5] h.length (codeB Try.prog E ⟨21, 23, h.length, none⟩ n21_0 ⟨enumT 0 args, h, []⟩) := GE.run_step Try.func21 body21 (by kernel_rfl) (by decide) (by kernel_rfl) hl
theorem n21_1s (E : Ev) (f : FuncId) (b : Nat) (ro : Option Nat) (st : St) : codeB Try.prog E ⟨f, 23, b, ro⟩ n21_1 st = plainS (runOps Try.prog E b q21_1 (ops [false] Try.f21) st) := GE.region_step (id := 0) (by kernel_rfl) (by kernel_rfl)
theorem n21_3s (E : Ev) (f : FuncId) (b : Nat) (ro : Option Nat) (st : St) : codeB Try.prog E ⟨f, 23, b, ro⟩ n21_3 st = plainS (runOps Try.prog E b q21_3 (ops [true, false] Try.f21) st) := GE.region_step (id := 1) (by kernel_rfl) (by kernel_rfl)
theorem q21_6g2 : gd q21_6 2 = some 11 := by kernel_rfl
theorem n21_6s (E : Ev) (f : FuncId) (b : Nat) (ro : Option Nat) (st : St) : codeB Try.prog E ⟨f, 23, b, ro⟩ n21_6 st = plainS (runOps Try.prog E b q21_6 (ops [true, true, false, false] Try.f21) st) := GE.region_step (id := 2) (by kernel_rfl) (by kernel_rfl)
theorem n21_8s (E : Ev) (f : FuncId) (b : Nat) (ro : Option Nat) (st : St) : codeB Try.prog E ⟨f, 23, b, ro⟩ n21_8 st = plainS (runOps Try.prog E b q21_8 (ops [true, true, false, true, false] Try.f21) st) := GE.region_step (id := 3) (by kernel_rfl) (by kernel_rfl)
theorem n21_9s (E : Ev) (cx : Cx) (st : St) : codeB Try.prog E cx n21_9 st = some (.normal, st) := GE.skip_step (by kernel_rfl)
theorem n21_7s (E : Ev) (cx : Cx) (st : St) : codeB Try.prog E cx n21_7 st = condS (codeB Try.prog E cx n21_8) (codeB Try.prog E cx n21_9) (lk st.σ 16) st := GE.cond_step (c := .tmp 16) (by kernel_rfl)
theorem n21_5s (E : Ev) (cx : Cx) (st : St) : codeB Try.prog E cx n21_5 st = thenS (codeB Try.prog E cx n21_6 st) (codeB Try.prog E cx n21_7) := GE.seq_step (by kernel_rfl)
theorem n21_12s (E : Ev) (f : FuncId) (b : Nat) (ro : Option Nat) (st : St) : codeB Try.prog E ⟨f, 23, b, ro⟩ n21_12 st = plainS (runOps Try.prog E b q21_12 (ops [true, true, true, false, false] Try.f21) st) := GE.region_step (id := 4) (by kernel_rfl) (by kernel_rfl)
theorem n21_15s (E : Ev) (f : FuncId) (b : Nat) (ro : Option Nat) (st : St) : codeB Try.prog E ⟨f, 23, b, ro⟩ n21_15 st = plainS (runOps Try.prog E b q21_15 (ops [true, true, true, false, true, false, false] Try.f21) st) := GE.region_step (id := 5) (by kernel_rfl) (by kernel_rfl)
theorem n21_16s (E : Ev) (cx : Cx) (st : St) : codeB Try.prog E cx n21_16 st = some (.ret, st) := GE.ret_step (by kernel_rfl)
theorem n21_14s (E : Ev) (cx : Cx) (st : St) : codeB Try.prog E cx n21_14 st = thenS (codeB Try.prog E cx n21_15 st) (codeB Try.prog E cx n21_16) := GE.seq_step (by kernel_rfl)
theorem n21_17s (E : Ev) (cx : Cx) (st : St) : codeB Try.prog E cx n21_17 st = some (.normal, st) := GE.skip_step (by kernel_rfl)
theorem n21_13s (E : Ev) (cx : Cx) (st : St) : codeB Try.prog E cx n21_13 st = condS (codeB Try.prog E cx n21_14) (codeB Try.prog E cx n21_17) (lk st.σ 18) st := GE.cond_step (c := .tmp 18) (by kernel_rfl)
theorem n21_11s (E : Ev) (cx : Cx) (st : St) : codeB Try.prog E cx n21_11 st = thenS (codeB Try.prog E cx n21_12 st) (codeB Try.prog E cx n21_13) := GE.seq_step (by kernel_rfl)
theorem n21_19s (E : Ev) (f : FuncId) (b : Nat) (ro : Option Nat) (st : St) : codeB Try.prog E ⟨f, 23, b, ro⟩ n21_19 st = plainS (runOps Try.prog E b q21_19 (ops [true, true, true, true, false] Try.f21) st) := GE.region_step (id := 6) (by kernel_rfl) (by kernel_rfl)
theorem n21_20s (E : Ev) (cx : Cx) (st : St) : codeB Try.prog E cx n21_20 st = some (.ret, st) := GE.ret_step (by kernel_rfl)
theorem n21_18s (E : Ev) (cx : Cx) (st : St) : codeB Try.prog E cx n21_18 st = thenS (codeB Try.prog E cx n21_19 st) (codeB Try.prog E cx n21_20) := GE.seq_step (by kernel_rfl)
theorem n21_10s (E : Ev) (cx : Cx) (st : St) : codeB Try.prog E cx n21_10 st = thenS (codeB Try.prog E cx n21_11 st) (codeB Try.prog E cx n21_18) := GE.seq_step (by kernel_rfl)
theorem n21_4s (E : Ev) (cx : Cx) (st : St) : codeB Try.prog E cx n21_4 st = thenS (codeB Try.prog E cx n21_5 st) (codeB Try.prog E cx n21_10) := GE.seq_step (by kernel_rfl)
theorem n21_2s (E : Ev) (cx : Cx) (st : St) : codeB Try.prog E cx n21_2 st = thenS (codeB Try.prog E cx n21_3 st) (codeB Try.prog E cx n21_4) := GE.seq_step (by kernel_rfl)
theorem n21_0s (E : Ev) (cx : Cx) (st : St) : codeB Try.prog E cx n21_0 st = thenS (codeB Try.prog E cx n21_1 st) (codeB Try.prog E cx n21_2) := GE.seq_step (by kernel_rfl)
noncomputable def n47_0 : Code := sub [] (bodyOf Try.f47)
noncomputable def n47_1 : Code := sub [false] (bodyOf Try.f47)
noncomputable def q47_1 : List Oper := ops [false] Try.f47
noncomputable def n47_2 : Code := sub [true] (bodyOf Try.f47)
noncomputable def n47_3 : Code := sub [true, false] (bodyOf Try.f47)
noncomputable def q47_3 : List Oper := ops [true, false] Try.f47
noncomputable def n47_4 : Code := sub [true, true] (bodyOf Try.f47)
theorem body47 : Try.f47.body = some n47_0 := by kernel_rfl
theorem run47 (E : Ev) (args : List Value) (h : List Blk) (hl : args.length ≤ 11) : runB Try.prog E 47 args h = endS Try.prog [.tmp 4] h.length (codeB Try.prog E ⟨47, 11, h.length, none⟩ n47_0 ⟨enumT 0 args, h, []⟩) := GE.run_step Try.func47 body47 (by kernel_rfl) (by decide) (by kernel_rfl) hl
theorem n47_1s (E : Ev) (f : FuncId) (b : Nat) (ro : Option Nat) (st : St) : codeB Try.prog E ⟨f, 11, b, ro⟩ n47_1 st = plainS (runOps Try.prog E b q47_1 (ops [false] Try.f47) st) := GE.region_step (id := 0) (by kernel_rfl) (by kernel_rfl)
theorem q47_3g2 : gd q47_3 2 = some 7 := by kernel_rfl
theorem n47_3s (E : Ev) (f : FuncId) (b : Nat) (ro : Option Nat) (st : St) : codeB Try.prog E ⟨f, 11, b, ro⟩ n47_3 st = plainS (runOps Try.prog E b q47_3 (ops [true, false] Try.f47) st) := GE.region_step (id := 1) (by kernel_rfl) (by kernel_rfl)
theorem n47_4s (E : Ev) (cx : Cx) (st : St) : codeB Try.prog E cx n47_4 st = some (.ret, st) := GE.ret_step (by kernel_rfl)
theorem n47_2s (E : Ev) (cx : Cx) (st : St) : codeB Try.prog E cx n47_2 st = thenS (codeB Try.prog E cx n47_3 st) (codeB Try.prog E cx n47_4) := GE.seq_step (by kernel_rfl)
theorem n47_0s (E : Ev) (cx : Cx) (st : St) : codeB Try.prog E cx n47_0 st = thenS (codeB Try.prog E cx n47_1 st) (codeB Try.prog E cx n47_2) := GE.seq_step (by kernel_rfl)
noncomputable def n48_0 : Code := sub [] (bodyOf Try.f48)
noncomputable def n48_1 : Code := sub [false] (bodyOf Try.f48)
noncomputable def q48_1 : List Oper := ops [false] Try.f48
noncomputable def n48_2 : Code := sub [true] (bodyOf Try.f48)
noncomputable def n48_3 : Code := sub [true, false] (bodyOf Try.f48)
noncomputable def q48_3 : List Oper := ops [true, false] Try.f48
noncomputable def n48_4 : Code := sub [true, true] (bodyOf Try.f48)
noncomputable def n48_5 : Code := sub [true, true, false] (bodyOf Try.f48)
noncomputable def q48_5 : List Oper := ops [true, true, false] Try.f48
noncomputable def n48_6 : Code := sub [true, true, true] (bodyOf Try.f48)
noncomputable def n48_7 : Code := sub [true, true, true, false] (bodyOf Try.f48)
noncomputable def q48_7 : List Oper := ops [true, true, true, false] Try.f48
noncomputable def n48_8 : Code := sub [true, true, true, true] (bodyOf Try.f48)
noncomputable def n48_9 : Code := sub [true, true, true, true, false] (bodyOf Try.f48)
noncomputable def q48_9 : List Oper := ops [true, true, true, true, false] Try.f48
noncomputable def n48_10 : Code := sub [true, true, true, true, true] (bodyOf Try.f48)
noncomputable def n48_11 : Code := sub [true, true, true, true, true, false] (bodyOf Try.f48)
noncomputable def q48_11 : List Oper := ops [true, true, true, true, true, false] Try.f48
noncomputable def n48_12 : Code := sub [true, true, true, true, true, true] (bodyOf Try.f48)
theorem body48 : Try.f48.body = some n48_0 := by kernel_rfl
theorem run48 (E : Ev) (args : List Value) (h : List Blk) (hl : args.length ≤ 16) : runB Try.prog E 48 args h = endS Try.prog [.tmp 4] h.length (codeB Try.prog E ⟨48, 16, h.length, none⟩ n48_0 ⟨enumT 0 args, h, []⟩) := GE.run_step Try.func48 body48 (by kernel_rfl) (by decide) (by kernel_rfl) hl
theorem n48_1s (E : Ev) (f : FuncId) (b : Nat) (ro : Option Nat) (st : St) : codeB Try.prog E ⟨f, 16, b, ro⟩ n48_1 st = plainS (runOps Try.prog E b q48_1 (ops [false] Try.f48) st) := GE.region_step (id := 0) (by kernel_rfl) (by kernel_rfl)
theorem n48_3s (E : Ev) (f : FuncId) (b : Nat) (ro : Option Nat) (st : St) : codeB Try.prog E ⟨f, 16, b, ro⟩ n48_3 st = plainS (runOps Try.prog E b q48_3 (ops [true, false] Try.f48) st) := GE.region_step (id := 1) (by kernel_rfl) (by kernel_rfl)
theorem n48_5s (E : Ev) (f : FuncId) (b : Nat) (ro : Option Nat) (st : St) : codeB Try.prog E ⟨f, 16, b, ro⟩ n48_5 st = plainS (runOps Try.prog E b q48_5 (ops [true, true, false] Try.f48) st) := GE.region_step (id := 2) (by kernel_rfl) (by kernel_rfl)
theorem n48_7s (E : Ev) (f : FuncId) (b : Nat) (ro : Option Nat) (st : St) : codeB Try.prog E ⟨f, 16, b, ro⟩ n48_7 st = plainS (runOps Try.prog E b q48_7 (ops [true, true, true, false] Try.f48) st) := GE.region_step (id := 3) (by kernel_rfl) (by kernel_rfl)
theorem n48_9s (E : Ev) (f : FuncId) (b : Nat) (ro : Option Nat) (st : St) : codeB Try.prog E ⟨f, 16, b, ro⟩ n48_9 st = plainS (runOps Try.prog E b q48_9 (ops [true, true, true, true, false] Try.f48) st) := GE.region_step (id := 4) (by kernel_rfl) (by kernel_rfl)
theorem n48_11s (E : Ev) (f : FuncId) (b : Nat) (ro : Option Nat) (st : St) : codeB Try.prog E ⟨f, 16, b, ro⟩ n48_11 st = plainS (runOps Try.prog E b q48_11 (ops [true, true, true, true, true, false] Try.f48) st) := GE.region_step (id := 5) (by kernel_rfl) (by kernel_rfl)
theorem n48_12s (E : Ev) (cx : Cx) (st : St) : codeB Try.prog E cx n48_12 st = some (.ret, st) := GE.ret_step (by kernel_rfl)
theorem n48_10s (E : Ev) (cx : Cx) (st : St) : codeB Try.prog E cx n48_10 st = thenS (codeB Try.prog E cx n48_11 st) (codeB Try.prog E cx n48_12) := GE.seq_step (by kernel_rfl)
theorem n48_8s (E : Ev) (cx : Cx) (st : St) : codeB Try.prog E cx n48_8 st = thenS (codeB Try.prog E cx n48_9 st) (codeB Try.prog E cx n48_10) := GE.seq_step (by kernel_rfl)
theorem n48_6s (E : Ev) (cx : Cx) (st : St) : codeB Try.prog E cx n48_6 st = thenS (codeB Try.prog E cx n48_7 st) (codeB Try.prog E cx n48_8) := GE.seq_step (by kernel_rfl)
theorem n48_4s (E : Ev) (cx : Cx) (st : St) : codeB Try.prog E cx n48_4 st = thenS (codeB Try.prog E cx n48_5 st) (codeB Try.prog E cx n48_6) := GE.seq_step (by kernel_rfl)
theorem n48_2s (E : Ev) (cx : Cx) (st : St) : codeB Try.prog E cx n48_2 st = thenS (codeB Try.prog E cx n48_3 st) (codeB Try.prog E cx n48_4) := GE.seq_step (by kernel_rfl)
theorem n48_0s (E : Ev) (cx : Cx) (st : St) : codeB Try.prog E cx n48_0 st = thenS (codeB Try.prog E cx n48_1 st) (codeB Try.prog E cx n48_2) := GE.seq_step (by kernel_rfl)
noncomputable def n54_0 : Code := sub [] (bodyOf Try.f54)
noncomputable def n54_1 : Code := sub [false] (bodyOf Try.f54)
noncomputable def q54_1 : List Oper := ops [false] Try.f54
noncomputable def n54_2 : Code := sub [true] (bodyOf Try.f54)
noncomputable def n54_3 : Code := sub [true, false] (bodyOf Try.f54)
noncomputable def n54_4 : Code := sub [true, false, false] (bodyOf Try.f54)
noncomputable def q54_4 : List Oper := ops [true, false, false] Try.f54
noncomputable def n54_5 : Code := sub [true, false, true] (bodyOf Try.f54)
noncomputable def n54_6 : Code := sub [true, false, true, false] (bodyOf Try.f54)
noncomputable def n54_7 : Code := sub [true, false, true, false, false] (bodyOf Try.f54)
noncomputable def q54_7 : List Oper := ops [true, false, true, false, false] Try.f54
noncomputable def n54_8 : Code := sub [true, false, true, false, true] (bodyOf Try.f54)
noncomputable def n54_9 : Code := sub [true, false, true, true] (bodyOf Try.f54)
noncomputable def n54_10 : Code := sub [true, true] (bodyOf Try.f54)
noncomputable def n54_11 : Code := sub [true, true, false] (bodyOf Try.f54)
noncomputable def q54_11 : List Oper := ops [true, true, false] Try.f54
noncomputable def n54_12 : Code := sub [true, true, true] (bodyOf Try.f54)
noncomputable def n54_13 : Code := sub [true, true, true, false] (bodyOf Try.f54)
noncomputable def q54_13 : List Oper := ops [true, true, true, false] Try.f54
noncomputable def n54_14 : Code := sub [true, true, true, true] (bodyOf Try.f54)
noncomputable def n54_15 : Code := sub [true, true, true, true, false] (bodyOf Try.f54)
noncomputable def n54_16 : Code := sub [true, true, true, true, false, false] (bodyOf Try.f54)
noncomputable def q54_16 : List Oper := ops [true, true, true, true, false, false] Try.f54
noncomputable def n54_17 : Code := sub [true, true, true, true, false, true] (bodyOf Try.f54)
noncomputable def n54_18 : Code := sub [true, true, true, true, false, true, false] (bodyOf Try.f54)
noncomputable def n54_19 : Code := sub [true, true, true, true, false, true, false, false] (bodyOf Try.f54)
noncomputable def n54_20 : Code := sub [true, true, true, true, false, true, false, false, false] (bodyOf Try.f54)
noncomputable def q54_20 : List Oper := ops [true, true, true, true, false, true, false, false, false] Try.f54
noncomputable def n54_21 : Code := sub [true, true, true, true, false, true, false, false, true] (bodyOf Try.f54)
noncomputable def n54_22 : Code := sub [true, true, true, true, false, true, false, false, true, false] (bodyOf Try.f54)
noncomputable def n54_23 : Code := sub [true, true, true, true, false, true, false, false, true, false, false] (bodyOf Try.f54)
noncomputable def n54_24 : Code := sub [true, true, true, true, false, true, false, false, true, false, true] (bodyOf Try.f54)
noncomputable def n54_25 : Code := sub [true, true, true, true, false, true, false, false, true, true] (bodyOf Try.f54)
noncomputable def n54_26 : Code := sub [true, true, true, true, false, true, false, false, true, true, false] (bodyOf Try.f54)
noncomputable def n54_27 : Code := sub [true, true, true, true, false, true, false, false, true, true, false, false] (bodyOf Try.f54)
noncomputable def n54_28 : Code := sub [true, true, true, true, false, true, false, false, true, true, false, false, false] (bodyOf Try.f54)
noncomputable def q54_28 : List Oper := ops [true, true, true, true, false, true, false, false, true, true, false, false, false] Try.f54
noncomputable def n54_29 : Code := sub [true, true, true, true, false, true, false, false, true, true, false, false, true] (bodyOf Try.f54)
noncomputable def n54_30 : Code := sub [true, true, true, true, false, true, false, false, true, true, false, false, true, false] (bodyOf Try.f54)
noncomputable def q54_30 : List Oper := ops [true, true, true, true, false, true, false, false, true, true, false, false, true, false] Try.f54
noncomputable def n54_31 : Code := sub [true, true, true, true, false, true, false, false, true, true, false, false, true, true] (bodyOf Try.f54)
noncomputable def n54_32 : Code := sub [true, true, true, true, false, true, false, false, true, true, false, false, true, true, false] (bodyOf Try.f54)
noncomputable def q54_32 : List Oper := ops [true, true, true, true, false, true, false, false, true, true, false, false, true, true, false] Try.f54
noncomputable def n54_33 : Code := sub [true, true, true, true, false, true, false, false, true, true, false, false, true, true, true] (bodyOf Try.f54)
noncomputable def n54_34 : Code := sub [true, true, true, true, false, true, false, false, true, true, false, false, true, true, true, false] (bodyOf Try.f54)
noncomputable def q54_34 : List Oper := ops [true, true, true, true, false, true, false, false, true, true, false, false, true, true, true, false] Try.f54
noncomputable def n54_35 : Code := sub [true, true, true, true, false, true, false, false, true, true, false, false, true, true, true, true] (bodyOf Try.f54)
noncomputable def n54_36 : Code := sub [true, true, true, true, false, true, false, false, true, true, false, false, true, true, true, true, false] (bodyOf Try.f54)
noncomputable def q54_36 : List Oper := ops [true, true, true, true, false, true, false, false, true, true, false, false, true, true, true, true, false] Try.f54
noncomputable def n54_37 : Code := sub [true, true, true, true, false, true, false, false, true, true, false, false, true, true, true, true, true] (bodyOf Try.f54)
noncomputable def n54_38 : Code := sub [true, true, true, true, false, true, false, false, true, true, true] (bodyOf Try.f54)
noncomputable def q54_38 : List Oper := ops [true, true, true, true, false, true, false, false, true, true, true] Try.f54
noncomputable def n54_39 : Code := sub [true, true, true, true, true] (bodyOf Try.f54)
noncomputable def n54_40 : Code := sub [true, true, true, true, true, false] (bodyOf Try.f54)
noncomputable def q54_40 : List Oper := ops [true, true, true, true, true, false] Try.f54
noncomputable def n54_41 : Code := sub [true, true, true, true, true, true] (bodyOf Try.f54)
noncomputable def n54_42 : Code := sub [true, true, true, true, true, true, false] (bodyOf Try.f54)
noncomputable def q54_42 : List Oper := ops [true, true, true, true, true, true, false] Try.f54
noncomputable def n54_43 : Code := sub [true, true, true, true, true, true, true] (bodyOf Try.f54)
theorem body54 : Try.f54.body = some n54_0 := by kernel_rfl
theorem run54 (E : Ev) (args : List Value) (h : List Blk) (hl : args.length ≤ 98) : runB Try.prog E 54 args h = endS Try.prog [.tmp 4] h.length (codeB Try.prog E ⟨54, 98, h.length, none⟩ n54_0 ⟨enumT 0 args, h, []⟩) := GE.run_step Try.func54 body54 (by kernel_rfl) (by decide) (by kernel_rfl) hl
theorem n54_1s (E : Ev) (f : FuncId) (b : Nat) (ro : Option Nat) (st : St) : codeB Try.prog E ⟨f, 98, b, ro⟩ n54_1 st = plainS (runOps Try.prog E b q54_1 (ops [false] Try.f54) st) := GE.region_step (id := 0) (by kernel_rfl) (by kernel_rfl)
theorem q54_4g3 : gd q54_4 3 = some 15 := by kernel_rfl
theorem q54_4g8 : gd q54_4 8 = some 20 := by kernel_rfl
theorem n54_4s (E : Ev) (f : FuncId) (b : Nat) (ro : Option Nat) (st : St) : codeB Try.prog E ⟨f, 98, b, ro⟩ n54_4 st = drawS [0, 1, 3, 7, 15, 31, 63, 127, 255, 511, 511, 1535, 511, 4607, 1023, 17407, 53247, 131071, 262143, 524287, 1048575] (runOpsF Try.prog E b q54_4 (ops [true, false, false] Try.f54) st) := GE.draw_step (id := 1) (by kernel_rfl) (by kernel_rfl) (by kernel_rfl) (by kernel_rfl)
theorem n54_7s (E : Ev) (f : FuncId) (b : Nat) (ro : Option Nat) (st : St) : codeB Try.prog E ⟨f, 98, b, ro⟩ n54_7 st = drawS [0, 0, 2, 0, 8, 1, 33, 103, 255, 511, 1023] (runOpsF Try.prog E b q54_7 (ops [true, false, true, false, false] Try.f54) st) := GE.draw_step (id := 2) (by kernel_rfl) (by kernel_rfl) (by kernel_rfl) (by kernel_rfl)
theorem n54_8s (E : Ev) (cx : Cx) (st : St) : codeB Try.prog E cx n54_8 st = some (.ret, st) := GE.ret_step (by kernel_rfl)
theorem n54_6s (E : Ev) (cx : Cx) (st : St) : codeB Try.prog E cx n54_6 st = thenS (codeB Try.prog E cx n54_7 st) (codeB Try.prog E cx n54_8) := GE.seq_step (by kernel_rfl)
theorem n54_9s (E : Ev) (cx : Cx) (st : St) : codeB Try.prog E cx n54_9 st = some (.normal, st) := GE.skip_step (by kernel_rfl)
theorem n54_5s (E : Ev) (cx : Cx) (st : St) : codeB Try.prog E cx n54_5 st = condS (codeB Try.prog E cx n54_6) (codeB Try.prog E cx n54_9) (lk st.σ 32) st := GE.cond_step (c := .tmp 32) (by kernel_rfl)
theorem n54_3s (E : Ev) (cx : Cx) (st : St) : codeB Try.prog E cx n54_3 st = thenS (codeB Try.prog E cx n54_4 st) (codeB Try.prog E cx n54_5) := GE.seq_step (by kernel_rfl)
theorem n54_11s (E : Ev) (f : FuncId) (b : Nat) (ro : Option Nat) (st : St) : codeB Try.prog E ⟨f, 98, b, ro⟩ n54_11 st = plainS (runOps Try.prog E b q54_11 (ops [true, true, false] Try.f54) st) := GE.region_step (id := 3) (by kernel_rfl) (by kernel_rfl)
theorem n54_13s (E : Ev) (f : FuncId) (b : Nat) (ro : Option Nat) (st : St) : codeB Try.prog E ⟨f, 98, b, ro⟩ n54_13 st = plainS (runOps Try.prog E b q54_13 (ops [true, true, true, false] Try.f54) st) := GE.region_step (id := 4) (by kernel_rfl) (by kernel_rfl)
theorem n54_16s (E : Ev) (f : FuncId) (b : Nat) (ro : Option Nat) (st : St) : codeB Try.prog E ⟨f, 98, b, ro⟩ n54_16 st = plainS (runOps Try.prog E b q54_16 (ops [true, true, true, true, false, false] Try.f54) st) := GE.region_step (id := 5) (by kernel_rfl) (by kernel_rfl)
theorem n54_20s (E : Ev) (f : FuncId) (b : Nat) (ro : Option Nat) (st : St) : codeB Try.prog E ⟨f, 98, b, ro⟩ n54_20 st = plainS (runOps Try.prog E b q54_20 (ops [true, true, true, true, false, true, false, false, false] Try.f54) st) := GE.region_step (id := 6) (by kernel_rfl) (by kernel_rfl)
theorem n54_23s (E : Ev) (cx : Cx) (st : St) : codeB Try.prog E cx n54_23 st = some (.normal, st) := GE.skip_step (by kernel_rfl)
theorem n54_24s (E : Ev) (cx : Cx) (st : St) : codeB Try.prog E cx n54_24 st = some (.exit 0, st) := GE.exit_step (by kernel_rfl)
theorem n54_22s (E : Ev) (cx : Cx) (st : St) : codeB Try.prog E cx n54_22 st = condS (codeB Try.prog E cx n54_23) (codeB Try.prog E cx n54_24) (lk st.σ 47) st := GE.cond_step (c := .tmp 47) (by kernel_rfl)
theorem n54_28s (E : Ev) (f : FuncId) (b : Nat) (ro : Option Nat) (st : St) : codeB Try.prog E ⟨f, 98, b, ro⟩ n54_28 st = plainS (runOps Try.prog E b q54_28 (ops [true, true, true, true, false, true, false, false, true, true, false, false, false] Try.f54) st) := GE.region_step (id := 7) (by kernel_rfl) (by kernel_rfl)
theorem n54_30s (E : Ev) (f : FuncId) (b : Nat) (ro : Option Nat) (st : St) : codeB Try.prog E ⟨f, 98, b, ro⟩ n54_30 st = plainS (runOps Try.prog E b q54_30 (ops [true, true, true, true, false, true, false, false, true, true, false, false, true, false] Try.f54) st) := GE.region_step (id := 8) (by kernel_rfl) (by kernel_rfl)
theorem n54_32s (E : Ev) (f : FuncId) (b : Nat) (ro : Option Nat) (st : St) : codeB Try.prog E ⟨f, 98, b, ro⟩ n54_32 st = drawS [0, 0, 3, 0, 0, 31, 0, 0, 255, 511, 1023, 2047] (runOpsF Try.prog E b q54_32 (ops [true, true, true, true, false, true, false, false, true, true, false, false, true, true, false] Try.f54) st) := GE.draw_step (id := 9) (by kernel_rfl) (by kernel_rfl) (by kernel_rfl) (by kernel_rfl)
theorem q54_34g2 : gd q54_34 2 = some 69 := by kernel_rfl
theorem n54_34s (E : Ev) (f : FuncId) (b : Nat) (ro : Option Nat) (st : St) : codeB Try.prog E ⟨f, 98, b, ro⟩ n54_34 st = plainS (runOps Try.prog E b q54_34 (ops [true, true, true, true, false, true, false, false, true, true, false, false, true, true, true, false] Try.f54) st) := GE.region_step (id := 10) (by kernel_rfl) (by kernel_rfl)
theorem n54_36s (E : Ev) (f : FuncId) (b : Nat) (ro : Option Nat) (st : St) : codeB Try.prog E ⟨f, 98, b, ro⟩ n54_36 st = plainS (runOps Try.prog E b q54_36 (ops [true, true, true, true, false, true, false, false, true, true, false, false, true, true, true, true, false] Try.f54) st) := GE.region_step (id := 11) (by kernel_rfl) (by kernel_rfl)
theorem n54_37s (E : Ev) (cx : Cx) (st : St) : codeB Try.prog E cx n54_37 st = some (.normal, st) := GE.skip_step (by kernel_rfl)
theorem n54_35s (E : Ev) (cx : Cx) (st : St) : codeB Try.prog E cx n54_35 st = condS (codeB Try.prog E cx n54_36) (codeB Try.prog E cx n54_37) (lk st.σ 73) st := GE.cond_step (c := .tmp 73) (by kernel_rfl)
theorem n54_33s (E : Ev) (cx : Cx) (st : St) : codeB Try.prog E cx n54_33 st = thenS (codeB Try.prog E cx n54_34 st) (codeB Try.prog E cx n54_35) := GE.seq_step (by kernel_rfl)
theorem n54_31s (E : Ev) (cx : Cx) (st : St) : codeB Try.prog E cx n54_31 st = thenS (codeB Try.prog E cx n54_32 st) (codeB Try.prog E cx n54_33) := GE.seq_step (by kernel_rfl)
theorem n54_29s (E : Ev) (cx : Cx) (st : St) : codeB Try.prog E cx n54_29 st = thenS (codeB Try.prog E cx n54_30 st) (codeB Try.prog E cx n54_31) := GE.seq_step (by kernel_rfl)
theorem n54_27s (E : Ev) (cx : Cx) (st : St) : codeB Try.prog E cx n54_27 st = thenS (codeB Try.prog E cx n54_28 st) (codeB Try.prog E cx n54_29) := GE.seq_step (by kernel_rfl)
theorem n54_26s (E : Ev) (cx : Cx) (st : St) : codeB Try.prog E cx n54_26 st = blockS 1 (codeB Try.prog E cx n54_27 st) st := GE.block_step (by kernel_rfl)
theorem n54_38s (E : Ev) (f : FuncId) (b : Nat) (ro : Option Nat) (st : St) : codeB Try.prog E ⟨f, 98, b, ro⟩ n54_38 st = plainS (runOps Try.prog E b q54_38 (ops [true, true, true, true, false, true, false, false, true, true, true] Try.f54) st) := GE.region_step (id := 12) (by kernel_rfl) (by kernel_rfl)
theorem n54_25s (E : Ev) (cx : Cx) (st : St) : codeB Try.prog E cx n54_25 st = thenS (codeB Try.prog E cx n54_26 st) (codeB Try.prog E cx n54_38) := GE.seq_step (by kernel_rfl)
theorem n54_21s (E : Ev) (cx : Cx) (st : St) : codeB Try.prog E cx n54_21 st = thenS (codeB Try.prog E cx n54_22 st) (codeB Try.prog E cx n54_25) := GE.seq_step (by kernel_rfl)
theorem n54_19s (E : Ev) (cx : Cx) (st : St) : codeB Try.prog E cx n54_19 st = thenS (codeB Try.prog E cx n54_20 st) (codeB Try.prog E cx n54_21) := GE.seq_step (by kernel_rfl)
theorem n54_18s (E : Ev) (cx : Cx) (st : St) : codeB Try.prog E cx n54_18 st = loopS (fun st' => E.code cx n54_18 st') cx.base (codeB Try.prog E cx n54_19 st) st := GE.loop_step (by kernel_rfl)
theorem n54_17s (E : Ev) (cx : Cx) (st : St) : codeB Try.prog E cx n54_17 st = blockS 0 (codeB Try.prog E cx n54_18 st) st := GE.block_step (by kernel_rfl)
theorem n54_15s (E : Ev) (cx : Cx) (st : St) : codeB Try.prog E cx n54_15 st = thenS (codeB Try.prog E cx n54_16 st) (codeB Try.prog E cx n54_17) := GE.seq_step (by kernel_rfl)
theorem n54_40s (E : Ev) (f : FuncId) (b : Nat) (ro : Option Nat) (st : St) : codeB Try.prog E ⟨f, 98, b, ro⟩ n54_40 st = drawS [0, 0, 2, 0, 8, 0, 0, 64, 0, 256, 0, 0, 1, 4097, 12295, 29727, 62495, 32, 131104, 393440, 1048575, 2097151] (runOpsF Try.prog E b q54_40 (ops [true, true, true, true, true, false] Try.f54) st) := GE.draw_step (id := 13) (by kernel_rfl) (by kernel_rfl) (by kernel_rfl) (by kernel_rfl)
theorem n54_42s (E : Ev) (f : FuncId) (b : Nat) (ro : Option Nat) (st : St) : codeB Try.prog E ⟨f, 98, b, ro⟩ n54_42 st = plainS (runOps Try.prog E b q54_42 (ops [true, true, true, true, true, true, false] Try.f54) st) := GE.region_step (id := 14) (by kernel_rfl) (by kernel_rfl)
theorem n54_43s (E : Ev) (cx : Cx) (st : St) : codeB Try.prog E cx n54_43 st = some (.ret, st) := GE.ret_step (by kernel_rfl)
theorem n54_41s (E : Ev) (cx : Cx) (st : St) : codeB Try.prog E cx n54_41 st = thenS (codeB Try.prog E cx n54_42 st) (codeB Try.prog E cx n54_43) := GE.seq_step (by kernel_rfl)
theorem n54_39s (E : Ev) (cx : Cx) (st : St) : codeB Try.prog E cx n54_39 st = thenS (codeB Try.prog E cx n54_40 st) (codeB Try.prog E cx n54_41) := GE.seq_step (by kernel_rfl)
theorem n54_14s (E : Ev) (cx : Cx) (st : St) : codeB Try.prog E cx n54_14 st = thenS (codeB Try.prog E cx n54_15 st) (codeB Try.prog E cx n54_39) := GE.seq_step (by kernel_rfl)
theorem n54_12s (E : Ev) (cx : Cx) (st : St) : codeB Try.prog E cx n54_12 st = thenS (codeB Try.prog E cx n54_13 st) (codeB Try.prog E cx n54_14) := GE.seq_step (by kernel_rfl)
theorem n54_10s (E : Ev) (cx : Cx) (st : St) : codeB Try.prog E cx n54_10 st = thenS (codeB Try.prog E cx n54_11 st) (codeB Try.prog E cx n54_12) := GE.seq_step (by kernel_rfl)
theorem n54_2s (E : Ev) (cx : Cx) (st : St) : codeB Try.prog E cx n54_2 st = thenS (codeB Try.prog E cx n54_3 st) (codeB Try.prog E cx n54_10) := GE.seq_step (by kernel_rfl)
theorem n54_0s (E : Ev) (cx : Cx) (st : St) : codeB Try.prog E cx n54_0 st = thenS (codeB Try.prog E cx n54_1 st) (codeB Try.prog E cx n54_2) := GE.seq_step (by kernel_rfl)
noncomputable def n55_0 : Code := sub [] (bodyOf Try.f55)
noncomputable def n55_1 : Code := sub [false] (bodyOf Try.f55)
noncomputable def q55_1 : List Oper := ops [false] Try.f55
noncomputable def n55_2 : Code := sub [true] (bodyOf Try.f55)
noncomputable def n55_3 : Code := sub [true, false] (bodyOf Try.f55)
noncomputable def q55_3 : List Oper := ops [true, false] Try.f55
noncomputable def n55_4 : Code := sub [true, true] (bodyOf Try.f55)
noncomputable def n55_5 : Code := sub [true, true, false] (bodyOf Try.f55)
noncomputable def n55_6 : Code := sub [true, true, false, false] (bodyOf Try.f55)
noncomputable def q55_6 : List Oper := ops [true, true, false, false] Try.f55
noncomputable def n55_7 : Code := sub [true, true, false, true] (bodyOf Try.f55)
noncomputable def n55_8 : Code := sub [true, true, false, true, false] (bodyOf Try.f55)
noncomputable def n55_9 : Code := sub [true, true, false, true, false, false] (bodyOf Try.f55)
noncomputable def n55_10 : Code := sub [true, true, false, true, false, false, false] (bodyOf Try.f55)
noncomputable def n55_11 : Code := sub [true, true, false, true, false, false, false, false] (bodyOf Try.f55)
noncomputable def q55_11 : List Oper := ops [true, true, false, true, false, false, false, false] Try.f55
noncomputable def n55_12 : Code := sub [true, true, false, true, false, false, false, true] (bodyOf Try.f55)
noncomputable def n55_13 : Code := sub [true, true, false, true, false, false, false, true, false] (bodyOf Try.f55)
noncomputable def n55_14 : Code := sub [true, true, false, true, false, false, false, true, true] (bodyOf Try.f55)
noncomputable def n55_15 : Code := sub [true, true, false, true, false, false, true] (bodyOf Try.f55)
noncomputable def n55_16 : Code := sub [true, true, false, true, false, false, true, false] (bodyOf Try.f55)
noncomputable def n55_17 : Code := sub [true, true, false, true, false, false, true, false, false] (bodyOf Try.f55)
noncomputable def q55_17 : List Oper := ops [true, true, false, true, false, false, true, false, false] Try.f55
noncomputable def n55_18 : Code := sub [true, true, false, true, false, false, true, true] (bodyOf Try.f55)
noncomputable def q55_18 : List Oper := ops [true, true, false, true, false, false, true, true] Try.f55
noncomputable def n55_19 : Code := sub [true, true, true] (bodyOf Try.f55)
noncomputable def n55_20 : Code := sub [true, true, true, false] (bodyOf Try.f55)
noncomputable def n55_21 : Code := sub [true, true, true, false, false] (bodyOf Try.f55)
noncomputable def q55_21 : List Oper := ops [true, true, true, false, false] Try.f55
noncomputable def n55_22 : Code := sub [true, true, true, false, true] (bodyOf Try.f55)
noncomputable def n55_23 : Code := sub [true, true, true, false, true, false] (bodyOf Try.f55)
noncomputable def n55_24 : Code := sub [true, true, true, false, true, false, false] (bodyOf Try.f55)
noncomputable def n55_25 : Code := sub [true, true, true, false, true, false, false, false] (bodyOf Try.f55)
noncomputable def n55_26 : Code := sub [true, true, true, false, true, false, false, false, false] (bodyOf Try.f55)
noncomputable def q55_26 : List Oper := ops [true, true, true, false, true, false, false, false, false] Try.f55
noncomputable def n55_27 : Code := sub [true, true, true, false, true, false, false, false, true] (bodyOf Try.f55)
noncomputable def n55_28 : Code := sub [true, true, true, false, true, false, false, false, true, false] (bodyOf Try.f55)
noncomputable def n55_29 : Code := sub [true, true, true, false, true, false, false, false, true, true] (bodyOf Try.f55)
noncomputable def n55_30 : Code := sub [true, true, true, false, true, false, false, true] (bodyOf Try.f55)
noncomputable def n55_31 : Code := sub [true, true, true, false, true, false, false, true, false] (bodyOf Try.f55)
noncomputable def n55_32 : Code := sub [true, true, true, false, true, false, false, true, false, false] (bodyOf Try.f55)
noncomputable def q55_32 : List Oper := ops [true, true, true, false, true, false, false, true, false, false] Try.f55
noncomputable def n55_33 : Code := sub [true, true, true, false, true, false, false, true, true] (bodyOf Try.f55)
noncomputable def q55_33 : List Oper := ops [true, true, true, false, true, false, false, true, true] Try.f55
noncomputable def n55_34 : Code := sub [true, true, true, true] (bodyOf Try.f55)
noncomputable def n55_35 : Code := sub [true, true, true, true, false] (bodyOf Try.f55)
noncomputable def q55_35 : List Oper := ops [true, true, true, true, false] Try.f55
noncomputable def n55_36 : Code := sub [true, true, true, true, true] (bodyOf Try.f55)
theorem body55 : Try.f55.body = some n55_0 := by kernel_rfl
theorem run55 (E : Ev) (args : List Value) (h : List Blk) (hl : args.length ≤ 29) : runB Try.prog E 55 args h = endS Try.prog [.tmp 2] h.length (codeB Try.prog E ⟨55, 29, h.length, none⟩ n55_0 ⟨enumT 0 args, h, []⟩) := GE.run_step Try.func55 body55 (by kernel_rfl) (by decide) (by kernel_rfl) hl
theorem n55_1s (E : Ev) (f : FuncId) (b : Nat) (ro : Option Nat) (st : St) : codeB Try.prog E ⟨f, 29, b, ro⟩ n55_1 st = plainS (runOps Try.prog E b q55_1 (ops [false] Try.f55) st) := GE.region_step (id := 0) (by kernel_rfl) (by kernel_rfl)
theorem n55_3s (E : Ev) (f : FuncId) (b : Nat) (ro : Option Nat) (st : St) : codeB Try.prog E ⟨f, 29, b, ro⟩ n55_3 st = plainS (runOps Try.prog E b q55_3 (ops [true, false] Try.f55) st) := GE.region_step (id := 1) (by kernel_rfl) (by kernel_rfl)
theorem n55_6s (E : Ev) (f : FuncId) (b : Nat) (ro : Option Nat) (st : St) : codeB Try.prog E ⟨f, 29, b, ro⟩ n55_6 st = plainS (runOps Try.prog E b q55_6 (ops [true, true, false, false] Try.f55) st) := GE.region_step (id := 2) (by kernel_rfl) (by kernel_rfl)
theorem n55_11s (E : Ev) (f : FuncId) (b : Nat) (ro : Option Nat) (st : St) : codeB Try.prog E ⟨f, 29, b, ro⟩ n55_11 st = plainS (runOps Try.prog E b q55_11 (ops [true, true, false, true, false, false, false, false] Try.f55) st) := GE.region_step (id := 3) (by kernel_rfl) (by kernel_rfl)
theorem n55_13s (E : Ev) (cx : Cx) (st : St) : codeB Try.prog E cx n55_13 st = some (.normal, st) := GE.skip_step (by kernel_rfl)
theorem n55_14s (E : Ev) (cx : Cx) (st : St) : codeB Try.prog E cx n55_14 st = some (.exit 0, st) := GE.exit_step (by kernel_rfl)
theorem n55_12s (E : Ev) (cx : Cx) (st : St) : codeB Try.prog E cx n55_12 st = condS (codeB Try.prog E cx n55_13) (codeB Try.prog E cx n55_14) (lk st.σ 9) st := GE.cond_step (c := .tmp 9) (by kernel_rfl)
theorem n55_10s (E : Ev) (cx : Cx) (st : St) : codeB Try.prog E cx n55_10 st = thenS (codeB Try.prog E cx n55_11 st) (codeB Try.prog E cx n55_12) := GE.seq_step (by kernel_rfl)
theorem n55_17s (E : Ev) (f : FuncId) (b : Nat) (ro : Option Nat) (st : St) : codeB Try.prog E ⟨f, 29, b, ro⟩ n55_17 st = plainS (runOps Try.prog E b q55_17 (ops [true, true, false, true, false, false, true, false, false] Try.f55) st) := GE.region_step (id := 5) (by kernel_rfl) (by kernel_rfl)
theorem n55_16s (E : Ev) (cx : Cx) (st : St) : codeB Try.prog E cx n55_16 st = blockS 1 (codeB Try.prog E cx n55_17 st) st := GE.block_step (by kernel_rfl)
theorem n55_18s (E : Ev) (f : FuncId) (b : Nat) (ro : Option Nat) (st : St) : codeB Try.prog E ⟨f, 29, b, ro⟩ n55_18 st = plainS (runOps Try.prog E b q55_18 (ops [true, true, false, true, false, false, true, true] Try.f55) st) := GE.region_step (id := 4) (by kernel_rfl) (by kernel_rfl)
theorem n55_15s (E : Ev) (cx : Cx) (st : St) : codeB Try.prog E cx n55_15 st = thenS (codeB Try.prog E cx n55_16 st) (codeB Try.prog E cx n55_18) := GE.seq_step (by kernel_rfl)
theorem n55_9s (E : Ev) (cx : Cx) (st : St) : codeB Try.prog E cx n55_9 st = thenS (codeB Try.prog E cx n55_10 st) (codeB Try.prog E cx n55_15) := GE.seq_step (by kernel_rfl)
theorem n55_8s (E : Ev) (cx : Cx) (st : St) : codeB Try.prog E cx n55_8 st = loopS (fun st' => E.code cx n55_8 st') cx.base (codeB Try.prog E cx n55_9 st) st := GE.loop_step (by kernel_rfl)
theorem n55_7s (E : Ev) (cx : Cx) (st : St) : codeB Try.prog E cx n55_7 st = blockS 0 (codeB Try.prog E cx n55_8 st) st := GE.block_step (by kernel_rfl)
theorem n55_5s (E : Ev) (cx : Cx) (st : St) : codeB Try.prog E cx n55_5 st = thenS (codeB Try.prog E cx n55_6 st) (codeB Try.prog E cx n55_7) := GE.seq_step (by kernel_rfl)
theorem n55_21s (E : Ev) (f : FuncId) (b : Nat) (ro : Option Nat) (st : St) : codeB Try.prog E ⟨f, 29, b, ro⟩ n55_21 st = plainS (runOps Try.prog E b q55_21 (ops [true, true, true, false, false] Try.f55) st) := GE.region_step (id := 6) (by kernel_rfl) (by kernel_rfl)
theorem n55_26s (E : Ev) (f : FuncId) (b : Nat) (ro : Option Nat) (st : St) : codeB Try.prog E ⟨f, 29, b, ro⟩ n55_26 st = plainS (runOps Try.prog E b q55_26 (ops [true, true, true, false, true, false, false, false, false] Try.f55) st) := GE.region_step (id := 7) (by kernel_rfl) (by kernel_rfl)
theorem n55_28s (E : Ev) (cx : Cx) (st : St) : codeB Try.prog E cx n55_28 st = some (.normal, st) := GE.skip_step (by kernel_rfl)
theorem n55_29s (E : Ev) (cx : Cx) (st : St) : codeB Try.prog E cx n55_29 st = some (.exit 2, st) := GE.exit_step (by kernel_rfl)
theorem n55_27s (E : Ev) (cx : Cx) (st : St) : codeB Try.prog E cx n55_27 st = condS (codeB Try.prog E cx n55_28) (codeB Try.prog E cx n55_29) (lk st.σ 20) st := GE.cond_step (c := .tmp 20) (by kernel_rfl)
theorem n55_25s (E : Ev) (cx : Cx) (st : St) : codeB Try.prog E cx n55_25 st = thenS (codeB Try.prog E cx n55_26 st) (codeB Try.prog E cx n55_27) := GE.seq_step (by kernel_rfl)
theorem n55_32s (E : Ev) (f : FuncId) (b : Nat) (ro : Option Nat) (st : St) : codeB Try.prog E ⟨f, 29, b, ro⟩ n55_32 st = plainS (runOps Try.prog E b q55_32 (ops [true, true, true, false, true, false, false, true, false, false] Try.f55) st) := GE.region_step (id := 9) (by kernel_rfl) (by kernel_rfl)
theorem n55_31s (E : Ev) (cx : Cx) (st : St) : codeB Try.prog E cx n55_31 st = blockS 3 (codeB Try.prog E cx n55_32 st) st := GE.block_step (by kernel_rfl)
theorem n55_33s (E : Ev) (f : FuncId) (b : Nat) (ro : Option Nat) (st : St) : codeB Try.prog E ⟨f, 29, b, ro⟩ n55_33 st = plainS (runOps Try.prog E b q55_33 (ops [true, true, true, false, true, false, false, true, true] Try.f55) st) := GE.region_step (id := 8) (by kernel_rfl) (by kernel_rfl)
theorem n55_30s (E : Ev) (cx : Cx) (st : St) : codeB Try.prog E cx n55_30 st = thenS (codeB Try.prog E cx n55_31 st) (codeB Try.prog E cx n55_33) := GE.seq_step (by kernel_rfl)
theorem n55_24s (E : Ev) (cx : Cx) (st : St) : codeB Try.prog E cx n55_24 st = thenS (codeB Try.prog E cx n55_25 st) (codeB Try.prog E cx n55_30) := GE.seq_step (by kernel_rfl)
theorem n55_23s (E : Ev) (cx : Cx) (st : St) : codeB Try.prog E cx n55_23 st = loopS (fun st' => E.code cx n55_23 st') cx.base (codeB Try.prog E cx n55_24 st) st := GE.loop_step (by kernel_rfl)
theorem n55_22s (E : Ev) (cx : Cx) (st : St) : codeB Try.prog E cx n55_22 st = blockS 2 (codeB Try.prog E cx n55_23 st) st := GE.block_step (by kernel_rfl)
theorem n55_20s (E : Ev) (cx : Cx) (st : St) : codeB Try.prog E cx n55_20 st = thenS (codeB Try.prog E cx n55_21 st) (codeB Try.prog E cx n55_22) := GE.seq_step (by kernel_rfl)
theorem n55_35s (E : Ev) (f : FuncId) (b : Nat) (ro : Option Nat) (st : St) : codeB Try.prog E ⟨f, 29, b, ro⟩ n55_35 st = plainS (runOps Try.prog E b q55_35 (ops [true, true, true, true, false] Try.f55) st) := GE.region_step (id := 10) (by kernel_rfl) (by kernel_rfl)
theorem n55_36s (E : Ev) (cx : Cx) (st : St) : codeB Try.prog E cx n55_36 st = some (.ret, st) := GE.ret_step (by kernel_rfl)
theorem n55_34s (E : Ev) (cx : Cx) (st : St) : codeB Try.prog E cx n55_34 st = thenS (codeB Try.prog E cx n55_35 st) (codeB Try.prog E cx n55_36) := GE.seq_step (by kernel_rfl)
theorem n55_19s (E : Ev) (cx : Cx) (st : St) : codeB Try.prog E cx n55_19 st = thenS (codeB Try.prog E cx n55_20 st) (codeB Try.prog E cx n55_34) := GE.seq_step (by kernel_rfl)
theorem n55_4s (E : Ev) (cx : Cx) (st : St) : codeB Try.prog E cx n55_4 st = thenS (codeB Try.prog E cx n55_5 st) (codeB Try.prog E cx n55_19) := GE.seq_step (by kernel_rfl)
theorem n55_2s (E : Ev) (cx : Cx) (st : St) : codeB Try.prog E cx n55_2 st = thenS (codeB Try.prog E cx n55_3 st) (codeB Try.prog E cx n55_4) := GE.seq_step (by kernel_rfl)
theorem n55_0s (E : Ev) (cx : Cx) (st : St) : codeB Try.prog E cx n55_0 st = thenS (codeB Try.prog E cx n55_1 st) (codeB Try.prog E cx n55_2) := GE.seq_step (by kernel_rfl)
noncomputable def n72_0 : Code := sub [] (bodyOf Try.f72)
noncomputable def n72_1 : Code := sub [false] (bodyOf Try.f72)
noncomputable def q72_1 : List Oper := ops [false] Try.f72
noncomputable def n72_2 : Code := sub [true] (bodyOf Try.f72)
noncomputable def n72_3 : Code := sub [true, false] (bodyOf Try.f72)
noncomputable def q72_3 : List Oper := ops [true, false] Try.f72
noncomputable def n72_4 : Code := sub [true, true] (bodyOf Try.f72)
theorem body72 : Try.f72.body = some n72_0 := by kernel_rfl
theorem run72 (E : Ev) (args : List Value) (h : List Blk) (hl : args.length ≤ 8) : runB Try.prog E 72 args h = endS Try.prog [.tmp 4] h.length (codeB Try.prog E ⟨72, 8, h.length, none⟩ n72_0 ⟨enumT 0 args, h, []⟩) := GE.run_step Try.func72 body72 (by kernel_rfl) (by decide) (by kernel_rfl) hl
theorem n72_1s (E : Ev) (f : FuncId) (b : Nat) (ro : Option Nat) (st : St) : codeB Try.prog E ⟨f, 8, b, ro⟩ n72_1 st = plainS (runOps Try.prog E b q72_1 (ops [false] Try.f72) st) := GE.region_step (id := 0) (by kernel_rfl) (by kernel_rfl)
theorem n72_3s (E : Ev) (f : FuncId) (b : Nat) (ro : Option Nat) (st : St) : codeB Try.prog E ⟨f, 8, b, ro⟩ n72_3 st = plainS (runOps Try.prog E b q72_3 (ops [true, false] Try.f72) st) := GE.region_step (id := 1) (by kernel_rfl) (by kernel_rfl)
theorem n72_4s (E : Ev) (cx : Cx) (st : St) : codeB Try.prog E cx n72_4 st = some (.ret, st) := GE.ret_step (by kernel_rfl)
theorem n72_2s (E : Ev) (cx : Cx) (st : St) : codeB Try.prog E cx n72_2 st = thenS (codeB Try.prog E cx n72_3 st) (codeB Try.prog E cx n72_4) := GE.seq_step (by kernel_rfl)
theorem n72_0s (E : Ev) (cx : Cx) (st : St) : codeB Try.prog E cx n72_0 st = thenS (codeB Try.prog E cx n72_1 st) (codeB Try.prog E cx n72_2) := GE.seq_step (by kernel_rfl)
noncomputable def n73_0 : Code := sub [] (bodyOf Try.f73)
noncomputable def n73_1 : Code := sub [false] (bodyOf Try.f73)
noncomputable def q73_1 : List Oper := ops [false] Try.f73
noncomputable def n73_2 : Code := sub [true] (bodyOf Try.f73)
noncomputable def n73_3 : Code := sub [true, false] (bodyOf Try.f73)
noncomputable def q73_3 : List Oper := ops [true, false] Try.f73
noncomputable def n73_4 : Code := sub [true, true] (bodyOf Try.f73)
noncomputable def n73_5 : Code := sub [true, true, false] (bodyOf Try.f73)
noncomputable def q73_5 : List Oper := ops [true, true, false] Try.f73
noncomputable def n73_6 : Code := sub [true, true, true] (bodyOf Try.f73)
theorem body73 : Try.f73.body = some n73_0 := by kernel_rfl
theorem run73 (E : Ev) (args : List Value) (h : List Blk) (hl : args.length ≤ 29) : runB Try.prog E 73 args h = endS Try.prog [.cell 4 35, .cell 5 35] h.length (codeB Try.prog E ⟨73, 29, h.length, none⟩ n73_0 ⟨enumT 0 args, h, []⟩) := GE.run_step Try.func73 body73 (by kernel_rfl) (by decide) (by kernel_rfl) hl
theorem n73_1s (E : Ev) (f : FuncId) (b : Nat) (ro : Option Nat) (st : St) : codeB Try.prog E ⟨f, 29, b, ro⟩ n73_1 st = plainS (runOps Try.prog E b q73_1 (ops [false] Try.f73) st) := GE.region_step (id := 0) (by kernel_rfl) (by kernel_rfl)
theorem n73_3s (E : Ev) (f : FuncId) (b : Nat) (ro : Option Nat) (st : St) : codeB Try.prog E ⟨f, 29, b, ro⟩ n73_3 st = plainS (runOps Try.prog E b q73_3 (ops [true, false] Try.f73) st) := GE.region_step (id := 1) (by kernel_rfl) (by kernel_rfl)
theorem n73_5s (E : Ev) (f : FuncId) (b : Nat) (ro : Option Nat) (st : St) : codeB Try.prog E ⟨f, 29, b, ro⟩ n73_5 st = drawS [0, 1, 0, 4, 0, 0, 32, 127, 0, 256, 0, 1792, 0, 4096, 0, 16384, 0, 114688, 0, 262144, 1048320, 255, 4194303] (runOpsF Try.prog E b q73_5 (ops [true, true, false] Try.f73) st) := GE.draw_step (id := 2) (by kernel_rfl) (by kernel_rfl) (by kernel_rfl) (by kernel_rfl)
theorem n73_6s (E : Ev) (cx : Cx) (st : St) : codeB Try.prog E cx n73_6 st = some (.ret, st) := GE.ret_step (by kernel_rfl)
theorem n73_4s (E : Ev) (cx : Cx) (st : St) : codeB Try.prog E cx n73_4 st = thenS (codeB Try.prog E cx n73_5 st) (codeB Try.prog E cx n73_6) := GE.seq_step (by kernel_rfl)
theorem n73_2s (E : Ev) (cx : Cx) (st : St) : codeB Try.prog E cx n73_2 st = thenS (codeB Try.prog E cx n73_3 st) (codeB Try.prog E cx n73_4) := GE.seq_step (by kernel_rfl)
theorem n73_0s (E : Ev) (cx : Cx) (st : St) : codeB Try.prog E cx n73_0 st = thenS (codeB Try.prog E cx n73_1 st) (codeB Try.prog E cx n73_2) := GE.seq_step (by kernel_rfl)
noncomputable def n74_0 : Code := sub [] (bodyOf Try.f74)
noncomputable def n74_1 : Code := sub [false] (bodyOf Try.f74)
noncomputable def q74_1 : List Oper := ops [false] Try.f74
noncomputable def n74_2 : Code := sub [true] (bodyOf Try.f74)
noncomputable def n74_3 : Code := sub [true, false] (bodyOf Try.f74)
noncomputable def q74_3 : List Oper := ops [true, false] Try.f74
noncomputable def n74_4 : Code := sub [true, true] (bodyOf Try.f74)
theorem body74 : Try.f74.body = some n74_0 := by kernel_rfl
theorem run74 (E : Ev) (args : List Value) (h : List Blk) (hl : args.length ≤ 8) : runB Try.prog E 74 args h = endS Try.prog [.tmp 4] h.length (codeB Try.prog E ⟨74, 8, h.length, none⟩ n74_0 ⟨enumT 0 args, h, []⟩) := GE.run_step Try.func74 body74 (by kernel_rfl) (by decide) (by kernel_rfl) hl
theorem n74_1s (E : Ev) (f : FuncId) (b : Nat) (ro : Option Nat) (st : St) : codeB Try.prog E ⟨f, 8, b, ro⟩ n74_1 st = plainS (runOps Try.prog E b q74_1 (ops [false] Try.f74) st) := GE.region_step (id := 0) (by kernel_rfl) (by kernel_rfl)
theorem n74_3s (E : Ev) (f : FuncId) (b : Nat) (ro : Option Nat) (st : St) : codeB Try.prog E ⟨f, 8, b, ro⟩ n74_3 st = plainS (runOps Try.prog E b q74_3 (ops [true, false] Try.f74) st) := GE.region_step (id := 1) (by kernel_rfl) (by kernel_rfl)
theorem n74_4s (E : Ev) (cx : Cx) (st : St) : codeB Try.prog E cx n74_4 st = some (.ret, st) := GE.ret_step (by kernel_rfl)
theorem n74_2s (E : Ev) (cx : Cx) (st : St) : codeB Try.prog E cx n74_2 st = thenS (codeB Try.prog E cx n74_3 st) (codeB Try.prog E cx n74_4) := GE.seq_step (by kernel_rfl)
theorem n74_0s (E : Ev) (cx : Cx) (st : St) : codeB Try.prog E cx n74_0 st = thenS (codeB Try.prog E cx n74_1 st) (codeB Try.prog E cx n74_2) := GE.seq_step (by kernel_rfl)
noncomputable def n75_0 : Code := sub [] (bodyOf Try.f75)
noncomputable def n75_1 : Code := sub [false] (bodyOf Try.f75)
noncomputable def q75_1 : List Oper := ops [false] Try.f75
noncomputable def n75_2 : Code := sub [true] (bodyOf Try.f75)
noncomputable def n75_3 : Code := sub [true, false] (bodyOf Try.f75)
noncomputable def q75_3 : List Oper := ops [true, false] Try.f75
noncomputable def n75_4 : Code := sub [true, true] (bodyOf Try.f75)
noncomputable def n75_5 : Code := sub [true, true, false] (bodyOf Try.f75)
noncomputable def q75_5 : List Oper := ops [true, true, false] Try.f75
noncomputable def n75_6 : Code := sub [true, true, true] (bodyOf Try.f75)
theorem body75 : Try.f75.body = some n75_0 := by kernel_rfl
theorem run75 (E : Ev) (args : List Value) (h : List Blk) (hl : args.length ≤ 29) : runB Try.prog E 75 args h = endS Try.prog [.cell 4 35, .cell 5 35] h.length (codeB Try.prog E ⟨75, 29, h.length, none⟩ n75_0 ⟨enumT 0 args, h, []⟩) := GE.run_step Try.func75 body75 (by kernel_rfl) (by decide) (by kernel_rfl) hl
theorem n75_1s (E : Ev) (f : FuncId) (b : Nat) (ro : Option Nat) (st : St) : codeB Try.prog E ⟨f, 29, b, ro⟩ n75_1 st = plainS (runOps Try.prog E b q75_1 (ops [false] Try.f75) st) := GE.region_step (id := 0) (by kernel_rfl) (by kernel_rfl)
theorem n75_3s (E : Ev) (f : FuncId) (b : Nat) (ro : Option Nat) (st : St) : codeB Try.prog E ⟨f, 29, b, ro⟩ n75_3 st = plainS (runOps Try.prog E b q75_3 (ops [true, false] Try.f75) st) := GE.region_step (id := 1) (by kernel_rfl) (by kernel_rfl)
theorem n75_5s (E : Ev) (f : FuncId) (b : Nat) (ro : Option Nat) (st : St) : codeB Try.prog E ⟨f, 29, b, ro⟩ n75_5 st = drawS [0, 1, 0, 4, 0, 16, 0, 127, 0, 256, 0, 1024, 0, 7168, 0, 16384, 0, 65536, 0, 458752, 1048320, 255, 4194303] (runOpsF Try.prog E b q75_5 (ops [true, true, false] Try.f75) st) := GE.draw_step (id := 2) (by kernel_rfl) (by kernel_rfl) (by kernel_rfl) (by kernel_rfl)
theorem n75_6s (E : Ev) (cx : Cx) (st : St) : codeB Try.prog E cx n75_6 st = some (.ret, st) := GE.ret_step (by kernel_rfl)
theorem n75_4s (E : Ev) (cx : Cx) (st : St) : codeB Try.prog E cx n75_4 st = thenS (codeB Try.prog E cx n75_5 st) (codeB Try.prog E cx n75_6) := GE.seq_step (by kernel_rfl)
theorem n75_2s (E : Ev) (cx : Cx) (st : St) : codeB Try.prog E cx n75_2 st = thenS (codeB Try.prog E cx n75_3 st) (codeB Try.prog E cx n75_4) := GE.seq_step (by kernel_rfl)
theorem n75_0s (E : Ev) (cx : Cx) (st : St) : codeB Try.prog E cx n75_0 st = thenS (codeB Try.prog E cx n75_1 st) (codeB Try.prog E cx n75_2) := GE.seq_step (by kernel_rfl)
noncomputable def n25_0 : Code := sub [] (bodyOf Try.f25)
noncomputable def n25_1 : Code := sub [false] (bodyOf Try.f25)
noncomputable def q25_1 : List Oper := ops [false] Try.f25
noncomputable def n25_2 : Code := sub [true] (bodyOf Try.f25)
noncomputable def n25_3 : Code := sub [true, false] (bodyOf Try.f25)
noncomputable def n25_4 : Code := sub [true, false, false] (bodyOf Try.f25)
noncomputable def q25_4 : List Oper := ops [true, false, false] Try.f25
noncomputable def n25_5 : Code := sub [true, false, true] (bodyOf Try.f25)
noncomputable def n25_6 : Code := sub [true, false, true, false] (bodyOf Try.f25)
noncomputable def n25_7 : Code := sub [true, false, true, false, false] (bodyOf Try.f25)
noncomputable def q25_7 : List Oper := ops [true, false, true, false, false] Try.f25
noncomputable def n25_8 : Code := sub [true, false, true, false, true] (bodyOf Try.f25)
noncomputable def n25_9 : Code := sub [true, false, true, true] (bodyOf Try.f25)
noncomputable def n25_10 : Code := sub [true, true] (bodyOf Try.f25)
noncomputable def n25_11 : Code := sub [true, true, false] (bodyOf Try.f25)
noncomputable def q25_11 : List Oper := ops [true, true, false] Try.f25
noncomputable def n25_12 : Code := sub [true, true, true] (bodyOf Try.f25)
theorem body25 : Try.f25.body = some n25_0 := by kernel_rfl
theorem run25 (E : Ev) (args : List Value) (h : List Blk) (hl : args.length ≤ 19) : runB Try.prog E 25 args h = endS Try.prog [.tmp 4, .tmp 5] h.length (codeB Try.prog E ⟨25, 19, h.length, none⟩ n25_0 ⟨enumT 0 args, h, []⟩) := GE.run_step Try.func25 body25 (by kernel_rfl) (by decide) (by kernel_rfl) hl
theorem n25_1s (E : Ev) (f : FuncId) (b : Nat) (ro : Option Nat) (st : St) : codeB Try.prog E ⟨f, 19, b, ro⟩ n25_1 st = plainS (runOps Try.prog E b q25_1 (ops [false] Try.f25) st) := GE.region_step (id := 0) (by kernel_rfl) (by kernel_rfl)
theorem q25_4g3 : gd q25_4 3 = some 9 := by kernel_rfl
theorem n25_4s (E : Ev) (f : FuncId) (b : Nat) (ro : Option Nat) (st : St) : codeB Try.prog E ⟨f, 19, b, ro⟩ n25_4 st = plainS (runOps Try.prog E b q25_4 (ops [true, false, false] Try.f25) st) := GE.region_step (id := 1) (by kernel_rfl) (by kernel_rfl)
theorem n25_7s (E : Ev) (f : FuncId) (b : Nat) (ro : Option Nat) (st : St) : codeB Try.prog E ⟨f, 19, b, ro⟩ n25_7 st = plainS (runOps Try.prog E b q25_7 (ops [true, false, true, false, false] Try.f25) st) := GE.region_step (id := 2) (by kernel_rfl) (by kernel_rfl)
theorem n25_8s (E : Ev) (cx : Cx) (st : St) : codeB Try.prog E cx n25_8 st = some (.ret, st) := GE.ret_step (by kernel_rfl)
theorem n25_6s (E : Ev) (cx : Cx) (st : St) : codeB Try.prog E cx n25_6 st = thenS (codeB Try.prog E cx n25_7 st) (codeB Try.prog E cx n25_8) := GE.seq_step (by kernel_rfl)
theorem n25_9s (E : Ev) (cx : Cx) (st : St) : codeB Try.prog E cx n25_9 st = some (.normal, st) := GE.skip_step (by kernel_rfl)
theorem n25_5s (E : Ev) (cx : Cx) (st : St) : codeB Try.prog E cx n25_5 st = condS (codeB Try.prog E cx n25_6) (codeB Try.prog E cx n25_9) (lk st.σ 13) st := GE.cond_step (c := .tmp 13) (by kernel_rfl)
theorem n25_3s (E : Ev) (cx : Cx) (st : St) : codeB Try.prog E cx n25_3 st = thenS (codeB Try.prog E cx n25_4 st) (codeB Try.prog E cx n25_5) := GE.seq_step (by kernel_rfl)
theorem n25_11s (E : Ev) (f : FuncId) (b : Nat) (ro : Option Nat) (st : St) : codeB Try.prog E ⟨f, 19, b, ro⟩ n25_11 st = plainS (runOps Try.prog E b q25_11 (ops [true, true, false] Try.f25) st) := GE.region_step (id := 3) (by kernel_rfl) (by kernel_rfl)
theorem n25_12s (E : Ev) (cx : Cx) (st : St) : codeB Try.prog E cx n25_12 st = some (.ret, st) := GE.ret_step (by kernel_rfl)
theorem n25_10s (E : Ev) (cx : Cx) (st : St) : codeB Try.prog E cx n25_10 st = thenS (codeB Try.prog E cx n25_11 st) (codeB Try.prog E cx n25_12) := GE.seq_step (by kernel_rfl)
theorem n25_2s (E : Ev) (cx : Cx) (st : St) : codeB Try.prog E cx n25_2 st = thenS (codeB Try.prog E cx n25_3 st) (codeB Try.prog E cx n25_10) := GE.seq_step (by kernel_rfl)
theorem n25_0s (E : Ev) (cx : Cx) (st : St) : codeB Try.prog E cx n25_0 st = thenS (codeB Try.prog E cx n25_1 st) (codeB Try.prog E cx n25_2) := GE.seq_step (by kernel_rfl)
noncomputable def n49_0 : Code := sub [] (bodyOf Try.f49)
noncomputable def n49_1 : Code := sub [false] (bodyOf Try.f49)
noncomputable def q49_1 : List Oper := ops [false] Try.f49
noncomputable def n49_2 : Code := sub [true] (bodyOf Try.f49)
noncomputable def n49_3 : Code := sub [true, false] (bodyOf Try.f49)
noncomputable def q49_3 : List Oper := ops [true, false] Try.f49
noncomputable def n49_4 : Code := sub [true, true] (bodyOf Try.f49)
noncomputable def n49_5 : Code := sub [true, true, false] (bodyOf Try.f49)
noncomputable def n49_6 : Code := sub [true, true, false, false] (bodyOf Try.f49)
noncomputable def q49_6 : List Oper := ops [true, true, false, false] Try.f49
noncomputable def n49_7 : Code := sub [true, true, false, true] (bodyOf Try.f49)
noncomputable def n49_8 : Code := sub [true, true, false, true, false] (bodyOf Try.f49)
noncomputable def n49_9 : Code := sub [true, true, false, true, false, false] (bodyOf Try.f49)
noncomputable def n49_10 : Code := sub [true, true, false, true, false, false, false] (bodyOf Try.f49)
noncomputable def n49_11 : Code := sub [true, true, false, true, false, false, false, false] (bodyOf Try.f49)
noncomputable def q49_11 : List Oper := ops [true, true, false, true, false, false, false, false] Try.f49
noncomputable def n49_12 : Code := sub [true, true, false, true, false, false, false, true] (bodyOf Try.f49)
noncomputable def n49_13 : Code := sub [true, true, false, true, false, false, false, true, false] (bodyOf Try.f49)
noncomputable def n49_14 : Code := sub [true, true, false, true, false, false, false, true, true] (bodyOf Try.f49)
noncomputable def n49_15 : Code := sub [true, true, false, true, false, false, true] (bodyOf Try.f49)
noncomputable def n49_16 : Code := sub [true, true, false, true, false, false, true, false] (bodyOf Try.f49)
noncomputable def n49_17 : Code := sub [true, true, false, true, false, false, true, false, false] (bodyOf Try.f49)
noncomputable def n49_18 : Code := sub [true, true, false, true, false, false, true, false, false, false] (bodyOf Try.f49)
noncomputable def q49_18 : List Oper := ops [true, true, false, true, false, false, true, false, false, false] Try.f49
noncomputable def n49_19 : Code := sub [true, true, false, true, false, false, true, false, false, true] (bodyOf Try.f49)
noncomputable def n49_20 : Code := sub [true, true, false, true, false, false, true, false, false, true, false] (bodyOf Try.f49)
noncomputable def n49_21 : Code := sub [true, true, false, true, false, false, true, false, false, true, false, false] (bodyOf Try.f49)
noncomputable def n49_22 : Code := sub [true, true, false, true, false, false, true, false, false, true, false, false, false] (bodyOf Try.f49)
noncomputable def n49_23 : Code := sub [true, true, false, true, false, false, true, false, false, true, false, false, false, false] (bodyOf Try.f49)
noncomputable def q49_23 : List Oper := ops [true, true, false, true, false, false, true, false, false, true, false, false, false, false] Try.f49
noncomputable def n49_24 : Code := sub [true, true, false, true, false, false, true, false, false, true, false, false, false, true] (bodyOf Try.f49)
noncomputable def n49_25 : Code := sub [true, true, false, true, false, false, true, false, false, true, false, false, false, true, false] (bodyOf Try.f49)
noncomputable def n49_26 : Code := sub [true, true, false, true, false, false, true, false, false, true, false, false, false, true, true] (bodyOf Try.f49)
noncomputable def n49_27 : Code := sub [true, true, false, true, false, false, true, false, false, true, false, false, true] (bodyOf Try.f49)
noncomputable def n49_28 : Code := sub [true, true, false, true, false, false, true, false, false, true, false, false, true, false] (bodyOf Try.f49)
noncomputable def n49_29 : Code := sub [true, true, false, true, false, false, true, false, false, true, false, false, true, false, false] (bodyOf Try.f49)
noncomputable def n49_30 : Code := sub [true, true, false, true, false, false, true, false, false, true, false, false, true, false, false, false] (bodyOf Try.f49)
noncomputable def q49_30 : List Oper := ops [true, true, false, true, false, false, true, false, false, true, false, false, true, false, false, false] Try.f49
noncomputable def n49_31 : Code := sub [true, true, false, true, false, false, true, false, false, true, false, false, true, false, false, true] (bodyOf Try.f49)
noncomputable def n49_32 : Code := sub [true, true, false, true, false, false, true, false, false, true, false, false, true, false, false, true, false] (bodyOf Try.f49)
noncomputable def n49_33 : Code := sub [true, true, false, true, false, false, true, false, false, true, false, false, true, false, false, true, false, false] (bodyOf Try.f49)
noncomputable def q49_33 : List Oper := ops [true, true, false, true, false, false, true, false, false, true, false, false, true, false, false, true, false, false] Try.f49
noncomputable def n49_34 : Code := sub [true, true, false, true, false, false, true, false, false, true, false, false, true, false, false, true, false, true] (bodyOf Try.f49)
noncomputable def n49_35 : Code := sub [true, true, false, true, false, false, true, false, false, true, false, false, true, false, false, true, false, true, false] (bodyOf Try.f49)
noncomputable def n49_36 : Code := sub [true, true, false, true, false, false, true, false, false, true, false, false, true, false, false, true, false, true, true] (bodyOf Try.f49)
noncomputable def n49_37 : Code := sub [true, true, false, true, false, false, true, false, false, true, false, false, true, false, false, true, true] (bodyOf Try.f49)
noncomputable def n49_38 : Code := sub [true, true, false, true, false, false, true, false, false, true, false, false, true, false, false, true, true, false] (bodyOf Try.f49)
noncomputable def q49_38 : List Oper := ops [true, true, false, true, false, false, true, false, false, true, false, false, true, false, false, true, true, false] Try.f49
noncomputable def n49_39 : Code := sub [true, true, false, true, false, false, true, false, false, true, false, false, true, false, false, true, true, true] (bodyOf Try.f49)
noncomputable def n49_40 : Code := sub [true, true, false, true, false, false, true, false, false, true, false, false, true, false, false, true, true, true, false] (bodyOf Try.f49)
noncomputable def n49_41 : Code := sub [true, true, false, true, false, false, true, false, false, true, false, false, true, false, false, true, true, true, false, false] (bodyOf Try.f49)
noncomputable def q49_41 : List Oper := ops [true, true, false, true, false, false, true, false, false, true, false, false, true, false, false, true, true, true, false, false] Try.f49
noncomputable def n49_42 : Code := sub [true, true, false, true, false, false, true, false, false, true, false, false, true, false, false, true, true, true, false, true] (bodyOf Try.f49)
noncomputable def n49_43 : Code := sub [true, true, false, true, false, false, true, false, false, true, false, false, true, false, false, true, true, true, false, true, false] (bodyOf Try.f49)
noncomputable def n49_44 : Code := sub [true, true, false, true, false, false, true, false, false, true, false, false, true, false, false, true, true, true, false, true, false, false] (bodyOf Try.f49)
noncomputable def n49_45 : Code := sub [true, true, false, true, false, false, true, false, false, true, false, false, true, false, false, true, true, true, false, true, false, false, false] (bodyOf Try.f49)
noncomputable def n49_46 : Code := sub [true, true, false, true, false, false, true, false, false, true, false, false, true, false, false, true, true, true, false, true, false, false, false, false] (bodyOf Try.f49)
noncomputable def q49_46 : List Oper := ops [true, true, false, true, false, false, true, false, false, true, false, false, true, false, false, true, true, true, false, true, false, false, false, false] Try.f49
noncomputable def n49_47 : Code := sub [true, true, false, true, false, false, true, false, false, true, false, false, true, false, false, true, true, true, false, true, false, false, false, true] (bodyOf Try.f49)
noncomputable def n49_48 : Code := sub [true, true, false, true, false, false, true, false, false, true, false, false, true, false, false, true, true, true, false, true, false, false, false, true, false] (bodyOf Try.f49)
noncomputable def n49_49 : Code := sub [true, true, false, true, false, false, true, false, false, true, false, false, true, false, false, true, true, true, false, true, false, false, false, true, true] (bodyOf Try.f49)
noncomputable def n49_50 : Code := sub [true, true, false, true, false, false, true, false, false, true, false, false, true, false, false, true, true, true, false, true, false, false, true] (bodyOf Try.f49)
noncomputable def n49_51 : Code := sub [true, true, false, true, false, false, true, false, false, true, false, false, true, false, false, true, true, true, false, true, false, false, true, false] (bodyOf Try.f49)
noncomputable def n49_52 : Code := sub [true, true, false, true, false, false, true, false, false, true, false, false, true, false, false, true, true, true, false, true, false, false, true, false, false] (bodyOf Try.f49)
noncomputable def n49_53 : Code := sub [true, true, false, true, false, false, true, false, false, true, false, false, true, false, false, true, true, true, false, true, false, false, true, false, false, false] (bodyOf Try.f49)
noncomputable def q49_53 : List Oper := ops [true, true, false, true, false, false, true, false, false, true, false, false, true, false, false, true, true, true, false, true, false, false, true, false, false, false] Try.f49
noncomputable def n49_54 : Code := sub [true, true, false, true, false, false, true, false, false, true, false, false, true, false, false, true, true, true, false, true, false, false, true, false, false, true] (bodyOf Try.f49)
noncomputable def n49_55 : Code := sub [true, true, false, true, false, false, true, false, false, true, false, false, true, false, false, true, true, true, false, true, false, false, true, false, false, true, false] (bodyOf Try.f49)
noncomputable def q49_55 : List Oper := ops [true, true, false, true, false, false, true, false, false, true, false, false, true, false, false, true, true, true, false, true, false, false, true, false, false, true, false] Try.f49
noncomputable def n49_56 : Code := sub [true, true, false, true, false, false, true, false, false, true, false, false, true, false, false, true, true, true, false, true, false, false, true, false, false, true, true] (bodyOf Try.f49)
noncomputable def n49_57 : Code := sub [true, true, false, true, false, false, true, false, false, true, false, false, true, false, false, true, true, true, false, true, false, false, true, false, false, true, true, false] (bodyOf Try.f49)
noncomputable def q49_57 : List Oper := ops [true, true, false, true, false, false, true, false, false, true, false, false, true, false, false, true, true, true, false, true, false, false, true, false, false, true, true, false] Try.f49
noncomputable def n49_58 : Code := sub [true, true, false, true, false, false, true, false, false, true, false, false, true, false, false, true, true, true, false, true, false, false, true, false, false, true, true, true] (bodyOf Try.f49)
noncomputable def n49_59 : Code := sub [true, true, false, true, false, false, true, false, false, true, false, false, true, false, false, true, true, true, false, true, false, false, true, true] (bodyOf Try.f49)
noncomputable def q49_59 : List Oper := ops [true, true, false, true, false, false, true, false, false, true, false, false, true, false, false, true, true, true, false, true, false, false, true, true] Try.f49
noncomputable def n49_60 : Code := sub [true, true, false, true, false, false, true, false, false, true, false, false, true, false, false, true, true, true, true] (bodyOf Try.f49)
noncomputable def n49_61 : Code := sub [true, true, false, true, false, false, true, false, false, true, false, false, true, false, false, true, true, true, true, false] (bodyOf Try.f49)
noncomputable def n49_62 : Code := sub [true, true, false, true, false, false, true, false, false, true, false, false, true, false, false, true, true, true, true, false, false] (bodyOf Try.f49)
noncomputable def q49_62 : List Oper := ops [true, true, false, true, false, false, true, false, false, true, false, false, true, false, false, true, true, true, true, false, false] Try.f49
noncomputable def n49_63 : Code := sub [true, true, false, true, false, false, true, false, false, true, false, false, true, false, false, true, true, true, true, false, true] (bodyOf Try.f49)
noncomputable def n49_64 : Code := sub [true, true, false, true, false, false, true, false, false, true, false, false, true, false, false, true, true, true, true, false, true, false] (bodyOf Try.f49)
noncomputable def n49_65 : Code := sub [true, true, false, true, false, false, true, false, false, true, false, false, true, false, false, true, true, true, true, false, true, false, false] (bodyOf Try.f49)
noncomputable def n49_66 : Code := sub [true, true, false, true, false, false, true, false, false, true, false, false, true, false, false, true, true, true, true, false, true, false, false, false] (bodyOf Try.f49)
noncomputable def n49_67 : Code := sub [true, true, false, true, false, false, true, false, false, true, false, false, true, false, false, true, true, true, true, false, true, false, false, false, false] (bodyOf Try.f49)
noncomputable def q49_67 : List Oper := ops [true, true, false, true, false, false, true, false, false, true, false, false, true, false, false, true, true, true, true, false, true, false, false, false, false] Try.f49
noncomputable def n49_68 : Code := sub [true, true, false, true, false, false, true, false, false, true, false, false, true, false, false, true, true, true, true, false, true, false, false, false, true] (bodyOf Try.f49)
noncomputable def n49_69 : Code := sub [true, true, false, true, false, false, true, false, false, true, false, false, true, false, false, true, true, true, true, false, true, false, false, false, true, false] (bodyOf Try.f49)
noncomputable def n49_70 : Code := sub [true, true, false, true, false, false, true, false, false, true, false, false, true, false, false, true, true, true, true, false, true, false, false, false, true, true] (bodyOf Try.f49)
noncomputable def n49_71 : Code := sub [true, true, false, true, false, false, true, false, false, true, false, false, true, false, false, true, true, true, true, false, true, false, false, true] (bodyOf Try.f49)
noncomputable def n49_72 : Code := sub [true, true, false, true, false, false, true, false, false, true, false, false, true, false, false, true, true, true, true, false, true, false, false, true, false] (bodyOf Try.f49)
noncomputable def n49_73 : Code := sub [true, true, false, true, false, false, true, false, false, true, false, false, true, false, false, true, true, true, true, false, true, false, false, true, false, false] (bodyOf Try.f49)
noncomputable def n49_74 : Code := sub [true, true, false, true, false, false, true, false, false, true, false, false, true, false, false, true, true, true, true, false, true, false, false, true, false, false, false] (bodyOf Try.f49)
noncomputable def q49_74 : List Oper := ops [true, true, false, true, false, false, true, false, false, true, false, false, true, false, false, true, true, true, true, false, true, false, false, true, false, false, false] Try.f49
noncomputable def n49_75 : Code := sub [true, true, false, true, false, false, true, false, false, true, false, false, true, false, false, true, true, true, true, false, true, false, false, true, false, false, true] (bodyOf Try.f49)
noncomputable def n49_76 : Code := sub [true, true, false, true, false, false, true, false, false, true, false, false, true, false, false, true, true, true, true, false, true, false, false, true, false, false, true, false] (bodyOf Try.f49)
noncomputable def q49_76 : List Oper := ops [true, true, false, true, false, false, true, false, false, true, false, false, true, false, false, true, true, true, true, false, true, false, false, true, false, false, true, false] Try.f49
noncomputable def n49_77 : Code := sub [true, true, false, true, false, false, true, false, false, true, false, false, true, false, false, true, true, true, true, false, true, false, false, true, false, false, true, true] (bodyOf Try.f49)
noncomputable def n49_78 : Code := sub [true, true, false, true, false, false, true, false, false, true, false, false, true, false, false, true, true, true, true, false, true, false, false, true, false, false, true, true, false] (bodyOf Try.f49)
noncomputable def q49_78 : List Oper := ops [true, true, false, true, false, false, true, false, false, true, false, false, true, false, false, true, true, true, true, false, true, false, false, true, false, false, true, true, false] Try.f49
noncomputable def n49_79 : Code := sub [true, true, false, true, false, false, true, false, false, true, false, false, true, false, false, true, true, true, true, false, true, false, false, true, false, false, true, true, true] (bodyOf Try.f49)
noncomputable def n49_80 : Code := sub [true, true, false, true, false, false, true, false, false, true, false, false, true, false, false, true, true, true, true, false, true, false, false, true, true] (bodyOf Try.f49)
noncomputable def q49_80 : List Oper := ops [true, true, false, true, false, false, true, false, false, true, false, false, true, false, false, true, true, true, true, false, true, false, false, true, true] Try.f49
noncomputable def n49_81 : Code := sub [true, true, false, true, false, false, true, false, false, true, false, false, true, false, false, true, true, true, true, true] (bodyOf Try.f49)
noncomputable def q49_81 : List Oper := ops [true, true, false, true, false, false, true, false, false, true, false, false, true, false, false, true, true, true, true, true] Try.f49
noncomputable def n49_82 : Code := sub [true, true, false, true, false, false, true, false, false, true, false, false, true, true] (bodyOf Try.f49)
noncomputable def q49_82 : List Oper := ops [true, true, false, true, false, false, true, false, false, true, false, false, true, true] Try.f49
noncomputable def n49_83 : Code := sub [true, true, false, true, false, false, true, true] (bodyOf Try.f49)
noncomputable def q49_83 : List Oper := ops [true, true, false, true, false, false, true, true] Try.f49
noncomputable def n49_84 : Code := sub [true, true, true] (bodyOf Try.f49)
noncomputable def n49_85 : Code := sub [true, true, true, false] (bodyOf Try.f49)
noncomputable def q49_85 : List Oper := ops [true, true, true, false] Try.f49
noncomputable def n49_86 : Code := sub [true, true, true, true] (bodyOf Try.f49)
theorem body49 : Try.f49.body = some n49_0 := by kernel_rfl
theorem run49 (E : Ev) (args : List Value) (h : List Blk) (hl : args.length ≤ 88) : runB Try.prog E 49 args h = endS Try.prog [.cell 0 83] h.length (codeB Try.prog E ⟨49, 88, h.length, none⟩ n49_0 ⟨enumT 0 args, h, []⟩) := GE.run_step Try.func49 body49 (by kernel_rfl) (by decide) (by kernel_rfl) hl
theorem n49_1s (E : Ev) (f : FuncId) (b : Nat) (ro : Option Nat) (st : St) : codeB Try.prog E ⟨f, 88, b, ro⟩ n49_1 st = plainS (runOps Try.prog E b q49_1 (ops [false] Try.f49) st) := GE.region_step (id := 0) (by kernel_rfl) (by kernel_rfl)
theorem n49_3s (E : Ev) (f : FuncId) (b : Nat) (ro : Option Nat) (st : St) : codeB Try.prog E ⟨f, 88, b, ro⟩ n49_3 st = plainS (runOps Try.prog E b q49_3 (ops [true, false] Try.f49) st) := GE.region_step (id := 1) (by kernel_rfl) (by kernel_rfl)
theorem n49_6s (E : Ev) (f : FuncId) (b : Nat) (ro : Option Nat) (st : St) : codeB Try.prog E ⟨f, 88, b, ro⟩ n49_6 st = plainS (runOps Try.prog E b q49_6 (ops [true, true, false, false] Try.f49) st) := GE.region_step (id := 2) (by kernel_rfl) (by kernel_rfl)
theorem n49_11s (E : Ev) (f : FuncId) (b : Nat) (ro : Option Nat) (st : St) : codeB Try.prog E ⟨f, 88, b, ro⟩ n49_11 st = plainS (runOps Try.prog E b q49_11 (ops [true, true, false, true, false, false, false, false] Try.f49) st) := GE.region_step (id := 3) (by kernel_rfl) (by kernel_rfl)
theorem n49_13s (E : Ev) (cx : Cx) (st : St) : codeB Try.prog E cx n49_13 st = some (.normal, st) := GE.skip_step (by kernel_rfl)
theorem n49_14s (E : Ev) (cx : Cx) (st : St) : codeB Try.prog E cx n49_14 st = some (.exit 0, st) := GE.exit_step (by kernel_rfl)
theorem n49_12s (E : Ev) (cx : Cx) (st : St) : codeB Try.prog E cx n49_12 st = condS (codeB Try.prog E cx n49_13) (codeB Try.prog E cx n49_14) (lk st.σ 11) st := GE.cond_step (c := .tmp 11) (by kernel_rfl)
theorem n49_10s (E : Ev) (cx : Cx) (st : St) : codeB Try.prog E cx n49_10 st = thenS (codeB Try.prog E cx n49_11 st) (codeB Try.prog E cx n49_12) := GE.seq_step (by kernel_rfl)
theorem n49_18s (E : Ev) (f : FuncId) (b : Nat) (ro : Option Nat) (st : St) : codeB Try.prog E ⟨f, 88, b, ro⟩ n49_18 st = plainS (runOps Try.prog E b q49_18 (ops [true, true, false, true, false, false, true, false, false, false] Try.f49) st) := GE.region_step (id := 5) (by kernel_rfl) (by kernel_rfl)
theorem n49_23s (E : Ev) (f : FuncId) (b : Nat) (ro : Option Nat) (st : St) : codeB Try.prog E ⟨f, 88, b, ro⟩ n49_23 st = plainS (runOps Try.prog E b q49_23 (ops [true, true, false, true, false, false, true, false, false, true, false, false, false, false] Try.f49) st) := GE.region_step (id := 6) (by kernel_rfl) (by kernel_rfl)
theorem n49_25s (E : Ev) (cx : Cx) (st : St) : codeB Try.prog E cx n49_25 st = some (.normal, st) := GE.skip_step (by kernel_rfl)
theorem n49_26s (E : Ev) (cx : Cx) (st : St) : codeB Try.prog E cx n49_26 st = some (.exit 2, st) := GE.exit_step (by kernel_rfl)
theorem n49_24s (E : Ev) (cx : Cx) (st : St) : codeB Try.prog E cx n49_24 st = condS (codeB Try.prog E cx n49_25) (codeB Try.prog E cx n49_26) (lk st.σ 15) st := GE.cond_step (c := .tmp 15) (by kernel_rfl)
theorem n49_22s (E : Ev) (cx : Cx) (st : St) : codeB Try.prog E cx n49_22 st = thenS (codeB Try.prog E cx n49_23 st) (codeB Try.prog E cx n49_24) := GE.seq_step (by kernel_rfl)
theorem n49_30s (E : Ev) (f : FuncId) (b : Nat) (ro : Option Nat) (st : St) : codeB Try.prog E ⟨f, 88, b, ro⟩ n49_30 st = plainS (runOps Try.prog E b q49_30 (ops [true, true, false, true, false, false, true, false, false, true, false, false, true, false, false, false] Try.f49) st) := GE.region_step (id := 8) (by kernel_rfl) (by kernel_rfl)
theorem n49_33s (E : Ev) (f : FuncId) (b : Nat) (ro : Option Nat) (st : St) : codeB Try.prog E ⟨f, 88, b, ro⟩ n49_33 st = plainS (runOps Try.prog E b q49_33 (ops [true, true, false, true, false, false, true, false, false, true, false, false, true, false, false, true, false, false] Try.f49) st) := GE.region_step (id := 9) (by kernel_rfl) (by kernel_rfl)
theorem n49_35s (E : Ev) (cx : Cx) (st : St) : codeB Try.prog E cx n49_35 st = some (.exit 3, st) := GE.exit_step (by kernel_rfl)
theorem n49_36s (E : Ev) (cx : Cx) (st : St) : codeB Try.prog E cx n49_36 st = some (.normal, st) := GE.skip_step (by kernel_rfl)
theorem n49_34s (E : Ev) (cx : Cx) (st : St) : codeB Try.prog E cx n49_34 st = condS (codeB Try.prog E cx n49_35) (codeB Try.prog E cx n49_36) (lk st.σ 23) st := GE.cond_step (c := .tmp 23) (by kernel_rfl)
theorem n49_32s (E : Ev) (cx : Cx) (st : St) : codeB Try.prog E cx n49_32 st = thenS (codeB Try.prog E cx n49_33 st) (codeB Try.prog E cx n49_34) := GE.seq_step (by kernel_rfl)
theorem n49_38s (E : Ev) (f : FuncId) (b : Nat) (ro : Option Nat) (st : St) : codeB Try.prog E ⟨f, 88, b, ro⟩ n49_38 st = plainS (runOps Try.prog E b q49_38 (ops [true, true, false, true, false, false, true, false, false, true, false, false, true, false, false, true, true, false] Try.f49) st) := GE.region_step (id := 10) (by kernel_rfl) (by kernel_rfl)
theorem n49_41s (E : Ev) (f : FuncId) (b : Nat) (ro : Option Nat) (st : St) : codeB Try.prog E ⟨f, 88, b, ro⟩ n49_41 st = plainS (runOps Try.prog E b q49_41 (ops [true, true, false, true, false, false, true, false, false, true, false, false, true, false, false, true, true, true, false, false] Try.f49) st) := GE.region_step (id := 11) (by kernel_rfl) (by kernel_rfl)
theorem n49_46s (E : Ev) (f : FuncId) (b : Nat) (ro : Option Nat) (st : St) : codeB Try.prog E ⟨f, 88, b, ro⟩ n49_46 st = plainS (runOps Try.prog E b q49_46 (ops [true, true, false, true, false, false, true, false, false, true, false, false, true, false, false, true, true, true, false, true, false, false, false, false] Try.f49) st) := GE.region_step (id := 12) (by kernel_rfl) (by kernel_rfl)
theorem n49_48s (E : Ev) (cx : Cx) (st : St) : codeB Try.prog E cx n49_48 st = some (.normal, st) := GE.skip_step (by kernel_rfl)
theorem n49_49s (E : Ev) (cx : Cx) (st : St) : codeB Try.prog E cx n49_49 st = some (.exit 4, st) := GE.exit_step (by kernel_rfl)
theorem n49_47s (E : Ev) (cx : Cx) (st : St) : codeB Try.prog E cx n49_47 st = condS (codeB Try.prog E cx n49_48) (codeB Try.prog E cx n49_49) (lk st.σ 26) st := GE.cond_step (c := .tmp 26) (by kernel_rfl)
theorem n49_45s (E : Ev) (cx : Cx) (st : St) : codeB Try.prog E cx n49_45 st = thenS (codeB Try.prog E cx n49_46 st) (codeB Try.prog E cx n49_47) := GE.seq_step (by kernel_rfl)
theorem n49_53s (E : Ev) (f : FuncId) (b : Nat) (ro : Option Nat) (st : St) : codeB Try.prog E ⟨f, 88, b, ro⟩ n49_53 st = drawS [0, 1, 0, 0, 4, 28, 60, 0, 0, 384, 0, 896, 3968, 8064, 16380, 32767, 65535] (runOpsF Try.prog E b q49_53 (ops [true, true, false, true, false, false, true, false, false, true, false, false, true, false, false, true, true, true, false, true, false, false, true, false, false, false] Try.f49) st) := GE.draw_step (id := 14) (by kernel_rfl) (by kernel_rfl) (by kernel_rfl) (by kernel_rfl)
theorem q49_55g2 : gd q49_55 2 = some 47 := by kernel_rfl
theorem n49_55s (E : Ev) (f : FuncId) (b : Nat) (ro : Option Nat) (st : St) : codeB Try.prog E ⟨f, 88, b, ro⟩ n49_55 st = plainS (runOps Try.prog E b q49_55 (ops [true, true, false, true, false, false, true, false, false, true, false, false, true, false, false, true, true, true, false, true, false, false, true, false, false, true, false] Try.f49) st) := GE.region_step (id := 15) (by kernel_rfl) (by kernel_rfl)
theorem n49_57s (E : Ev) (f : FuncId) (b : Nat) (ro : Option Nat) (st : St) : codeB Try.prog E ⟨f, 88, b, ro⟩ n49_57 st = plainS (runOps Try.prog E b q49_57 (ops [true, true, false, true, false, false, true, false, false, true, false, false, true, false, false, true, true, true, false, true, false, false, true, false, false, true, true, false] Try.f49) st) := GE.region_step (id := 16) (by kernel_rfl) (by kernel_rfl)
theorem n49_58s (E : Ev) (cx : Cx) (st : St) : codeB Try.prog E cx n49_58 st = some (.normal, st) := GE.skip_step (by kernel_rfl)
theorem n49_56s (E : Ev) (cx : Cx) (st : St) : codeB Try.prog E cx n49_56 st = condS (codeB Try.prog E cx n49_57) (codeB Try.prog E cx n49_58) (lk st.σ 51) st := GE.cond_step (c := .tmp 51) (by kernel_rfl)
theorem n49_54s (E : Ev) (cx : Cx) (st : St) : codeB Try.prog E cx n49_54 st = thenS (codeB Try.prog E cx n49_55 st) (codeB Try.prog E cx n49_56) := GE.seq_step (by kernel_rfl)
theorem n49_52s (E : Ev) (cx : Cx) (st : St) : codeB Try.prog E cx n49_52 st = thenS (codeB Try.prog E cx n49_53 st) (codeB Try.prog E cx n49_54) := GE.seq_step (by kernel_rfl)
theorem n49_51s (E : Ev) (cx : Cx) (st : St) : codeB Try.prog E cx n49_51 st = blockS 5 (codeB Try.prog E cx n49_52 st) st := GE.block_step (by kernel_rfl)
theorem n49_59s (E : Ev) (f : FuncId) (b : Nat) (ro : Option Nat) (st : St) : codeB Try.prog E ⟨f, 88, b, ro⟩ n49_59 st = plainS (runOps Try.prog E b q49_59 (ops [true, true, false, true, false, false, true, false, false, true, false, false, true, false, false, true, true, true, false, true, false, false, true, true] Try.f49) st) := GE.region_step (id := 13) (by kernel_rfl) (by kernel_rfl)
theorem n49_50s (E : Ev) (cx : Cx) (st : St) : codeB Try.prog E cx n49_50 st = thenS (codeB Try.prog E cx n49_51 st) (codeB Try.prog E cx n49_59) := GE.seq_step (by kernel_rfl)
theorem n49_44s (E : Ev) (cx : Cx) (st : St) : codeB Try.prog E cx n49_44 st = thenS (codeB Try.prog E cx n49_45 st) (codeB Try.prog E cx n49_50) := GE.seq_step (by kernel_rfl)
theorem n49_43s (E : Ev) (cx : Cx) (st : St) : codeB Try.prog E cx n49_43 st = loopS (fun st' => E.code cx n49_43 st') cx.base (codeB Try.prog E cx n49_44 st) st := GE.loop_step (by kernel_rfl)
theorem n49_42s (E : Ev) (cx : Cx) (st : St) : codeB Try.prog E cx n49_42 st = blockS 4 (codeB Try.prog E cx n49_43 st) st := GE.block_step (by kernel_rfl)
theorem n49_40s (E : Ev) (cx : Cx) (st : St) : codeB Try.prog E cx n49_40 st = thenS (codeB Try.prog E cx n49_41 st) (codeB Try.prog E cx n49_42) := GE.seq_step (by kernel_rfl)
theorem n49_62s (E : Ev) (f : FuncId) (b : Nat) (ro : Option Nat) (st : St) : codeB Try.prog E ⟨f, 88, b, ro⟩ n49_62 st = plainS (runOps Try.prog E b q49_62 (ops [true, true, false, true, false, false, true, false, false, true, false, false, true, false, false, true, true, true, true, false, false] Try.f49) st) := GE.region_step (id := 17) (by kernel_rfl) (by kernel_rfl)
theorem n49_67s (E : Ev) (f : FuncId) (b : Nat) (ro : Option Nat) (st : St) : codeB Try.prog E ⟨f, 88, b, ro⟩ n49_67 st = plainS (runOps Try.prog E b q49_67 (ops [true, true, false, true, false, false, true, false, false, true, false, false, true, false, false, true, true, true, true, false, true, false, false, false, false] Try.f49) st) := GE.region_step (id := 18) (by kernel_rfl) (by kernel_rfl)
theorem n49_69s (E : Ev) (cx : Cx) (st : St) : codeB Try.prog E cx n49_69 st = some (.normal, st) := GE.skip_step (by kernel_rfl)
theorem n49_70s (E : Ev) (cx : Cx) (st : St) : codeB Try.prog E cx n49_70 st = some (.exit 6, st) := GE.exit_step (by kernel_rfl)
theorem n49_68s (E : Ev) (cx : Cx) (st : St) : codeB Try.prog E cx n49_68 st = condS (codeB Try.prog E cx n49_69) (codeB Try.prog E cx n49_70) (lk st.σ 55) st := GE.cond_step (c := .tmp 55) (by kernel_rfl)
theorem n49_66s (E : Ev) (cx : Cx) (st : St) : codeB Try.prog E cx n49_66 st = thenS (codeB Try.prog E cx n49_67 st) (codeB Try.prog E cx n49_68) := GE.seq_step (by kernel_rfl)
theorem n49_74s (E : Ev) (f : FuncId) (b : Nat) (ro : Option Nat) (st : St) : codeB Try.prog E ⟨f, 88, b, ro⟩ n49_74 st = drawS [0, 1, 0, 0, 4, 28, 60, 0, 0, 0, 768, 128, 3968, 8064, 16380, 32767, 65535] (runOpsF Try.prog E b q49_74 (ops [true, true, false, true, false, false, true, false, false, true, false, false, true, false, false, true, true, true, true, false, true, false, false, true, false, false, false] Try.f49) st) := GE.draw_step (id := 20) (by kernel_rfl) (by kernel_rfl) (by kernel_rfl) (by kernel_rfl)
theorem q49_76g2 : gd q49_76 2 = some 76 := by kernel_rfl
theorem n49_76s (E : Ev) (f : FuncId) (b : Nat) (ro : Option Nat) (st : St) : codeB Try.prog E ⟨f, 88, b, ro⟩ n49_76 st = plainS (runOps Try.prog E b q49_76 (ops [true, true, false, true, false, false, true, false, false, true, false, false, true, false, false, true, true, true, true, false, true, false, false, true, false, false, true, false] Try.f49) st) := GE.region_step (id := 21) (by kernel_rfl) (by kernel_rfl)
theorem n49_78s (E : Ev) (f : FuncId) (b : Nat) (ro : Option Nat) (st : St) : codeB Try.prog E ⟨f, 88, b, ro⟩ n49_78 st = plainS (runOps Try.prog E b q49_78 (ops [true, true, false, true, false, false, true, false, false, true, false, false, true, false, false, true, true, true, true, false, true, false, false, true, false, false, true, true, false] Try.f49) st) := GE.region_step (id := 22) (by kernel_rfl) (by kernel_rfl)
theorem n49_79s (E : Ev) (cx : Cx) (st : St) : codeB Try.prog E cx n49_79 st = some (.normal, st) := GE.skip_step (by kernel_rfl)
theorem n49_77s (E : Ev) (cx : Cx) (st : St) : codeB Try.prog E cx n49_77 st = condS (codeB Try.prog E cx n49_78) (codeB Try.prog E cx n49_79) (lk st.σ 80) st := GE.cond_step (c := .tmp 80) (by kernel_rfl)
theorem n49_75s (E : Ev) (cx : Cx) (st : St) : codeB Try.prog E cx n49_75 st = thenS (codeB Try.prog E cx n49_76 st) (codeB Try.prog E cx n49_77) := GE.seq_step (by kernel_rfl)
theorem n49_73s (E : Ev) (cx : Cx) (st : St) : codeB Try.prog E cx n49_73 st = thenS (codeB Try.prog E cx n49_74 st) (codeB Try.prog E cx n49_75) := GE.seq_step (by kernel_rfl)
theorem n49_72s (E : Ev) (cx : Cx) (st : St) : codeB Try.prog E cx n49_72 st = blockS 7 (codeB Try.prog E cx n49_73 st) st := GE.block_step (by kernel_rfl)
theorem n49_80s (E : Ev) (f : FuncId) (b : Nat) (ro : Option Nat) (st : St) : codeB Try.prog E ⟨f, 88, b, ro⟩ n49_80 st = plainS (runOps Try.prog E b q49_80 (ops [true, true, false, true, false, false, true, false, false, true, false, false, true, false, false, true, true, true, true, false, true, false, false, true, true] Try.f49) st) := GE.region_step (id := 19) (by kernel_rfl) (by kernel_rfl)
theorem n49_71s (E : Ev) (cx : Cx) (st : St) : codeB Try.prog E cx n49_71 st = thenS (codeB Try.prog E cx n49_72 st) (codeB Try.prog E cx n49_80) := GE.seq_step (by kernel_rfl)
theorem n49_65s (E : Ev) (cx : Cx) (st : St) : codeB Try.prog E cx n49_65 st = thenS (codeB Try.prog E cx n49_66 st) (codeB Try.prog E cx n49_71) := GE.seq_step (by kernel_rfl)
theorem n49_64s (E : Ev) (cx : Cx) (st : St) : codeB Try.prog E cx n49_64 st = loopS (fun st' => E.code cx n49_64 st') cx.base (codeB Try.prog E cx n49_65 st) st := GE.loop_step (by kernel_rfl)
theorem n49_63s (E : Ev) (cx : Cx) (st : St) : codeB Try.prog E cx n49_63 st = blockS 6 (codeB Try.prog E cx n49_64 st) st := GE.block_step (by kernel_rfl)
theorem n49_61s (E : Ev) (cx : Cx) (st : St) : codeB Try.prog E cx n49_61 st = thenS (codeB Try.prog E cx n49_62 st) (codeB Try.prog E cx n49_63) := GE.seq_step (by kernel_rfl)
theorem n49_81s (E : Ev) (f : FuncId) (b : Nat) (ro : Option Nat) (st : St) : codeB Try.prog E ⟨f, 88, b, ro⟩ n49_81 st = plainS (runOps Try.prog E b q49_81 (ops [true, true, false, true, false, false, true, false, false, true, false, false, true, false, false, true, true, true, true, true] Try.f49) st) := GE.region_step (id := 23) (by kernel_rfl) (by kernel_rfl)
theorem n49_60s (E : Ev) (cx : Cx) (st : St) : codeB Try.prog E cx n49_60 st = thenS (codeB Try.prog E cx n49_61 st) (codeB Try.prog E cx n49_81) := GE.seq_step (by kernel_rfl)
theorem n49_39s (E : Ev) (cx : Cx) (st : St) : codeB Try.prog E cx n49_39 st = thenS (codeB Try.prog E cx n49_40 st) (codeB Try.prog E cx n49_60) := GE.seq_step (by kernel_rfl)
theorem n49_37s (E : Ev) (cx : Cx) (st : St) : codeB Try.prog E cx n49_37 st = thenS (codeB Try.prog E cx n49_38 st) (codeB Try.prog E cx n49_39) := GE.seq_step (by kernel_rfl)
theorem n49_31s (E : Ev) (cx : Cx) (st : St) : codeB Try.prog E cx n49_31 st = thenS (codeB Try.prog E cx n49_32 st) (codeB Try.prog E cx n49_37) := GE.seq_step (by kernel_rfl)
theorem n49_29s (E : Ev) (cx : Cx) (st : St) : codeB Try.prog E cx n49_29 st = thenS (codeB Try.prog E cx n49_30 st) (codeB Try.prog E cx n49_31) := GE.seq_step (by kernel_rfl)
theorem n49_28s (E : Ev) (cx : Cx) (st : St) : codeB Try.prog E cx n49_28 st = blockS 3 (codeB Try.prog E cx n49_29 st) st := GE.block_step (by kernel_rfl)
theorem n49_82s (E : Ev) (f : FuncId) (b : Nat) (ro : Option Nat) (st : St) : codeB Try.prog E ⟨f, 88, b, ro⟩ n49_82 st = plainS (runOps Try.prog E b q49_82 (ops [true, true, false, true, false, false, true, false, false, true, false, false, true, true] Try.f49) st) := GE.region_step (id := 7) (by kernel_rfl) (by kernel_rfl)
theorem n49_27s (E : Ev) (cx : Cx) (st : St) : codeB Try.prog E cx n49_27 st = thenS (codeB Try.prog E cx n49_28 st) (codeB Try.prog E cx n49_82) := GE.seq_step (by kernel_rfl)
theorem n49_21s (E : Ev) (cx : Cx) (st : St) : codeB Try.prog E cx n49_21 st = thenS (codeB Try.prog E cx n49_22 st) (codeB Try.prog E cx n49_27) := GE.seq_step (by kernel_rfl)
theorem n49_20s (E : Ev) (cx : Cx) (st : St) : codeB Try.prog E cx n49_20 st = loopS (fun st' => E.code cx n49_20 st') cx.base (codeB Try.prog E cx n49_21 st) st := GE.loop_step (by kernel_rfl)
theorem n49_19s (E : Ev) (cx : Cx) (st : St) : codeB Try.prog E cx n49_19 st = blockS 2 (codeB Try.prog E cx n49_20 st) st := GE.block_step (by kernel_rfl)
theorem n49_17s (E : Ev) (cx : Cx) (st : St) : codeB Try.prog E cx n49_17 st = thenS (codeB Try.prog E cx n49_18 st) (codeB Try.prog E cx n49_19) := GE.seq_step (by kernel_rfl)
theorem n49_16s (E : Ev) (cx : Cx) (st : St) : codeB Try.prog E cx n49_16 st = blockS 1 (codeB Try.prog E cx n49_17 st) st := GE.block_step (by kernel_rfl)
theorem n49_83s (E : Ev) (f : FuncId) (b : Nat) (ro : Option Nat) (st : St) : codeB Try.prog E ⟨f, 88, b, ro⟩ n49_83 st = plainS (runOps Try.prog E b q49_83 (ops [true, true, false, true, false, false, true, true] Try.f49) st) := GE.region_step (id := 4) (by kernel_rfl) (by kernel_rfl)
theorem n49_15s (E : Ev) (cx : Cx) (st : St) : codeB Try.prog E cx n49_15 st = thenS (codeB Try.prog E cx n49_16 st) (codeB Try.prog E cx n49_83) := GE.seq_step (by kernel_rfl)
theorem n49_9s (E : Ev) (cx : Cx) (st : St) : codeB Try.prog E cx n49_9 st = thenS (codeB Try.prog E cx n49_10 st) (codeB Try.prog E cx n49_15) := GE.seq_step (by kernel_rfl)
theorem n49_8s (E : Ev) (cx : Cx) (st : St) : codeB Try.prog E cx n49_8 st = loopS (fun st' => E.code cx n49_8 st') cx.base (codeB Try.prog E cx n49_9 st) st := GE.loop_step (by kernel_rfl)
theorem n49_7s (E : Ev) (cx : Cx) (st : St) : codeB Try.prog E cx n49_7 st = blockS 0 (codeB Try.prog E cx n49_8 st) st := GE.block_step (by kernel_rfl)
theorem n49_5s (E : Ev) (cx : Cx) (st : St) : codeB Try.prog E cx n49_5 st = thenS (codeB Try.prog E cx n49_6 st) (codeB Try.prog E cx n49_7) := GE.seq_step (by kernel_rfl)
theorem n49_85s (E : Ev) (f : FuncId) (b : Nat) (ro : Option Nat) (st : St) : codeB Try.prog E ⟨f, 88, b, ro⟩ n49_85 st = plainS (runOps Try.prog E b q49_85 (ops [true, true, true, false] Try.f49) st) := GE.region_step (id := 24) (by kernel_rfl) (by kernel_rfl)
theorem n49_86s (E : Ev) (cx : Cx) (st : St) : codeB Try.prog E cx n49_86 st = some (.ret, st) := GE.ret_step (by kernel_rfl)
theorem n49_84s (E : Ev) (cx : Cx) (st : St) : codeB Try.prog E cx n49_84 st = thenS (codeB Try.prog E cx n49_85 st) (codeB Try.prog E cx n49_86) := GE.seq_step (by kernel_rfl)
theorem n49_4s (E : Ev) (cx : Cx) (st : St) : codeB Try.prog E cx n49_4 st = thenS (codeB Try.prog E cx n49_5 st) (codeB Try.prog E cx n49_84) := GE.seq_step (by kernel_rfl)
theorem n49_2s (E : Ev) (cx : Cx) (st : St) : codeB Try.prog E cx n49_2 st = thenS (codeB Try.prog E cx n49_3 st) (codeB Try.prog E cx n49_4) := GE.seq_step (by kernel_rfl)
theorem n49_0s (E : Ev) (cx : Cx) (st : St) : codeB Try.prog E cx n49_0 st = thenS (codeB Try.prog E cx n49_1 st) (codeB Try.prog E cx n49_2) := GE.seq_step (by kernel_rfl)
noncomputable def n29_0 : Code := sub [] (bodyOf Try.f29)
noncomputable def n29_1 : Code := sub [false] (bodyOf Try.f29)
noncomputable def q29_1 : List Oper := ops [false] Try.f29
noncomputable def n29_2 : Code := sub [true] (bodyOf Try.f29)
noncomputable def n29_3 : Code := sub [true, false] (bodyOf Try.f29)
noncomputable def n29_4 : Code := sub [true, false, false] (bodyOf Try.f29)
noncomputable def q29_4 : List Oper := ops [true, false, false] Try.f29
noncomputable def n29_5 : Code := sub [true, false, true] (bodyOf Try.f29)
noncomputable def n29_6 : Code := sub [true, false, true, false] (bodyOf Try.f29)
noncomputable def n29_7 : Code := sub [true, false, true, false, false] (bodyOf Try.f29)
noncomputable def n29_8 : Code := sub [true, false, true, false, false, false] (bodyOf Try.f29)
noncomputable def q29_8 : List Oper := ops [true, false, true, false, false, false] Try.f29
noncomputable def n29_9 : Code := sub [true, false, true, false, false, true] (bodyOf Try.f29)
noncomputable def n29_10 : Code := sub [true, false, true, false, false, true, false] (bodyOf Try.f29)
noncomputable def n29_11 : Code := sub [true, false, true, false, false, true, false, false] (bodyOf Try.f29)
noncomputable def q29_11 : List Oper := ops [true, false, true, false, false, true, false, false] Try.f29
noncomputable def n29_12 : Code := sub [true, false, true, false, false, true, false, true] (bodyOf Try.f29)
noncomputable def n29_13 : Code := sub [true, false, true, false, false, true, true] (bodyOf Try.f29)
noncomputable def n29_14 : Code := sub [true, false, true, false, false, true, true, false] (bodyOf Try.f29)
noncomputable def q29_14 : List Oper := ops [true, false, true, false, false, true, true, false] Try.f29
noncomputable def n29_15 : Code := sub [true, false, true, false, false, true, true, true] (bodyOf Try.f29)
noncomputable def n29_16 : Code := sub [true, false, true, false, false, true, true, true, false] (bodyOf Try.f29)
noncomputable def n29_17 : Code := sub [true, false, true, false, false, true, true, true, false, false] (bodyOf Try.f29)
noncomputable def q29_17 : List Oper := ops [true, false, true, false, false, true, true, true, false, false] Try.f29
noncomputable def n29_18 : Code := sub [true, false, true, false, false, true, true, true, false, true] (bodyOf Try.f29)
noncomputable def n29_19 : Code := sub [true, false, true, false, false, true, true, true, true] (bodyOf Try.f29)
noncomputable def n29_20 : Code := sub [true, false, true, true] (bodyOf Try.f29)
noncomputable def n29_21 : Code := sub [true, false, true, true, false] (bodyOf Try.f29)
noncomputable def q29_21 : List Oper := ops [true, false, true, true, false] Try.f29
noncomputable def n29_22 : Code := sub [true, false, true, true, true] (bodyOf Try.f29)
noncomputable def n29_23 : Code := sub [true, false, true, true, true, false] (bodyOf Try.f29)
noncomputable def n29_24 : Code := sub [true, false, true, true, true, true] (bodyOf Try.f29)
noncomputable def n29_25 : Code := sub [true, false, true, true, true, true, false] (bodyOf Try.f29)
noncomputable def q29_25 : List Oper := ops [true, false, true, true, true, true, false] Try.f29
noncomputable def n29_26 : Code := sub [true, false, true, true, true, true, true] (bodyOf Try.f29)
noncomputable def n29_27 : Code := sub [true, false, true, true, true, true, true, false] (bodyOf Try.f29)
noncomputable def n29_28 : Code := sub [true, false, true, true, true, true, true, false, false] (bodyOf Try.f29)
noncomputable def q29_28 : List Oper := ops [true, false, true, true, true, true, true, false, false] Try.f29
noncomputable def n29_29 : Code := sub [true, false, true, true, true, true, true, false, true] (bodyOf Try.f29)
noncomputable def n29_30 : Code := sub [true, false, true, true, true, true, true, false, true, false] (bodyOf Try.f29)
noncomputable def n29_31 : Code := sub [true, false, true, true, true, true, true, false, true, false, false] (bodyOf Try.f29)
noncomputable def q29_31 : List Oper := ops [true, false, true, true, true, true, true, false, true, false, false] Try.f29
noncomputable def n29_32 : Code := sub [true, false, true, true, true, true, true, false, true, false, true] (bodyOf Try.f29)
noncomputable def n29_33 : Code := sub [true, false, true, true, true, true, true, false, true, true] (bodyOf Try.f29)
noncomputable def n29_34 : Code := sub [true, false, true, true, true, true, true, true] (bodyOf Try.f29)
noncomputable def n29_35 : Code := sub [true, false, true, true, true, true, true, true, false] (bodyOf Try.f29)
noncomputable def q29_35 : List Oper := ops [true, false, true, true, true, true, true, true, false] Try.f29
noncomputable def n29_36 : Code := sub [true, false, true, true, true, true, true, true, true] (bodyOf Try.f29)
noncomputable def n29_37 : Code := sub [true, false, true, true, true, true, true, true, true, false] (bodyOf Try.f29)
noncomputable def q29_37 : List Oper := ops [true, false, true, true, true, true, true, true, true, false] Try.f29
noncomputable def n29_38 : Code := sub [true, false, true, true, true, true, true, true, true, true] (bodyOf Try.f29)
noncomputable def n29_39 : Code := sub [true, false, true, true, true, true, true, true, true, true, false] (bodyOf Try.f29)
noncomputable def q29_39 : List Oper := ops [true, false, true, true, true, true, true, true, true, true, false] Try.f29
noncomputable def n29_40 : Code := sub [true, false, true, true, true, true, true, true, true, true, true] (bodyOf Try.f29)
noncomputable def n29_41 : Code := sub [true, false, true, true, true, true, true, true, true, true, true, false] (bodyOf Try.f29)
noncomputable def n29_42 : Code := sub [true, false, true, true, true, true, true, true, true, true, true, false, false] (bodyOf Try.f29)
noncomputable def q29_42 : List Oper := ops [true, false, true, true, true, true, true, true, true, true, true, false, false] Try.f29
noncomputable def n29_43 : Code := sub [true, false, true, true, true, true, true, true, true, true, true, false, true] (bodyOf Try.f29)
noncomputable def n29_44 : Code := sub [true, false, true, true, true, true, true, true, true, true, true, false, true, false] (bodyOf Try.f29)
noncomputable def q29_44 : List Oper := ops [true, false, true, true, true, true, true, true, true, true, true, false, true, false] Try.f29
noncomputable def n29_45 : Code := sub [true, false, true, true, true, true, true, true, true, true, true, false, true, true] (bodyOf Try.f29)
noncomputable def n29_46 : Code := sub [true, false, true, true, true, true, true, true, true, true, true, true] (bodyOf Try.f29)
theorem body29 : Try.f29.body = some n29_0 := by kernel_rfl
theorem run29 (E : Ev) (args : List Value) (h : List Blk) (hl : args.length ≤ 63) : runB Try.prog E 29 args h = endS Try.prog [.cell 4 35, .tmp 5, .tmp 6] h.length (codeB Try.prog E ⟨29, 63, h.length, none⟩ n29_0 ⟨enumT 0 args, h, []⟩) := GE.run_step Try.func29 body29 (by kernel_rfl) (by decide) (by kernel_rfl) hl
theorem n29_1s (E : Ev) (f : FuncId) (b : Nat) (ro : Option Nat) (st : St) : codeB Try.prog E ⟨f, 63, b, ro⟩ n29_1 st = plainS (runOps Try.prog E b q29_1 (ops [false] Try.f29) st) := GE.region_step (id := 0) (by kernel_rfl) (by kernel_rfl)
theorem n29_4s (E : Ev) (f : FuncId) (b : Nat) (ro : Option Nat) (st : St) : codeB Try.prog E ⟨f, 63, b, ro⟩ n29_4 st = plainS (runOps Try.prog E b q29_4 (ops [true, false, false] Try.f29) st) := GE.region_step (id := 1) (by kernel_rfl) (by kernel_rfl)
theorem n29_8s (E : Ev) (f : FuncId) (b : Nat) (ro : Option Nat) (st : St) : codeB Try.prog E ⟨f, 63, b, ro⟩ n29_8 st = plainS (runOps Try.prog E b q29_8 (ops [true, false, true, false, false, false] Try.f29) st) := GE.region_step (id := 2) (by kernel_rfl) (by kernel_rfl)
theorem n29_11s (E : Ev) (f : FuncId) (b : Nat) (ro : Option Nat) (st : St) : codeB Try.prog E ⟨f, 63, b, ro⟩ n29_11 st = plainS (runOps Try.prog E b q29_11 (ops [true, false, true, false, false, true, false, false] Try.f29) st) := GE.region_step (id := 3) (by kernel_rfl) (by kernel_rfl)
theorem n29_12s (E : Ev) (cx : Cx) (st : St) : codeB Try.prog E cx n29_12 st = some (.ret, st) := GE.ret_step (by kernel_rfl)
theorem n29_10s (E : Ev) (cx : Cx) (st : St) : codeB Try.prog E cx n29_10 st = thenS (codeB Try.prog E cx n29_11 st) (codeB Try.prog E cx n29_12) := GE.seq_step (by kernel_rfl)
theorem n29_14s (E : Ev) (f : FuncId) (b : Nat) (ro : Option Nat) (st : St) : codeB Try.prog E ⟨f, 63, b, ro⟩ n29_14 st = plainS (runOps Try.prog E b q29_14 (ops [true, false, true, false, false, true, true, false] Try.f29) st) := GE.region_step (id := 4) (by kernel_rfl) (by kernel_rfl)
theorem n29_17s (E : Ev) (f : FuncId) (b : Nat) (ro : Option Nat) (st : St) : codeB Try.prog E ⟨f, 63, b, ro⟩ n29_17 st = plainS (runOps Try.prog E b q29_17 (ops [true, false, true, false, false, true, true, true, false, false] Try.f29) st) := GE.region_step (id := 5) (by kernel_rfl) (by kernel_rfl)
theorem n29_18s (E : Ev) (cx : Cx) (st : St) : codeB Try.prog E cx n29_18 st = some (.ret, st) := GE.ret_step (by kernel_rfl)
theorem n29_16s (E : Ev) (cx : Cx) (st : St) : codeB Try.prog E cx n29_16 st = thenS (codeB Try.prog E cx n29_17 st) (codeB Try.prog E cx n29_18) := GE.seq_step (by kernel_rfl)
theorem n29_19s (E : Ev) (cx : Cx) (st : St) : codeB Try.prog E cx n29_19 st = some (.normal, st) := GE.skip_step (by kernel_rfl)
theorem n29_15s (E : Ev) (cx : Cx) (st : St) : codeB Try.prog E cx n29_15 st = condS (codeB Try.prog E cx n29_16) (codeB Try.prog E cx n29_19) (lk st.σ 23) st := GE.cond_step (c := .tmp 23) (by kernel_rfl)
theorem n29_13s (E : Ev) (cx : Cx) (st : St) : codeB Try.prog E cx n29_13 st = thenS (codeB Try.prog E cx n29_14 st) (codeB Try.prog E cx n29_15) := GE.seq_step (by kernel_rfl)
theorem n29_9s (E : Ev) (cx : Cx) (st : St) : codeB Try.prog E cx n29_9 st = condS (codeB Try.prog E cx n29_10) (codeB Try.prog E cx n29_13) (lk st.σ 18) st := GE.cond_step (c := .tmp 18) (by kernel_rfl)
theorem n29_7s (E : Ev) (cx : Cx) (st : St) : codeB Try.prog E cx n29_7 st = thenS (codeB Try.prog E cx n29_8 st) (codeB Try.prog E cx n29_9) := GE.seq_step (by kernel_rfl)
theorem n29_6s (E : Ev) (cx : Cx) (st : St) : codeB Try.prog E cx n29_6 st = blockS 0 (codeB Try.prog E cx n29_7 st) st := GE.block_step (by kernel_rfl)
theorem n29_21s (E : Ev) (f : FuncId) (b : Nat) (ro : Option Nat) (st : St) : codeB Try.prog E ⟨f, 63, b, ro⟩ n29_21 st = plainS (runOps Try.prog E b q29_21 (ops [true, false, true, true, false] Try.f29) st) := GE.region_step (id := 6) (by kernel_rfl) (by kernel_rfl)
theorem n29_23s (E : Ev) (cx : Cx) (st : St) : codeB Try.prog E cx n29_23 st = some (.normal, st) := GE.label_step (n := 0) (by kernel_rfl)
theorem n29_25s (E : Ev) (f : FuncId) (b : Nat) (ro : Option Nat) (st : St) : codeB Try.prog E ⟨f, 63, b, ro⟩ n29_25 st = drawS [0, 0, 2, 0, 8, 1, 33, 103, 255, 511, 1023] (runOpsF Try.prog E b q29_25 (ops [true, false, true, true, true, true, false] Try.f29) st) := GE.draw_step (id := 7) (by kernel_rfl) (by kernel_rfl) (by kernel_rfl) (by kernel_rfl)
theorem n29_28s (E : Ev) (f : FuncId) (b : Nat) (ro : Option Nat) (st : St) : codeB Try.prog E ⟨f, 63, b, ro⟩ n29_28 st = plainS (runOps Try.prog E b q29_28 (ops [true, false, true, true, true, true, true, false, false] Try.f29) st) := GE.region_step (id := 8) (by kernel_rfl) (by kernel_rfl)
theorem n29_31s (E : Ev) (f : FuncId) (b : Nat) (ro : Option Nat) (st : St) : codeB Try.prog E ⟨f, 63, b, ro⟩ n29_31 st = plainS (runOps Try.prog E b q29_31 (ops [true, false, true, true, true, true, true, false, true, false, false] Try.f29) st) := GE.region_step (id := 9) (by kernel_rfl) (by kernel_rfl)
theorem n29_32s (E : Ev) (cx : Cx) (st : St) : codeB Try.prog E cx n29_32 st = some (.ret, st) := GE.ret_step (by kernel_rfl)
theorem n29_30s (E : Ev) (cx : Cx) (st : St) : codeB Try.prog E cx n29_30 st = thenS (codeB Try.prog E cx n29_31 st) (codeB Try.prog E cx n29_32) := GE.seq_step (by kernel_rfl)
theorem n29_33s (E : Ev) (cx : Cx) (st : St) : codeB Try.prog E cx n29_33 st = some (.normal, st) := GE.skip_step (by kernel_rfl)
theorem n29_29s (E : Ev) (cx : Cx) (st : St) : codeB Try.prog E cx n29_29 st = condS (codeB Try.prog E cx n29_30) (codeB Try.prog E cx n29_33) (lk st.σ 43) st := GE.cond_step (c := .tmp 43) (by kernel_rfl)
theorem n29_27s (E : Ev) (cx : Cx) (st : St) : codeB Try.prog E cx n29_27 st = thenS (codeB Try.prog E cx n29_28 st) (codeB Try.prog E cx n29_29) := GE.seq_step (by kernel_rfl)
theorem n29_35s (E : Ev) (f : FuncId) (b : Nat) (ro : Option Nat) (st : St) : codeB Try.prog E ⟨f, 63, b, ro⟩ n29_35 st = plainS (runOps Try.prog E b q29_35 (ops [true, false, true, true, true, true, true, true, false] Try.f29) st) := GE.region_step (id := 10) (by kernel_rfl) (by kernel_rfl)
theorem n29_37s (E : Ev) (f : FuncId) (b : Nat) (ro : Option Nat) (st : St) : codeB Try.prog E ⟨f, 63, b, ro⟩ n29_37 st = plainS (runOps Try.prog E b q29_37 (ops [true, false, true, true, true, true, true, true, true, false] Try.f29) st) := GE.region_step (id := 11) (by kernel_rfl) (by kernel_rfl)
theorem n29_39s (E : Ev) (f : FuncId) (b : Nat) (ro : Option Nat) (st : St) : codeB Try.prog E ⟨f, 63, b, ro⟩ n29_39 st = plainS (runOps Try.prog E b q29_39 (ops [true, false, true, true, true, true, true, true, true, true, false] Try.f29) st) := GE.region_step (id := 12) (by kernel_rfl) (by kernel_rfl)
theorem n29_42s (E : Ev) (f : FuncId) (b : Nat) (ro : Option Nat) (st : St) : codeB Try.prog E ⟨f, 63, b, ro⟩ n29_42 st = plainS (runOps Try.prog E b q29_42 (ops [true, false, true, true, true, true, true, true, true, true, true, false, false] Try.f29) st) := GE.region_step (id := 13) (by kernel_rfl) (by kernel_rfl)
theorem n29_44s (E : Ev) (f : FuncId) (b : Nat) (ro : Option Nat) (st : St) : codeB Try.prog E ⟨f, 63, b, ro⟩ n29_44 st = plainS (runOps Try.prog E b q29_44 (ops [true, false, true, true, true, true, true, true, true, true, true, false, true, false] Try.f29) st) := GE.region_step (id := 14) (by kernel_rfl) (by kernel_rfl)
theorem n29_45s (E : Ev) (cx : Cx) (st : St) : codeB Try.prog E cx n29_45 st = some (.normal, st) := GE.skip_step (by kernel_rfl)
theorem n29_43s (E : Ev) (cx : Cx) (st : St) : codeB Try.prog E cx n29_43 st = condS (codeB Try.prog E cx n29_44) (codeB Try.prog E cx n29_45) (lk st.σ 61) st := GE.cond_step (c := .tmp 61) (by kernel_rfl)
theorem n29_41s (E : Ev) (cx : Cx) (st : St) : codeB Try.prog E cx n29_41 st = thenS (codeB Try.prog E cx n29_42 st) (codeB Try.prog E cx n29_43) := GE.seq_step (by kernel_rfl)
theorem n29_46s (E : Ev) (cx : Cx) (st : St) : codeB Try.prog E cx n29_46 st = some (.goto 0, st) := GE.goto_step (by kernel_rfl)
theorem n29_40s (E : Ev) (cx : Cx) (st : St) : codeB Try.prog E cx n29_40 st = thenS (codeB Try.prog E cx n29_41 st) (codeB Try.prog E cx n29_46) := GE.seq_step (by kernel_rfl)
theorem n29_38s (E : Ev) (cx : Cx) (st : St) : codeB Try.prog E cx n29_38 st = thenS (codeB Try.prog E cx n29_39 st) (codeB Try.prog E cx n29_40) := GE.seq_step (by kernel_rfl)
theorem n29_36s (E : Ev) (cx : Cx) (st : St) : codeB Try.prog E cx n29_36 st = thenS (codeB Try.prog E cx n29_37 st) (codeB Try.prog E cx n29_38) := GE.seq_step (by kernel_rfl)
theorem n29_34s (E : Ev) (cx : Cx) (st : St) : codeB Try.prog E cx n29_34 st = thenS (codeB Try.prog E cx n29_35 st) (codeB Try.prog E cx n29_36) := GE.seq_step (by kernel_rfl)
theorem n29_26s (E : Ev) (cx : Cx) (st : St) : codeB Try.prog E cx n29_26 st = thenS (codeB Try.prog E cx n29_27 st) (codeB Try.prog E cx n29_34) := GE.seq_step (by kernel_rfl)
theorem n29_24s (E : Ev) (cx : Cx) (st : St) : codeB Try.prog E cx n29_24 st = thenS (codeB Try.prog E cx n29_25 st) (codeB Try.prog E cx n29_26) := GE.seq_step (by kernel_rfl)
theorem n29_22s (E : Ev) (cx : Cx) (st : St) : codeB Try.prog E cx n29_22 st = thenS (codeB Try.prog E cx n29_23 st) (codeB Try.prog E cx n29_24) := GE.seq_step (by kernel_rfl)
theorem n29_20s (E : Ev) (cx : Cx) (st : St) : codeB Try.prog E cx n29_20 st = thenS (codeB Try.prog E cx n29_21 st) (codeB Try.prog E cx n29_22) := GE.seq_step (by kernel_rfl)
theorem n29_5s (E : Ev) (cx : Cx) (st : St) : codeB Try.prog E cx n29_5 st = thenS (codeB Try.prog E cx n29_6 st) (codeB Try.prog E cx n29_20) := GE.seq_step (by kernel_rfl)
theorem n29_3s (E : Ev) (cx : Cx) (st : St) : codeB Try.prog E cx n29_3 st = thenS (codeB Try.prog E cx n29_4 st) (codeB Try.prog E cx n29_5) := GE.seq_step (by kernel_rfl)
theorem n29_2e : n29_2 = .scope n29_3 := by kernel_rfl
theorem n29_0s (E : Ev) (cx : Cx) (st : St) : codeB Try.prog E cx n29_0 st = thenS (codeB Try.prog E cx n29_1 st) (codeB Try.prog E cx n29_2) := GE.seq_step (by kernel_rfl)
noncomputable def n30_0 : Code := sub [] (bodyOf Try.f30)
noncomputable def n30_1 : Code := sub [false] (bodyOf Try.f30)
noncomputable def q30_1 : List Oper := ops [false] Try.f30
noncomputable def n30_2 : Code := sub [true] (bodyOf Try.f30)
noncomputable def n30_3 : Code := sub [true, false] (bodyOf Try.f30)
noncomputable def q30_3 : List Oper := ops [true, false] Try.f30
noncomputable def n30_4 : Code := sub [true, true] (bodyOf Try.f30)
noncomputable def n30_5 : Code := sub [true, true, false] (bodyOf Try.f30)
noncomputable def n30_6 : Code := sub [true, true, false, false] (bodyOf Try.f30)
noncomputable def q30_6 : List Oper := ops [true, true, false, false] Try.f30
noncomputable def n30_7 : Code := sub [true, true, false, true] (bodyOf Try.f30)
noncomputable def n30_8 : Code := sub [true, true, false, true, false] (bodyOf Try.f30)
noncomputable def q30_8 : List Oper := ops [true, true, false, true, false] Try.f30
noncomputable def n30_9 : Code := sub [true, true, false, true, true] (bodyOf Try.f30)
noncomputable def n30_10 : Code := sub [true, true, true] (bodyOf Try.f30)
noncomputable def n30_11 : Code := sub [true, true, true, false] (bodyOf Try.f30)
noncomputable def q30_11 : List Oper := ops [true, true, true, false] Try.f30
noncomputable def n30_12 : Code := sub [true, true, true, true] (bodyOf Try.f30)
theorem body30 : Try.f30.body = some n30_0 := by kernel_rfl
theorem run30 (E : Ev) (args : List Value) (h : List Blk) (hl : args.length ≤ 20) : runB Try.prog E 30 args h = endS Try.prog [.tmp 4] h.length (codeB Try.prog E ⟨30, 20, h.length, none⟩ n30_0 ⟨enumT 0 args, h, []⟩) := GE.run_step Try.func30 body30 (by kernel_rfl) (by decide) (by kernel_rfl) hl
theorem n30_1s (E : Ev) (f : FuncId) (b : Nat) (ro : Option Nat) (st : St) : codeB Try.prog E ⟨f, 20, b, ro⟩ n30_1 st = plainS (runOps Try.prog E b q30_1 (ops [false] Try.f30) st) := GE.region_step (id := 0) (by kernel_rfl) (by kernel_rfl)
theorem n30_3s (E : Ev) (f : FuncId) (b : Nat) (ro : Option Nat) (st : St) : codeB Try.prog E ⟨f, 20, b, ro⟩ n30_3 st = plainS (runOps Try.prog E b q30_3 (ops [true, false] Try.f30) st) := GE.region_step (id := 1) (by kernel_rfl) (by kernel_rfl)
theorem q30_6g2 : gd q30_6 2 = some 15 := by kernel_rfl
theorem n30_6s (E : Ev) (f : FuncId) (b : Nat) (ro : Option Nat) (st : St) : codeB Try.prog E ⟨f, 20, b, ro⟩ n30_6 st = plainS (runOps Try.prog E b q30_6 (ops [true, true, false, false] Try.f30) st) := GE.region_step (id := 2) (by kernel_rfl) (by kernel_rfl)
theorem n30_8s (E : Ev) (f : FuncId) (b : Nat) (ro : Option Nat) (st : St) : codeB Try.prog E ⟨f, 20, b, ro⟩ n30_8 st = plainS (runOps Try.prog E b q30_8 (ops [true, true, false, true, false] Try.f30) st) := GE.region_step (id := 3) (by kernel_rfl) (by kernel_rfl)
theorem n30_9s (E : Ev) (cx : Cx) (st : St) : codeB Try.prog E cx n30_9 st = some (.normal, st) := GE.skip_step (by kernel_rfl)
theorem n30_7s (E : Ev) (cx : Cx) (st : St) : codeB Try.prog E cx n30_7 st = condS (codeB Try.prog E cx n30_8) (codeB Try.prog E cx n30_9) (lk st.σ 18) st := GE.cond_step (c := .tmp 18) (by kernel_rfl)
theorem n30_5s (E : Ev) (cx : Cx) (st : St) : codeB Try.prog E cx n30_5 st = thenS (codeB Try.prog E cx n30_6 st) (codeB Try.prog E cx n30_7) := GE.seq_step (by kernel_rfl)
theorem n30_11s (E : Ev) (f : FuncId) (b : Nat) (ro : Option Nat) (st : St) : codeB Try.prog E ⟨f, 20, b, ro⟩ n30_11 st = plainS (runOps Try.prog E b q30_11 (ops [true, true, true, false] Try.f30) st) := GE.region_step (id := 4) (by kernel_rfl) (by kernel_rfl)
theorem n30_12s (E : Ev) (cx : Cx) (st : St) : codeB Try.prog E cx n30_12 st = some (.ret, st) := GE.ret_step (by kernel_rfl)
theorem n30_10s (E : Ev) (cx : Cx) (st : St) : codeB Try.prog E cx n30_10 st = thenS (codeB Try.prog E cx n30_11 st) (codeB Try.prog E cx n30_12) := GE.seq_step (by kernel_rfl)
theorem n30_4s (E : Ev) (cx : Cx) (st : St) : codeB Try.prog E cx n30_4 st = thenS (codeB Try.prog E cx n30_5 st) (codeB Try.prog E cx n30_10) := GE.seq_step (by kernel_rfl)
theorem n30_2s (E : Ev) (cx : Cx) (st : St) : codeB Try.prog E cx n30_2 st = thenS (codeB Try.prog E cx n30_3 st) (codeB Try.prog E cx n30_4) := GE.seq_step (by kernel_rfl)
theorem n30_0s (E : Ev) (cx : Cx) (st : St) : codeB Try.prog E cx n30_0 st = thenS (codeB Try.prog E cx n30_1 st) (codeB Try.prog E cx n30_2) := GE.seq_step (by kernel_rfl)
noncomputable def n6_0 : Code := sub [] (bodyOf Try.f6)
noncomputable def n6_1 : Code := sub [false] (bodyOf Try.f6)
noncomputable def q6_1 : List Oper := ops [false] Try.f6
noncomputable def n6_2 : Code := sub [true] (bodyOf Try.f6)
noncomputable def n6_3 : Code := sub [true, false] (bodyOf Try.f6)
noncomputable def n6_4 : Code := sub [true, false, false] (bodyOf Try.f6)
noncomputable def q6_4 : List Oper := ops [true, false, false] Try.f6
noncomputable def n6_5 : Code := sub [true, false, true] (bodyOf Try.f6)
noncomputable def n6_6 : Code := sub [true, false, true, false] (bodyOf Try.f6)
noncomputable def n6_7 : Code := sub [true, false, true, false, false] (bodyOf Try.f6)
noncomputable def q6_7 : List Oper := ops [true, false, true, false, false] Try.f6
noncomputable def n6_8 : Code := sub [true, false, true, false, true] (bodyOf Try.f6)
noncomputable def n6_9 : Code := sub [true, false, true, true] (bodyOf Try.f6)
noncomputable def n6_10 : Code := sub [true, true] (bodyOf Try.f6)
noncomputable def n6_11 : Code := sub [true, true, false] (bodyOf Try.f6)
noncomputable def q6_11 : List Oper := ops [true, true, false] Try.f6
noncomputable def n6_12 : Code := sub [true, true, true] (bodyOf Try.f6)
noncomputable def n6_13 : Code := sub [true, true, true, false] (bodyOf Try.f6)
noncomputable def q6_13 : List Oper := ops [true, true, true, false] Try.f6
noncomputable def n6_14 : Code := sub [true, true, true, true] (bodyOf Try.f6)
noncomputable def n6_15 : Code := sub [true, true, true, true, false] (bodyOf Try.f6)
noncomputable def q6_15 : List Oper := ops [true, true, true, true, false] Try.f6
noncomputable def n6_16 : Code := sub [true, true, true, true, true] (bodyOf Try.f6)
noncomputable def n6_17 : Code := sub [true, true, true, true, true, false] (bodyOf Try.f6)
noncomputable def n6_18 : Code := sub [true, true, true, true, true, false, false] (bodyOf Try.f6)
noncomputable def q6_18 : List Oper := ops [true, true, true, true, true, false, false] Try.f6
noncomputable def n6_19 : Code := sub [true, true, true, true, true, false, true] (bodyOf Try.f6)
noncomputable def n6_20 : Code := sub [true, true, true, true, true, false, true, false] (bodyOf Try.f6)
noncomputable def n6_21 : Code := sub [true, true, true, true, true, false, true, false, false] (bodyOf Try.f6)
noncomputable def q6_21 : List Oper := ops [true, true, true, true, true, false, true, false, false] Try.f6
noncomputable def n6_22 : Code := sub [true, true, true, true, true, false, true, false, true] (bodyOf Try.f6)
noncomputable def n6_23 : Code := sub [true, true, true, true, true, false, true, true] (bodyOf Try.f6)
noncomputable def n6_24 : Code := sub [true, true, true, true, true, true] (bodyOf Try.f6)
noncomputable def n6_25 : Code := sub [true, true, true, true, true, true, false] (bodyOf Try.f6)
noncomputable def n6_26 : Code := sub [true, true, true, true, true, true, false, false] (bodyOf Try.f6)
noncomputable def q6_26 : List Oper := ops [true, true, true, true, true, true, false, false] Try.f6
noncomputable def n6_27 : Code := sub [true, true, true, true, true, true, false, true] (bodyOf Try.f6)
noncomputable def n6_28 : Code := sub [true, true, true, true, true, true, false, true, false] (bodyOf Try.f6)
noncomputable def n6_29 : Code := sub [true, true, true, true, true, true, false, true, false, false] (bodyOf Try.f6)
noncomputable def q6_29 : List Oper := ops [true, true, true, true, true, true, false, true, false, false] Try.f6
noncomputable def n6_30 : Code := sub [true, true, true, true, true, true, false, true, false, true] (bodyOf Try.f6)
noncomputable def n6_31 : Code := sub [true, true, true, true, true, true, false, true, true] (bodyOf Try.f6)
noncomputable def n6_32 : Code := sub [true, true, true, true, true, true, true] (bodyOf Try.f6)
noncomputable def n6_33 : Code := sub [true, true, true, true, true, true, true, false] (bodyOf Try.f6)
noncomputable def q6_33 : List Oper := ops [true, true, true, true, true, true, true, false] Try.f6
noncomputable def n6_34 : Code := sub [true, true, true, true, true, true, true, true] (bodyOf Try.f6)
noncomputable def n6_35 : Code := sub [true, true, true, true, true, true, true, true, false] (bodyOf Try.f6)
noncomputable def q6_35 : List Oper := ops [true, true, true, true, true, true, true, true, false] Try.f6
noncomputable def n6_36 : Code := sub [true, true, true, true, true, true, true, true, true] (bodyOf Try.f6)
noncomputable def n6_37 : Code := sub [true, true, true, true, true, true, true, true, true, false] (bodyOf Try.f6)
noncomputable def q6_37 : List Oper := ops [true, true, true, true, true, true, true, true, true, false] Try.f6
noncomputable def n6_38 : Code := sub [true, true, true, true, true, true, true, true, true, true] (bodyOf Try.f6)
theorem body6 : Try.f6.body = some n6_0 := by kernel_rfl
theorem run6 (E : Ev) (args : List Value) (h : List Blk) (hl : args.length ≤ 122) : runB Try.prog E 6 args h = endS Try.prog [.tmp 4] h.length (codeB Try.prog E ⟨6, 122, h.length, none⟩ n6_0 ⟨enumT 0 args, h, []⟩) := GE.run_step Try.func6 body6 (by kernel_rfl) (by decide) (by kernel_rfl) hl
theorem n6_1s (E : Ev) (f : FuncId) (b : Nat) (ro : Option Nat) (st : St) : codeB Try.prog E ⟨f, 122, b, ro⟩ n6_1 st = plainS (runOps Try.prog E b q6_1 (ops [false] Try.f6) st) := GE.region_step (id := 0) (by kernel_rfl) (by kernel_rfl)
theorem n6_4s (E : Ev) (f : FuncId) (b : Nat) (ro : Option Nat) (st : St) : codeB Try.prog E ⟨f, 122, b, ro⟩ n6_4 st = plainS (runOps Try.prog E b q6_4 (ops [true, false, false] Try.f6) st) := GE.region_step (id := 1) (by kernel_rfl) (by kernel_rfl)
theorem n6_7s (E : Ev) (f : FuncId) (b : Nat) (ro : Option Nat) (st : St) : codeB Try.prog E ⟨f, 122, b, ro⟩ n6_7 st = plainS (runOps Try.prog E b q6_7 (ops [true, false, true, false, false] Try.f6) st) := GE.region_step (id := 2) (by kernel_rfl) (by kernel_rfl)
theorem n6_8s (E : Ev) (cx : Cx) (st : St) : codeB Try.prog E cx n6_8 st = some (.ret, st) := GE.ret_step (by kernel_rfl)
theorem n6_6s (E : Ev) (cx : Cx) (st : St) : codeB Try.prog E cx n6_6 st = thenS (codeB Try.prog E cx n6_7 st) (codeB Try.prog E cx n6_8) := GE.seq_step (by kernel_rfl)
theorem n6_9s (E : Ev) (cx : Cx) (st : St) : codeB Try.prog E cx n6_9 st = some (.normal, st) := GE.skip_step (by kernel_rfl)
theorem n6_5s (E : Ev) (cx : Cx) (st : St) : codeB Try.prog E cx n6_5 st = condS (codeB Try.prog E cx n6_6) (codeB Try.prog E cx n6_9) (lk st.σ 17) st := GE.cond_step (c := .tmp 17) (by kernel_rfl)
theorem n6_3s (E : Ev) (cx : Cx) (st : St) : codeB Try.prog E cx n6_3 st = thenS (codeB Try.prog E cx n6_4 st) (codeB Try.prog E cx n6_5) := GE.seq_step (by kernel_rfl)
theorem n6_11s (E : Ev) (f : FuncId) (b : Nat) (ro : Option Nat) (st : St) : codeB Try.prog E ⟨f, 122, b, ro⟩ n6_11 st = plainS (runOps Try.prog E b q6_11 (ops [true, true, false] Try.f6) st) := GE.region_step (id := 3) (by kernel_rfl) (by kernel_rfl)
theorem n6_13s (E : Ev) (f : FuncId) (b : Nat) (ro : Option Nat) (st : St) : codeB Try.prog E ⟨f, 122, b, ro⟩ n6_13 st = plainS (runOps Try.prog E b q6_13 (ops [true, true, true, false] Try.f6) st) := GE.region_step (id := 4) (by kernel_rfl) (by kernel_rfl)
theorem n6_15s (E : Ev) (f : FuncId) (b : Nat) (ro : Option Nat) (st : St) : codeB Try.prog E ⟨f, 122, b, ro⟩ n6_15 st = plainS (runOps Try.prog E b q6_15 (ops [true, true, true, true, false] Try.f6) st) := GE.region_step (id := 5) (by kernel_rfl) (by kernel_rfl)
theorem n6_18s (E : Ev) (f : FuncId) (b : Nat) (ro : Option Nat) (st : St) : codeB Try.prog E ⟨f, 122, b, ro⟩ n6_18 st = plainS (runOps Try.prog E b q6_18 (ops [true, true, true, true, true, false, false] Try.f6) st) := GE.region_step (id := 6) (by kernel_rfl) (by kernel_rfl)
theorem n6_21s (E : Ev) (f : FuncId) (b : Nat) (ro : Option Nat) (st : St) : codeB Try.prog E ⟨f, 122, b, ro⟩ n6_21 st = plainS (runOps Try.prog E b q6_21 (ops [true, true, true, true, true, false, true, false, false] Try.f6) st) := GE.region_step (id := 7) (by kernel_rfl) (by kernel_rfl)
theorem n6_22s (E : Ev) (cx : Cx) (st : St) : codeB Try.prog E cx n6_22 st = some (.ret, st) := GE.ret_step (by kernel_rfl)
theorem n6_20s (E : Ev) (cx : Cx) (st : St) : codeB Try.prog E cx n6_20 st = thenS (codeB Try.prog E cx n6_21 st) (codeB Try.prog E cx n6_22) := GE.seq_step (by kernel_rfl)
theorem n6_23s (E : Ev) (cx : Cx) (st : St) : codeB Try.prog E cx n6_23 st = some (.normal, st) := GE.skip_step (by kernel_rfl)
theorem n6_19s (E : Ev) (cx : Cx) (st : St) : codeB Try.prog E cx n6_19 st = condS (codeB Try.prog E cx n6_20) (codeB Try.prog E cx n6_23) (lk st.σ 33) st := GE.cond_step (c := .tmp 33) (by kernel_rfl)
theorem n6_17s (E : Ev) (cx : Cx) (st : St) : codeB Try.prog E cx n6_17 st = thenS (codeB Try.prog E cx n6_18 st) (codeB Try.prog E cx n6_19) := GE.seq_step (by kernel_rfl)
theorem n6_26s (E : Ev) (f : FuncId) (b : Nat) (ro : Option Nat) (st : St) : codeB Try.prog E ⟨f, 122, b, ro⟩ n6_26 st = plainS (runOps Try.prog E b q6_26 (ops [true, true, true, true, true, true, false, false] Try.f6) st) := GE.region_step (id := 8) (by kernel_rfl) (by kernel_rfl)
theorem q6_29g3 : gd q6_29 3 = some 39 := by kernel_rfl
theorem q6_29g7 : gd q6_29 7 = some 43 := by kernel_rfl
theorem n6_29s (E : Ev) (f : FuncId) (b : Nat) (ro : Option Nat) (st : St) : codeB Try.prog E ⟨f, 122, b, ro⟩ n6_29 st = plainS (runOps Try.prog E b q6_29 (ops [true, true, true, true, true, true, false, true, false, false] Try.f6) st) := GE.region_step (id := 9) (by kernel_rfl) (by kernel_rfl)
theorem n6_30s (E : Ev) (cx : Cx) (st : St) : codeB Try.prog E cx n6_30 st = some (.ret, st) := GE.ret_step (by kernel_rfl)
theorem n6_28s (E : Ev) (cx : Cx) (st : St) : codeB Try.prog E cx n6_28 st = thenS (codeB Try.prog E cx n6_29 st) (codeB Try.prog E cx n6_30) := GE.seq_step (by kernel_rfl)
theorem n6_31s (E : Ev) (cx : Cx) (st : St) : codeB Try.prog E cx n6_31 st = some (.normal, st) := GE.skip_step (by kernel_rfl)
theorem n6_27s (E : Ev) (cx : Cx) (st : St) : codeB Try.prog E cx n6_27 st = condS (codeB Try.prog E cx n6_28) (codeB Try.prog E cx n6_31) (lk st.σ 35) st := GE.cond_step (c := .tmp 35) (by kernel_rfl)
theorem n6_25s (E : Ev) (cx : Cx) (st : St) : codeB Try.prog E cx n6_25 st = thenS (codeB Try.prog E cx n6_26 st) (codeB Try.prog E cx n6_27) := GE.seq_step (by kernel_rfl)
theorem n6_33s (E : Ev) (f : FuncId) (b : Nat) (ro : Option Nat) (st : St) : codeB Try.prog E ⟨f, 122, b, ro⟩ n6_33 st = plainS (runOps Try.prog E b q6_33 (ops [true, true, true, true, true, true, true, false] Try.f6) st) := GE.region_step (id := 10) (by kernel_rfl) (by kernel_rfl)
theorem n6_35s (E : Ev) (f : FuncId) (b : Nat) (ro : Option Nat) (st : St) : codeB Try.prog E ⟨f, 122, b, ro⟩ n6_35 st = plainS (runOps Try.prog E b q6_35 (ops [true, true, true, true, true, true, true, true, false] Try.f6) st) := GE.region_step (id := 11) (by kernel_rfl) (by kernel_rfl)
theorem q6_37g2 : gd q6_37 2 = some 62 := by kernel_rfl
theorem q6_37g6 : gd q6_37 6 = some 66 := by kernel_rfl
theorem q6_37g11 : gd q6_37 11 = some 71 := by kernel_rfl
theorem q6_37g16 : gd q6_37 16 = some 76 := by kernel_rfl
theorem q6_37g23 : gd q6_37 23 = some 83 := by kernel_rfl
theorem q6_37g30 : gd q6_37 30 = some 90 := by kernel_rfl
theorem q6_37g40 : gd q6_37 40 = some 100 := by kernel_rfl
theorem q6_37g50 : gd q6_37 50 = some 110 := by kernel_rfl
theorem q6_37g54 : gd q6_37 54 = some 114 := by kernel_rfl
theorem q6_37g59 : gd q6_37 59 = some 119 := by kernel_rfl
theorem n6_37s (E : Ev) (f : FuncId) (b : Nat) (ro : Option Nat) (st : St) : codeB Try.prog E ⟨f, 122, b, ro⟩ n6_37 st = plainS (runOps Try.prog E b q6_37 (ops [true, true, true, true, true, true, true, true, true, false] Try.f6) st) := GE.region_step (id := 12) (by kernel_rfl) (by kernel_rfl)
theorem n6_38s (E : Ev) (cx : Cx) (st : St) : codeB Try.prog E cx n6_38 st = some (.ret, st) := GE.ret_step (by kernel_rfl)
theorem n6_36s (E : Ev) (cx : Cx) (st : St) : codeB Try.prog E cx n6_36 st = thenS (codeB Try.prog E cx n6_37 st) (codeB Try.prog E cx n6_38) := GE.seq_step (by kernel_rfl)
theorem n6_34s (E : Ev) (cx : Cx) (st : St) : codeB Try.prog E cx n6_34 st = thenS (codeB Try.prog E cx n6_35 st) (codeB Try.prog E cx n6_36) := GE.seq_step (by kernel_rfl)
theorem n6_32s (E : Ev) (cx : Cx) (st : St) : codeB Try.prog E cx n6_32 st = thenS (codeB Try.prog E cx n6_33 st) (codeB Try.prog E cx n6_34) := GE.seq_step (by kernel_rfl)
theorem n6_24s (E : Ev) (cx : Cx) (st : St) : codeB Try.prog E cx n6_24 st = thenS (codeB Try.prog E cx n6_25 st) (codeB Try.prog E cx n6_32) := GE.seq_step (by kernel_rfl)
theorem n6_16s (E : Ev) (cx : Cx) (st : St) : codeB Try.prog E cx n6_16 st = thenS (codeB Try.prog E cx n6_17 st) (codeB Try.prog E cx n6_24) := GE.seq_step (by kernel_rfl)
theorem n6_14s (E : Ev) (cx : Cx) (st : St) : codeB Try.prog E cx n6_14 st = thenS (codeB Try.prog E cx n6_15 st) (codeB Try.prog E cx n6_16) := GE.seq_step (by kernel_rfl)
theorem n6_12s (E : Ev) (cx : Cx) (st : St) : codeB Try.prog E cx n6_12 st = thenS (codeB Try.prog E cx n6_13 st) (codeB Try.prog E cx n6_14) := GE.seq_step (by kernel_rfl)
theorem n6_10s (E : Ev) (cx : Cx) (st : St) : codeB Try.prog E cx n6_10 st = thenS (codeB Try.prog E cx n6_11 st) (codeB Try.prog E cx n6_12) := GE.seq_step (by kernel_rfl)
theorem n6_2s (E : Ev) (cx : Cx) (st : St) : codeB Try.prog E cx n6_2 st = thenS (codeB Try.prog E cx n6_3 st) (codeB Try.prog E cx n6_10) := GE.seq_step (by kernel_rfl)
theorem n6_0s (E : Ev) (cx : Cx) (st : St) : codeB Try.prog E cx n6_0 st = thenS (codeB Try.prog E cx n6_1 st) (codeB Try.prog E cx n6_2) := GE.seq_step (by kernel_rfl)
theorem fa_24_2 : fieldAt Try.prog 24 2 = some (2, 1) := by kernel_rfl
theorem ia_3 : aggK Try.prog 3 = some (false, 1) := by kernel_rfl
theorem fa_24_3 : fieldAt Try.prog 24 3 = some (3, 1) := by kernel_rfl
theorem ia_22 : aggK Try.prog 22 = some (false, 1) := by kernel_rfl
theorem fa_24_0 : fieldAt Try.prog 24 0 = some (0, 1) := by kernel_rfl
theorem es_22 : elemK Try.prog 22 = some (none, 1) := by kernel_rfl
theorem ia_31 : aggK Try.prog 31 = some (true, 4) := by kernel_rfl
theorem fa_31_2 : fieldAt Try.prog 31 2 = some (2, 1) := by kernel_rfl
theorem fa_31_3 : fieldAt Try.prog 31 3 = some (3, 1) := by kernel_rfl
theorem fa_31_0 : fieldAt Try.prog 31 0 = some (0, 1) := by kernel_rfl
theorem fa_24_1 : fieldAt Try.prog 24 1 = some (1, 1) := by kernel_rfl
theorem lk_22 : lenK Try.prog 22 = some .sl := by kernel_rfl
theorem ia_24 : aggK Try.prog 24 = some (true, 4) := by kernel_rfl
theorem fa_31_1 : fieldAt Try.prog 31 1 = some (1, 1) := by kernel_rfl
theorem za_31 : zeroA Try.prog 31 = some (.agg #[(.int .i64 (0)), (.int .i64 (0)), (.int .i64 (0)), (.slice none 0 0)]) := by kernel_rfl
theorem sz_31 : aggSize Try.prog 31 = some 4 := by kernel_rfl
theorem fa_35_0 : fieldAt Try.prog 35 0 = some (0, 1) := by kernel_rfl
theorem fa_35_1 : fieldAt Try.prog 35 1 = some (1, 1) := by kernel_rfl
theorem fa_35_2 : fieldAt Try.prog 35 2 = some (2, 1) := by kernel_rfl
theorem fa_35_3 : fieldAt Try.prog 35 3 = some (3, 1) := by kernel_rfl
theorem za_3 : zeroA Try.prog 3 = some (.int .i64 (0)) := by kernel_rfl
theorem sz_3 : aggSize Try.prog 3 = some 1 := by kernel_rfl
theorem ia_35 : aggK Try.prog 35 = some (true, 4) := by kernel_rfl
theorem za_103 : zeroA Try.prog 103 = some (.agg #[(.int .i64 (0)), (.int .i64 (0)), (.int .i64 (0))]) := by kernel_rfl
theorem pl_103 : plK Try.prog 103 = some [(0, 1), (1, 1), (2, 1)] := by kernel_rfl
theorem es_104 : elemK Try.prog 104 = some (none, 3) := by kernel_rfl
theorem ze_104 : zeroE Try.prog 104 = some (.agg #[(.int .i64 (0)), (.int .i64 (0)), (.int .i64 (0))]) := by kernel_rfl
theorem ba_104_4 : baseArr (Value.cells (.agg #[(.int .i64 (0)), (.int .i64 (0)), (.int .i64 (0))])) (4 * 3) = #[(.int .i64 (0)), (.int .i64 (0)), (.int .i64 (0)), (.int .i64 (0)), (.int .i64 (0)), (.int .i64 (0)), (.int .i64 (0)), (.int .i64 (0)), (.int .i64 (0)), (.int .i64 (0)), (.int .i64 (0)), (.int .i64 (0))] := by kernel_rfl
theorem lk_104 : lenK Try.prog 104 = some .sl := by kernel_rfl
theorem ia_103 : aggK Try.prog 103 = some (true, 3) := by kernel_rfl
theorem sz_103 : aggSize Try.prog 103 = some 3 := by kernel_rfl
theorem fa_103_2 : fieldAt Try.prog 103 2 = some (2, 1) := by kernel_rfl
theorem fa_103_0 : fieldAt Try.prog 103 0 = some (0, 1) := by kernel_rfl
theorem fa_103_1 : fieldAt Try.prog 103 1 = some (1, 1) := by kernel_rfl
theorem fa_38_0 : fieldAt Try.prog 38 0 = some (0, 1) := by kernel_rfl
theorem fa_38_1 : fieldAt Try.prog 38 1 = some (1, 1) := by kernel_rfl
theorem fa_38_2 : fieldAt Try.prog 38 2 = some (2, 1) := by kernel_rfl
theorem fa_38_3 : fieldAt Try.prog 38 3 = some (3, 1) := by kernel_rfl
theorem ia_38 : aggK Try.prog 38 = some (true, 4) := by kernel_rfl
theorem za_89 : zeroA Try.prog 89 = some (.agg #[(.int .i64 (0)), (.int .i64 (0)), (.int .i64 (0)), (.int .i64 (0)), (.int .i64 (0)), (.int .i64 (0)), (.int .i64 (0)), (.int .i64 (0)), (.int .i64 (0)), (.int .i64 (0)), (.int .i64 (0)), (.int .i64 (0)), (.int .i64 (0)), (.int .i64 (0)), (.int .i64 (0)), (.int .i64 (0)), (.int .i64 (0)), (.int .i64 (0)), (.int .i64 (0)), (.int .i64 (0)), (.int .i64 (0)), (.int .i64 (0)), (.int .i64 (0)), (.int .i64 (0)), (.int .i64 (0)), (.int .i64 (0)), (.int .i64 (0)), (.int .i64 (0)), (.int .i64 (0)), (.int .i64 (0)), (.int .i64 (0)), (.int .i64 (0)), (.int .i64 (0)), (.int .i64 (0)), (.int .i64 (0)), (.int .i64 (0)), (.int .i64 (0)), (.int .i64 (0)), (.int .i64 (0)), (.int .i64 (0)), (.int .i64 (0)), (.int .i64 (0)), (.int .i64 (0)), (.int .i64 (0)), (.int .i64 (0)), (.int .i64 (0)), (.int .i64 (0)), (.int .i64 (0)), (.int .i64 (0)), (.int .i64 (0)), (.int .i64 (0)), (.int .i64 (0)), (.int .i64 (0)), (.int .i64 (0)), (.int .i64 (0)), (.int .i64 (0)), (.int .i64 (0)), (.int .i64 (0)), (.int .i64 (0)), (.int .i64 (0)), (.int .i64 (0)), (.int .i64 (0)), (.int .i64 (0)), (.int .i64 (0)), (.int .i64 (0)), (.int .i64 (0)), (.int .i64 (0)), (.int .i64 (0)), (.int .i64 (0)), (.int .i64 (0)), (.int .i64 (0)), (.int .i64 (0)), (.int .i64 (0)), (.int .i64 (0)), (.int .i64 (0)), (.int .i64 (0)), (.int .i64 (0)), (.int .i64 (0)), (.int .i64 (0)), (.int .i64 (0)), (.int .i64 (0)), .nilIface, .nilIface, .nilIface, .nilIface, .nilIface, .nilIface, .nilIface, .nilIface, .nilIface, .nilIface, .nilIface, .nilIface, .nilIface, .nilIface, .nilIface, .nilIface, .nilIface, .nilIface, .nilIface, .nilIface, .nilIface, .nilIface, .nilIface, .nilIface, .nilIface, .nilIface, .nilIface, .nilIface, .nilIface, .nilIface, .nilIface, .nilIface, .nilIface, .nilIface, .nilIface, .nilIface, .nilIface, .nilIface, .nilIface, .nilIface, .nilIface, .nilIface, .nilIface, .nilIface, .nilIface, .nilIface, .nilIface, .nilIface, .nilIface, .nilIface, .nilIface, .nilIface, .nilIface, .nilIface, .nilIface, .nilIface, .nilIface, .nilIface, .nilIface, .nilIface, .nilIface, .nilIface, .nilIface, .nilIface, .nilIface, .nilIface, .nilIface, .nilIface, .nilIface, .nilIface, .nilIface, .nilIface, .nilIface, .nilIface, .nilIface, .nilIface, .nilIface, .nilIface, .nilIface, .nilIface, .nilIface]) := by kernel_rfl
theorem pl_89 : plK Try.prog 89 = some [(0, 81), (81, 81)] := by kernel_rfl
theorem za_90 : zeroA Try.prog 90 = some (.pointer none) := by kernel_rfl
theorem sz_90 : aggSize Try.prog 90 = some 1 := by kernel_rfl
theorem za_79 : zeroA Try.prog 79 = some .nilFunc := by kernel_rfl
theorem sz_79 : aggSize Try.prog 79 = some 1 := by kernel_rfl
theorem ia_79 : aggK Try.prog 79 = some (false, 1) := by kernel_rfl
theorem za_35 : zeroA Try.prog 35 = some (.agg #[(.int .i64 (0)), (.int .i64 (0)), (.int .i64 (0)), (.int .i64 (0))]) := by kernel_rfl
theorem pl_35 : plK Try.prog 35 = some [(0, 1), (1, 1), (2, 1), (3, 1)] := by kernel_rfl
theorem ia_90 : aggK Try.prog 90 = some (false, 1) := by kernel_rfl
theorem fa_89_1 : fieldAt Try.prog 89 1 = some (81, 81) := by kernel_rfl
theorem ea_87 : elemK Try.prog 87 = some (some 9, 9) := by kernel_rfl
theorem ea_86 : elemK Try.prog 86 = some (some 9, 1) := by kernel_rfl
theorem ia_85 : aggK Try.prog 85 = some (false, 1) := by kernel_rfl
theorem fa_89_0 : fieldAt Try.prog 89 0 = some (0, 81) := by kernel_rfl
theorem ea_83 : elemK Try.prog 83 = some (some 9, 9) := by kernel_rfl
theorem ea_82 : elemK Try.prog 82 = some (some 9, 1) := by kernel_rfl
theorem lk_101 : lenK Try.prog 101 = some .sl := by kernel_rfl
theorem es_101 : elemK Try.prog 101 = some (none, 1) := by kernel_rfl
theorem sz_35 : aggSize Try.prog 35 = some 4 := by kernel_rfl
theorem sz_85 : aggSize Try.prog 85 = some 1 := by kernel_rfl
theorem ii_93 : notI Try.prog 93 = true := by kernel_rfl
theorem ze_101 : zeroE Try.prog 101 = some .nilIface := by kernel_rfl
theorem ba_101_1 : baseArr (Value.cells .nilIface) (1 * 1) = #[.nilIface] := by kernel_rfl
theorem ap_101 : apK Try.prog 101 = some (1, 16) := by kernel_rfl
theorem ni_101 : notInt Try.prog 101 = true := by kernel_rfl
theorem ii_94 : notI Try.prog 94 = true := by kernel_rfl
theorem ix_83 : arrK Try.prog 83 = some (9, 9, true) := by kernel_rfl
theorem ix_82 : arrK Try.prog 82 = some (9, 1, false) := by kernel_rfl
theorem za_83 : zeroA Try.prog 83 = some (.agg #[(.int .i64 (0)), (.int .i64 (0)), (.int .i64 (0)), (.int .i64 (0)), (.int .i64 (0)), (.int .i64 (0)), (.int .i64 (0)), (.int .i64 (0)), (.int .i64 (0)), (.int .i64 (0)), (.int .i64 (0)), (.int .i64 (0)), (.int .i64 (0)), (.int .i64 (0)), (.int .i64 (0)), (.int .i64 (0)), (.int .i64 (0)), (.int .i64 (0)), (.int .i64 (0)), (.int .i64 (0)), (.int .i64 (0)), (.int .i64 (0)), (.int .i64 (0)), (.int .i64 (0)), (.int .i64 (0)), (.int .i64 (0)), (.int .i64 (0)), (.int .i64 (0)), (.int .i64 (0)), (.int .i64 (0)), (.int .i64 (0)), (.int .i64 (0)), (.int .i64 (0)), (.int .i64 (0)), (.int .i64 (0)), (.int .i64 (0)), (.int .i64 (0)), (.int .i64 (0)), (.int .i64 (0)), (.int .i64 (0)), (.int .i64 (0)), (.int .i64 (0)), (.int .i64 (0)), (.int .i64 (0)), (.int .i64 (0)), (.int .i64 (0)), (.int .i64 (0)), (.int .i64 (0)), (.int .i64 (0)), (.int .i64 (0)), (.int .i64 (0)), (.int .i64 (0)), (.int .i64 (0)), (.int .i64 (0)), (.int .i64 (0)), (.int .i64 (0)), (.int .i64 (0)), (.int .i64 (0)), (.int .i64 (0)), (.int .i64 (0)), (.int .i64 (0)), (.int .i64 (0)), (.int .i64 (0)), (.int .i64 (0)), (.int .i64 (0)), (.int .i64 (0)), (.int .i64 (0)), (.int .i64 (0)), (.int .i64 (0)), (.int .i64 (0)), (.int .i64 (0)), (.int .i64 (0)), (.int .i64 (0)), (.int .i64 (0)), (.int .i64 (0)), (.int .i64 (0)), (.int .i64 (0)), (.int .i64 (0)), (.int .i64 (0)), (.int .i64 (0)), (.int .i64 (0))]) := by kernel_rfl
theorem ia_83 : aggK Try.prog 83 = some (true, 81) := by kernel_rfl
theorem sz_83 : aggSize Try.prog 83 = some 81 := by kernel_rfl

end Go.Proofs.Ytgpcjdhlijompaa.ore
