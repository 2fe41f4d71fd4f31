/-
  Names for the nodes of the code of some functions (projections of their bodies), the step of each node, and the facts of types that they use.
-/
import Derived.Test.YtgpcjdhlijompaaN2
namespace Go.Proofs.Ytgpcjdhlijompaa.ore
open Go.GE
set_option maxRecDepth 100000
noncomputable def n43_0 : Code := sub [] (bodyOf Try.f43)
noncomputable def n43_1 : Code := sub [false] (bodyOf Try.f43)
noncomputable def q43_1 : List Oper := ops [false] Try.f43
noncomputable def n43_2 : Code := sub [true] (bodyOf Try.f43)
noncomputable def n43_3 : Code := sub [true, false] (bodyOf Try.f43)
noncomputable def q43_3 : List Oper := ops [true, false] Try.f43
noncomputable def n43_4 : Code := sub [true, true] (bodyOf Try.f43)
theorem body43 : Try.f43.body = some n43_0 := by kernel_rfl
theorem run43 (E : Ev) (args : List Value) (h : List Blk) (hl : args.length ≤ 41) : runB Try.prog E 43 args h = endS Try.prog [.tmp 4] h.length (codeB Try.prog E ⟨43, 41, h.length, none⟩ n43_0 ⟨enumT 0 args, h, []⟩) := GE.run_step Try.func43 body43 (by kernel_rfl) (by decide) (by kernel_rfl) hl
theorem n43_1s (E : Ev) (f : FuncId) (b : Nat) (ro : Option Nat) (st : St) : codeB Try.prog E ⟨f, 41, b, ro⟩ n43_1 st = plainS (runOps Try.prog E b q43_1 (ops [false] Try.f43) st) := GE.region_step (id := 0) (by kernel_rfl) (by kernel_rfl)
theorem q43_3g6 : gd q43_3 6 = some 11 := by kernel_rfl
theorem q43_3g14 : gd q43_3 14 = some 19 := by kernel_rfl
theorem q43_3g25 : gd q43_3 25 = some 30 := by kernel_rfl
theorem n43_3s (E : Ev) (f : FuncId) (b : Nat) (ro : Option Nat) (st : St) : codeB Try.prog E ⟨f, 41, b, ro⟩ n43_3 st = plainS (runOps Try.prog E b q43_3 (ops [true, false] Try.f43) st) := GE.region_step (id := 1) (by kernel_rfl) (by kernel_rfl)
theorem n43_4s (E : Ev) (cx : Cx) (st : St) : codeB Try.prog E cx n43_4 st = some (.ret, st) := GE.ret_step (by kernel_rfl)
theorem n43_2s (E : Ev) (cx : Cx) (st : St) : codeB Try.prog E cx n43_2 st = thenS (codeB Try.prog E cx n43_3 st) (codeB Try.prog E cx n43_4) := GE.seq_step (by kernel_rfl)
theorem n43_0s (E : Ev) (cx : Cx) (st : St) : codeB Try.prog E cx n43_0 st = thenS (codeB Try.prog E cx n43_1 st) (codeB Try.prog E cx n43_2) := GE.seq_step (by kernel_rfl)
noncomputable def n44_0 : Code := sub [] (bodyOf Try.f44)
noncomputable def n44_1 : Code := sub [false] (bodyOf Try.f44)
noncomputable def q44_1 : List Oper := ops [false] Try.f44
noncomputable def n44_2 : Code := sub [true] (bodyOf Try.f44)
noncomputable def n44_3 : Code := sub [true, false] (bodyOf Try.f44)
noncomputable def q44_3 : List Oper := ops [true, false] Try.f44
noncomputable def n44_4 : Code := sub [true, true] (bodyOf Try.f44)
noncomputable def n44_5 : Code := sub [true, true, false] (bodyOf Try.f44)
noncomputable def n44_6 : Code := sub [true, true, false, false] (bodyOf Try.f44)
noncomputable def q44_6 : List Oper := ops [true, true, false, false] Try.f44
noncomputable def n44_7 : Code := sub [true, true, false, true] (bodyOf Try.f44)
noncomputable def n44_8 : Code := sub [true, true, false, true, false] (bodyOf Try.f44)
noncomputable def n44_9 : Code := sub [true, true, false, true, false, false] (bodyOf Try.f44)
noncomputable def q44_9 : List Oper := ops [true, true, false, true, false, false] Try.f44
noncomputable def n44_10 : Code := sub [true, true, false, true, false, true] (bodyOf Try.f44)
noncomputable def n44_11 : Code := sub [true, true, false, true, false, true, false] (bodyOf Try.f44)
noncomputable def n44_12 : Code := sub [true, true, false, true, false, true, false, false] (bodyOf Try.f44)
noncomputable def n44_13 : Code := sub [true, true, false, true, false, true, false, false, false] (bodyOf Try.f44)
noncomputable def q44_13 : List Oper := ops [true, true, false, true, false, true, false, false, false] Try.f44
noncomputable def n44_14 : Code := sub [true, true, false, true, false, true, false, false, true] (bodyOf Try.f44)
noncomputable def n44_15 : Code := sub [true, true, false, true, false, true, false, false, true, false] (bodyOf Try.f44)
noncomputable def q44_15 : List Oper := ops [true, true, false, true, false, true, false, false, true, false] Try.f44
noncomputable def n44_16 : Code := sub [true, true, false, true, false, true, false, false, true, true] (bodyOf Try.f44)
noncomputable def n44_17 : Code := sub [true, true, false, true, false, true, false, true] (bodyOf Try.f44)
noncomputable def q44_17 : List Oper := ops [true, true, false, true, false, true, false, true] Try.f44
noncomputable def n44_18 : Code := sub [true, true, true] (bodyOf Try.f44)
noncomputable def n44_19 : Code := sub [true, true, true, false] (bodyOf Try.f44)
noncomputable def q44_19 : List Oper := ops [true, true, true, false] Try.f44
noncomputable def n44_20 : Code := sub [true, true, true, true] (bodyOf Try.f44)
theorem body44 : Try.f44.body = some n44_0 := by kernel_rfl
theorem run44 (E : Ev) (args : List Value) (h : List Blk) (hl : args.length ≤ 22) : runB Try.prog E 44 args h = endS Try.prog [.tmp 4] h.length (codeB Try.prog E ⟨44, 22, h.length, none⟩ n44_0 ⟨enumT 0 args, h, []⟩) := GE.run_step Try.func44 body44 (by kernel_rfl) (by decide) (by kernel_rfl) hl
theorem n44_1s (E : Ev) (f : FuncId) (b : Nat) (ro : Option Nat) (st : St) : codeB Try.prog E ⟨f, 22, b, ro⟩ n44_1 st = plainS (runOps Try.prog E b q44_1 (ops [false] Try.f44) st) := GE.region_step (id := 0) (by kernel_rfl) (by kernel_rfl)
theorem n44_3s (E : Ev) (f : FuncId) (b : Nat) (ro : Option Nat) (st : St) : codeB Try.prog E ⟨f, 22, b, ro⟩ n44_3 st = plainS (runOps Try.prog E b q44_3 (ops [true, false] Try.f44) st) := GE.region_step (id := 1) (by kernel_rfl) (by kernel_rfl)
theorem n44_6s (E : Ev) (f : FuncId) (b : Nat) (ro : Option Nat) (st : St) : codeB Try.prog E ⟨f, 22, b, ro⟩ n44_6 st = plainS (runOps Try.prog E b q44_6 (ops [true, true, false, false] Try.f44) st) := GE.region_step (id := 2) (by kernel_rfl) (by kernel_rfl)
theorem n44_9s (E : Ev) (f : FuncId) (b : Nat) (ro : Option Nat) (st : St) : codeB Try.prog E ⟨f, 22, b, ro⟩ n44_9 st = plainS (runOps Try.prog E b q44_9 (ops [true, true, false, true, false, false] Try.f44) st) := GE.region_step (id := 3) (by kernel_rfl) (by kernel_rfl)
theorem n44_13s (E : Ev) (f : FuncId) (b : Nat) (ro : Option Nat) (st : St) : codeB Try.prog E ⟨f, 22, b, ro⟩ n44_13 st = plainS (runOps Try.prog E b q44_13 (ops [true, true, false, true, false, true, false, false, false] Try.f44) st) := GE.region_step (id := 4) (by kernel_rfl) (by kernel_rfl)
theorem n44_15s (E : Ev) (f : FuncId) (b : Nat) (ro : Option Nat) (st : St) : codeB Try.prog E ⟨f, 22, b, ro⟩ n44_15 st = drawS [0, 0, 0, 6, 15, 31] (runOpsF Try.prog E b q44_15 (ops [true, true, false, true, false, true, false, false, true, false] Try.f44) st) := GE.draw_step (id := 5) (by kernel_rfl) (by kernel_rfl) (by kernel_rfl) (by kernel_rfl)
theorem n44_16s (E : Ev) (cx : Cx) (st : St) : codeB Try.prog E cx n44_16 st = some (.normal, st) := GE.skip_step (by kernel_rfl)
theorem n44_14s (E : Ev) (cx : Cx) (st : St) : codeB Try.prog E cx n44_14 st = condS (codeB Try.prog E cx n44_15) (codeB Try.prog E cx n44_16) (lk st.σ 13) st := GE.cond_step (c := .tmp 13) (by kernel_rfl)
theorem n44_12s (E : Ev) (cx : Cx) (st : St) : codeB Try.prog E cx n44_12 st = thenS (codeB Try.prog E cx n44_13 st) (codeB Try.prog E cx n44_14) := GE.seq_step (by kernel_rfl)
theorem n44_17s (E : Ev) (f : FuncId) (b : Nat) (ro : Option Nat) (st : St) : codeB Try.prog E ⟨f, 22, b, ro⟩ n44_17 st = plainS (runOps Try.prog E b q44_17 (ops [true, true, false, true, false, true, false, true] Try.f44) st) := GE.region_step (id := 6) (by kernel_rfl) (by kernel_rfl)
theorem n44_11s (E : Ev) (cx : Cx) (st : St) : codeB Try.prog E cx n44_11 st = thenS (codeB Try.prog E cx n44_12 st) (codeB Try.prog E cx n44_17) := GE.seq_step (by kernel_rfl)
theorem n44_10s (E : Ev) (cx : Cx) (st : St) : codeB Try.prog E cx n44_10 st = blockS 1 (codeB Try.prog E cx n44_11 st) st := GE.block_step (by kernel_rfl)
theorem n44_8e : n44_8 = .rangeFunc (.tmp 10) #[11] n44_9 n44_10 := by kernel_rfl
theorem n44_8k : (ue n44_9).1 ++ (ue n44_10).1 = [11, 6, 5, 7] := by kernel_rfl
theorem n44_7s (E : Ev) (cx : Cx) (st : St) : codeB Try.prog E cx n44_7 st = blockS 0 (codeB Try.prog E cx n44_8 st) st := GE.block_step (by kernel_rfl)
theorem n44_5s (E : Ev) (cx : Cx) (st : St) : codeB Try.prog E cx n44_5 st = thenS (codeB Try.prog E cx n44_6 st) (codeB Try.prog E cx n44_7) := GE.seq_step (by kernel_rfl)
theorem n44_19s (E : Ev) (f : FuncId) (b : Nat) (ro : Option Nat) (st : St) : codeB Try.prog E ⟨f, 22, b, ro⟩ n44_19 st = plainS (runOps Try.prog E b q44_19 (ops [true, true, true, false] Try.f44) st) := GE.region_step (id := 7) (by kernel_rfl) (by kernel_rfl)
theorem n44_20s (E : Ev) (cx : Cx) (st : St) : codeB Try.prog E cx n44_20 st = some (.ret, st) := GE.ret_step (by kernel_rfl)
theorem n44_18s (E : Ev) (cx : Cx) (st : St) : codeB Try.prog E cx n44_18 st = thenS (codeB Try.prog E cx n44_19 st) (codeB Try.prog E cx n44_20) := GE.seq_step (by kernel_rfl)
theorem n44_4s (E : Ev) (cx : Cx) (st : St) : codeB Try.prog E cx n44_4 st = thenS (codeB Try.prog E cx n44_5 st) (codeB Try.prog E cx n44_18) := GE.seq_step (by kernel_rfl)
theorem n44_2s (E : Ev) (cx : Cx) (st : St) : codeB Try.prog E cx n44_2 st = thenS (codeB Try.prog E cx n44_3 st) (codeB Try.prog E cx n44_4) := GE.seq_step (by kernel_rfl)
theorem n44_0s (E : Ev) (cx : Cx) (st : St) : codeB Try.prog E cx n44_0 st = thenS (codeB Try.prog E cx n44_1 st) (codeB Try.prog E cx n44_2) := GE.seq_step (by kernel_rfl)
noncomputable def n53_0 : Code := sub [] (bodyOf Try.f53)
noncomputable def n53_1 : Code := sub [false] (bodyOf Try.f53)
noncomputable def q53_1 : List Oper := ops [false] Try.f53
noncomputable def n53_2 : Code := sub [true] (bodyOf Try.f53)
noncomputable def n53_3 : Code := sub [true, false] (bodyOf Try.f53)
noncomputable def q53_3 : List Oper := ops [true, false] Try.f53
noncomputable def n53_4 : Code := sub [true, true] (bodyOf Try.f53)
theorem body53 : Try.f53.body = some n53_0 := by kernel_rfl
theorem run53 (E : Ev) (args : List Value) (h : List Blk) (hl : args.length ≤ 6) : runB Try.prog E 53 args h = endS Try.prog [.tmp 4] h.length (codeB Try.prog E ⟨53, 6, h.length, none⟩ n53_0 ⟨enumT 0 args, h, []⟩) := GE.run_step Try.func53 body53 (by kernel_rfl) (by decide) (by kernel_rfl) hl
theorem n53_1s (E : Ev) (f : FuncId) (b : Nat) (ro : Option Nat) (st : St) : codeB Try.prog E ⟨f, 6, b, ro⟩ n53_1 st = plainS (runOps Try.prog E b q53_1 (ops [false] Try.f53) st) := GE.region_step (id := 0) (by kernel_rfl) (by kernel_rfl)
theorem n53_3s (E : Ev) (f : FuncId) (b : Nat) (ro : Option Nat) (st : St) : codeB Try.prog E ⟨f, 6, b, ro⟩ n53_3 st = plainS (runOps Try.prog E b q53_3 (ops [true, false] Try.f53) st) := GE.region_step (id := 1) (by kernel_rfl) (by kernel_rfl)
theorem n53_4s (E : Ev) (cx : Cx) (st : St) : codeB Try.prog E cx n53_4 st = some (.ret, st) := GE.ret_step (by kernel_rfl)
theorem n53_2s (E : Ev) (cx : Cx) (st : St) : codeB Try.prog E cx n53_2 st = thenS (codeB Try.prog E cx n53_3 st) (codeB Try.prog E cx n53_4) := GE.seq_step (by kernel_rfl)
theorem n53_0s (E : Ev) (cx : Cx) (st : St) : codeB Try.prog E cx n53_0 st = thenS (codeB Try.prog E cx n53_1 st) (codeB Try.prog E cx n53_2) := GE.seq_step (by kernel_rfl)
noncomputable def n56_0 : Code := sub [] (bodyOf Try.f56)
noncomputable def n56_1 : Code := sub [false] (bodyOf Try.f56)
noncomputable def q56_1 : List Oper := ops [false] Try.f56
noncomputable def n56_2 : Code := sub [true] (bodyOf Try.f56)
noncomputable def n56_3 : Code := sub [true, false] (bodyOf Try.f56)
noncomputable def n56_4 : Code := sub [true, false, false] (bodyOf Try.f56)
noncomputable def q56_4 : List Oper := ops [true, false, false] Try.f56
noncomputable def n56_5 : Code := sub [true, false, true] (bodyOf Try.f56)
noncomputable def n56_6 : Code := sub [true, false, true, false] (bodyOf Try.f56)
noncomputable def n56_7 : Code := sub [true, false, true, false, false] (bodyOf Try.f56)
noncomputable def n56_8 : Code := sub [true, false, true, false, false, false] (bodyOf Try.f56)
noncomputable def q56_8 : List Oper := ops [true, false, true, false, false, false] Try.f56
noncomputable def n56_9 : Code := sub [true, false, true, false, false, true] (bodyOf Try.f56)
noncomputable def n56_10 : Code := sub [true, false, true, false, false, true, false] (bodyOf Try.f56)
noncomputable def n56_11 : Code := sub [true, false, true, false, false, true, false, false] (bodyOf Try.f56)
noncomputable def n56_12 : Code := sub [true, false, true, false, false, true, false, true] (bodyOf Try.f56)
noncomputable def n56_13 : Code := sub [true, false, true, false, false, true, true] (bodyOf Try.f56)
noncomputable def n56_14 : Code := sub [true, false, true, false, false, true, true, false] (bodyOf Try.f56)
noncomputable def n56_15 : Code := sub [true, false, true, false, false, true, true, false, false] (bodyOf Try.f56)
noncomputable def n56_16 : Code := sub [true, false, true, false, false, true, true, false, false, false] (bodyOf Try.f56)
noncomputable def q56_16 : List Oper := ops [true, false, true, false, false, true, true, false, false, false] Try.f56
noncomputable def n56_17 : Code := sub [true, false, true, false, false, true, true, false, false, true] (bodyOf Try.f56)
noncomputable def n56_18 : Code := sub [true, false, true, false, false, true, true, false, false, true, false] (bodyOf Try.f56)
noncomputable def q56_18 : List Oper := ops [true, false, true, false, false, true, true, false, false, true, false] Try.f56
noncomputable def n56_19 : Code := sub [true, false, true, false, false, true, true, false, false, true, true] (bodyOf Try.f56)
noncomputable def n56_20 : Code := sub [true, false, true, false, false, true, true, false, false, true, true, false] (bodyOf Try.f56)
noncomputable def n56_21 : Code := sub [true, false, true, false, false, true, true, false, false, true, true, false, false] (bodyOf Try.f56)
noncomputable def n56_22 : Code := sub [true, false, true, false, false, true, true, false, false, true, true, false, false, false] (bodyOf Try.f56)
noncomputable def q56_22 : List Oper := ops [true, false, true, false, false, true, true, false, false, true, true, false, false, false] Try.f56
noncomputable def n56_23 : Code := sub [true, false, true, false, false, true, true, false, false, true, true, false, false, true] (bodyOf Try.f56)
noncomputable def n56_24 : Code := sub [true, false, true, false, false, true, true, false, false, true, true, false, false, true, false] (bodyOf Try.f56)
noncomputable def n56_25 : Code := sub [true, false, true, false, false, true, true, false, false, true, true, false, false, true, false, false] (bodyOf Try.f56)
noncomputable def n56_26 : Code := sub [true, false, true, false, false, true, true, false, false, true, true, false, false, true, false, true] (bodyOf Try.f56)
noncomputable def n56_27 : Code := sub [true, false, true, false, false, true, true, false, false, true, true, false, false, true, true] (bodyOf Try.f56)
noncomputable def n56_28 : Code := sub [true, false, true, false, false, true, true, false, false, true, true, false, false, true, true, false] (bodyOf Try.f56)
noncomputable def n56_29 : Code := sub [true, false, true, false, false, true, true, false, false, true, true, false, false, true, true, false, false] (bodyOf Try.f56)
noncomputable def n56_30 : Code := sub [true, false, true, false, false, true, true, false, false, true, true, false, false, true, true, false, false, false] (bodyOf Try.f56)
noncomputable def n56_31 : Code := sub [true, false, true, false, false, true, true, false, false, true, true, false, false, true, true, false, false, false, false] (bodyOf Try.f56)
noncomputable def q56_31 : List Oper := ops [true, false, true, false, false, true, true, false, false, true, true, false, false, true, true, false, false, false, false] Try.f56
noncomputable def n56_32 : Code := sub [true, false, true, false, false, true, true, false, false, true, true, false, false, true, true, false, false, false, true] (bodyOf Try.f56)
noncomputable def n56_33 : Code := sub [true, false, true, false, false, true, true, false, false, true, true, false, false, true, true, false, false, false, true, false] (bodyOf Try.f56)
noncomputable def n56_34 : Code := sub [true, false, true, false, false, true, true, false, false, true, true, false, false, true, true, false, false, false, true, true] (bodyOf Try.f56)
noncomputable def n56_35 : Code := sub [true, false, true, false, false, true, true, false, false, true, true, false, false, true, true, false, false, true] (bodyOf Try.f56)
noncomputable def q56_35 : List Oper := ops [true, false, true, false, false, true, true, false, false, true, true, false, false, true, true, false, false, true] Try.f56
noncomputable def n56_36 : Code := sub [true, false, true, false, false, true, true, false, false, true, true, false, false, true, true, true] (bodyOf Try.f56)
noncomputable def q56_36 : List Oper := ops [true, false, true, false, false, true, true, false, false, true, true, false, false, true, true, true] Try.f56
noncomputable def n56_37 : Code := sub [true, false, true, false, false, true, true, true] (bodyOf Try.f56)
noncomputable def q56_37 : List Oper := ops [true, false, true, false, false, true, true, true] Try.f56
noncomputable def n56_38 : Code := sub [true, true] (bodyOf Try.f56)
noncomputable def q56_38 : List Oper := ops [true, true] Try.f56
theorem body56 : Try.f56.body = some n56_0 := by kernel_rfl
theorem run56 (E : Ev) (args : List Value) (h : List Blk) (hl : args.length ≤ 57) : runB Try.prog E 56 args h = endS Try.prog [] h.length (codeB Try.prog E ⟨56, 57, h.length, none⟩ n56_0 ⟨enumT 0 args, h, []⟩) := GE.run_step Try.func56 body56 (by kernel_rfl) (by decide) (by kernel_rfl) hl
theorem n56_1s (E : Ev) (f : FuncId) (b : Nat) (ro : Option Nat) (st : St) : codeB Try.prog E ⟨f, 57, b, ro⟩ n56_1 st = drawS [0, 1, 0, 4, 3, 31] (runOpsF Try.prog E b q56_1 (ops [false] Try.f56) st) := GE.draw_step (id := 0) (by kernel_rfl) (by kernel_rfl) (by kernel_rfl) (by kernel_rfl)
theorem n56_4s (E : Ev) (f : FuncId) (b : Nat) (ro : Option Nat) (st : St) : codeB Try.prog E ⟨f, 57, b, ro⟩ n56_4 st = plainS (runOps Try.prog E b q56_4 (ops [true, false, false] Try.f56) st) := GE.region_step (id := 1) (by kernel_rfl) (by kernel_rfl)
theorem n56_8s (E : Ev) (f : FuncId) (b : Nat) (ro : Option Nat) (st : St) : codeB Try.prog E ⟨f, 57, b, ro⟩ n56_8 st = plainS (runOps Try.prog E b q56_8 (ops [true, false, true, false, false, false] Try.f56) st) := GE.region_step (id := 2) (by kernel_rfl) (by kernel_rfl)
theorem n56_11s (E : Ev) (cx : Cx) (st : St) : codeB Try.prog E cx n56_11 st = some (.normal, st) := GE.skip_step (by kernel_rfl)
theorem n56_12s (E : Ev) (cx : Cx) (st : St) : codeB Try.prog E cx n56_12 st = some (.exit 0, st) := GE.exit_step (by kernel_rfl)
theorem n56_10s (E : Ev) (cx : Cx) (st : St) : codeB Try.prog E cx n56_10 st = condS (codeB Try.prog E cx n56_11) (codeB Try.prog E cx n56_12) (lk st.σ 27) st := GE.cond_step (c := .tmp 27) (by kernel_rfl)
theorem n56_16s (E : Ev) (f : FuncId) (b : Nat) (ro : Option Nat) (st : St) : codeB Try.prog E ⟨f, 57, b, ro⟩ n56_16 st = plainS (runOps Try.prog E b q56_16 (ops [true, false, true, false, false, true, true, false, false, false] Try.f56) st) := GE.region_step (id := 3) (by kernel_rfl) (by kernel_rfl)
theorem n56_18s (E : Ev) (f : FuncId) (b : Nat) (ro : Option Nat) (st : St) : codeB Try.prog E ⟨f, 57, b, ro⟩ n56_18 st = plainS (runOps Try.prog E b q56_18 (ops [true, false, true, false, false, true, true, false, false, true, false] Try.f56) st) := GE.region_step (id := 4) (by kernel_rfl) (by kernel_rfl)
theorem n56_22s (E : Ev) (f : FuncId) (b : Nat) (ro : Option Nat) (st : St) : codeB Try.prog E ⟨f, 57, b, ro⟩ n56_22 st = plainS (runOps Try.prog E b q56_22 (ops [true, false, true, false, false, true, true, false, false, true, true, false, false, false] Try.f56) st) := GE.region_step (id := 5) (by kernel_rfl) (by kernel_rfl)
theorem n56_25s (E : Ev) (cx : Cx) (st : St) : codeB Try.prog E cx n56_25 st = some (.normal, st) := GE.skip_step (by kernel_rfl)
theorem n56_26s (E : Ev) (cx : Cx) (st : St) : codeB Try.prog E cx n56_26 st = some (.exit 2, st) := GE.exit_step (by kernel_rfl)
theorem n56_24s (E : Ev) (cx : Cx) (st : St) : codeB Try.prog E cx n56_24 st = condS (codeB Try.prog E cx n56_25) (codeB Try.prog E cx n56_26) (lk st.σ 33) st := GE.cond_step (c := .tmp 33) (by kernel_rfl)
theorem n56_31s (E : Ev) (f : FuncId) (b : Nat) (ro : Option Nat) (st : St) : codeB Try.prog E ⟨f, 57, b, ro⟩ n56_31 st = plainS (runOps Try.prog E b q56_31 (ops [true, false, true, false, false, true, true, false, false, true, true, false, false, true, true, false, false, false, false] Try.f56) st) := GE.region_step (id := 6) (by kernel_rfl) (by kernel_rfl)
theorem n56_33s (E : Ev) (cx : Cx) (st : St) : codeB Try.prog E cx n56_33 st = some (.ret, st) := GE.ret_step (by kernel_rfl)
theorem n56_34s (E : Ev) (cx : Cx) (st : St) : codeB Try.prog E cx n56_34 st = some (.normal, st) := GE.skip_step (by kernel_rfl)
theorem n56_32s (E : Ev) (cx : Cx) (st : St) : codeB Try.prog E cx n56_32 st = condS (codeB Try.prog E cx n56_33) (codeB Try.prog E cx n56_34) (lk st.σ 40) st := GE.cond_step (c := .tmp 40) (by kernel_rfl)
theorem n56_30s (E : Ev) (cx : Cx) (st : St) : codeB Try.prog E cx n56_30 st = thenS (codeB Try.prog E cx n56_31 st) (codeB Try.prog E cx n56_32) := GE.seq_step (by kernel_rfl)
theorem n56_35s (E : Ev) (f : FuncId) (b : Nat) (ro : Option Nat) (st : St) : codeB Try.prog E ⟨f, 57, b, ro⟩ n56_35 st = drawS [0, 0, 2, 7, 0, 0, 32, 112, 15, 511] (runOpsF Try.prog E b q56_35 (ops [true, false, true, false, false, true, true, false, false, true, true, false, false, true, true, false, false, true] Try.f56) st) := GE.draw_step (id := 7) (by kernel_rfl) (by kernel_rfl) (by kernel_rfl) (by kernel_rfl)
theorem n56_29s (E : Ev) (cx : Cx) (st : St) : codeB Try.prog E cx n56_29 st = thenS (codeB Try.prog E cx n56_30 st) (codeB Try.prog E cx n56_35) := GE.seq_step (by kernel_rfl)
theorem n56_28s (E : Ev) (cx : Cx) (st : St) : codeB Try.prog E cx n56_28 st = blockS 3 (codeB Try.prog E cx n56_29 st) st := GE.block_step (by kernel_rfl)
theorem n56_36s (E : Ev) (f : FuncId) (b : Nat) (ro : Option Nat) (st : St) : codeB Try.prog E ⟨f, 57, b, ro⟩ n56_36 st = plainS (runOps Try.prog E b q56_36 (ops [true, false, true, false, false, true, true, false, false, true, true, false, false, true, true, true] Try.f56) st) := GE.region_step (id := 8) (by kernel_rfl) (by kernel_rfl)
theorem n56_27s (E : Ev) (cx : Cx) (st : St) : codeB Try.prog E cx n56_27 st = thenS (codeB Try.prog E cx n56_28 st) (codeB Try.prog E cx n56_36) := GE.seq_step (by kernel_rfl)
theorem n56_23s (E : Ev) (cx : Cx) (st : St) : codeB Try.prog E cx n56_23 st = thenS (codeB Try.prog E cx n56_24 st) (codeB Try.prog E cx n56_27) := GE.seq_step (by kernel_rfl)
theorem n56_21s (E : Ev) (cx : Cx) (st : St) : codeB Try.prog E cx n56_21 st = thenS (codeB Try.prog E cx n56_22 st) (codeB Try.prog E cx n56_23) := GE.seq_step (by kernel_rfl)
theorem n56_20s (E : Ev) (cx : Cx) (st : St) : codeB Try.prog E cx n56_20 st = loopS (fun st' => E.code cx n56_20 st') cx.base (codeB Try.prog E cx n56_21 st) st := GE.loop_step (by kernel_rfl)
theorem n56_19s (E : Ev) (cx : Cx) (st : St) : codeB Try.prog E cx n56_19 st = blockS 2 (codeB Try.prog E cx n56_20 st) st := GE.block_step (by kernel_rfl)
theorem n56_17s (E : Ev) (cx : Cx) (st : St) : codeB Try.prog E cx n56_17 st = thenS (codeB Try.prog E cx n56_18 st) (codeB Try.prog E cx n56_19) := GE.seq_step (by kernel_rfl)
theorem n56_15s (E : Ev) (cx : Cx) (st : St) : codeB Try.prog E cx n56_15 st = thenS (codeB Try.prog E cx n56_16 st) (codeB Try.prog E cx n56_17) := GE.seq_step (by kernel_rfl)
theorem n56_14s (E : Ev) (cx : Cx) (st : St) : codeB Try.prog E cx n56_14 st = blockS 1 (codeB Try.prog E cx n56_15 st) st := GE.block_step (by kernel_rfl)
theorem n56_37s (E : Ev) (f : FuncId) (b : Nat) (ro : Option Nat) (st : St) : codeB Try.prog E ⟨f, 57, b, ro⟩ n56_37 st = plainS (runOps Try.prog E b q56_37 (ops [true, false, true, false, false, true, true, true] Try.f56) st) := GE.region_step (id := 9) (by kernel_rfl) (by kernel_rfl)
theorem n56_13s (E : Ev) (cx : Cx) (st : St) : codeB Try.prog E cx n56_13 st = thenS (codeB Try.prog E cx n56_14 st) (codeB Try.prog E cx n56_37) := GE.seq_step (by kernel_rfl)
theorem n56_9s (E : Ev) (cx : Cx) (st : St) : codeB Try.prog E cx n56_9 st = thenS (codeB Try.prog E cx n56_10 st) (codeB Try.prog E cx n56_13) := GE.seq_step (by kernel_rfl)
theorem n56_7s (E : Ev) (cx : Cx) (st : St) : codeB Try.prog E cx n56_7 st = thenS (codeB Try.prog E cx n56_8 st) (codeB Try.prog E cx n56_9) := GE.seq_step (by kernel_rfl)
theorem n56_6s (E : Ev) (cx : Cx) (st : St) : codeB Try.prog E cx n56_6 st = loopS (fun st' => E.code cx n56_6 st') cx.base (codeB Try.prog E cx n56_7 st) st := GE.loop_step (by kernel_rfl)
theorem n56_5s (E : Ev) (cx : Cx) (st : St) : codeB Try.prog E cx n56_5 st = blockS 0 (codeB Try.prog E cx n56_6 st) st := GE.block_step (by kernel_rfl)
theorem n56_3s (E : Ev) (cx : Cx) (st : St) : codeB Try.prog E cx n56_3 st = thenS (codeB Try.prog E cx n56_4 st) (codeB Try.prog E cx n56_5) := GE.seq_step (by kernel_rfl)
theorem n56_38s (E : Ev) (f : FuncId) (b : Nat) (ro : Option Nat) (st : St) : codeB Try.prog E ⟨f, 57, b, ro⟩ n56_38 st = plainS (runOps Try.prog E b q56_38 (ops [true, true] Try.f56) st) := GE.region_step (id := 10) (by kernel_rfl) (by kernel_rfl)
theorem n56_2s (E : Ev) (cx : Cx) (st : St) : codeB Try.prog E cx n56_2 st = thenS (codeB Try.prog E cx n56_3 st) (codeB Try.prog E cx n56_38) := GE.seq_step (by kernel_rfl)
theorem n56_0s (E : Ev) (cx : Cx) (st : St) : codeB Try.prog E cx n56_0 st = thenS (codeB Try.prog E cx n56_1 st) (codeB Try.prog E cx n56_2) := GE.seq_step (by kernel_rfl)
noncomputable def n45_0 : Code := sub [] (bodyOf Try.f45)
noncomputable def n45_1 : Code := sub [false] (bodyOf Try.f45)
noncomputable def q45_1 : List Oper := ops [false] Try.f45
noncomputable def n45_2 : Code := sub [true] (bodyOf Try.f45)
noncomputable def n45_3 : Code := sub [true, false] (bodyOf Try.f45)
noncomputable def q45_3 : List Oper := ops [true, false] Try.f45
noncomputable def n45_4 : Code := sub [true, true] (bodyOf Try.f45)
theorem body45 : Try.f45.body = some n45_0 := by kernel_rfl
theorem run45 (E : Ev) (args : List Value) (h : List Blk) (hl : args.length ≤ 41) : runB Try.prog E 45 args h = endS Try.prog [.tmp 4] h.length (codeB Try.prog E ⟨45, 41, h.length, none⟩ n45_0 ⟨enumT 0 args, h, []⟩) := GE.run_step Try.func45 body45 (by kernel_rfl) (by decide) (by kernel_rfl) hl
theorem n45_1s (E : Ev) (f : FuncId) (b : Nat) (ro : Option Nat) (st : St) : codeB Try.prog E ⟨f, 41, b, ro⟩ n45_1 st = plainS (runOps Try.prog E b q45_1 (ops [false] Try.f45) st) := GE.region_step (id := 0) (by kernel_rfl) (by kernel_rfl)
theorem q45_3g6 : gd q45_3 6 = some 11 := by kernel_rfl
theorem q45_3g14 : gd q45_3 14 = some 19 := by kernel_rfl
theorem q45_3g25 : gd q45_3 25 = some 30 := by kernel_rfl
theorem n45_3s (E : Ev) (f : FuncId) (b : Nat) (ro : Option Nat) (st : St) : codeB Try.prog E ⟨f, 41, b, ro⟩ n45_3 st = plainS (runOps Try.prog E b q45_3 (ops [true, false] Try.f45) st) := GE.region_step (id := 1) (by kernel_rfl) (by kernel_rfl)
theorem n45_4s (E : Ev) (cx : Cx) (st : St) : codeB Try.prog E cx n45_4 st = some (.ret, st) := GE.ret_step (by kernel_rfl)
theorem n45_2s (E : Ev) (cx : Cx) (st : St) : codeB Try.prog E cx n45_2 st = thenS (codeB Try.prog E cx n45_3 st) (codeB Try.prog E cx n45_4) := GE.seq_step (by kernel_rfl)
theorem n45_0s (E : Ev) (cx : Cx) (st : St) : codeB Try.prog E cx n45_0 st = thenS (codeB Try.prog E cx n45_1 st) (codeB Try.prog E cx n45_2) := GE.seq_step (by kernel_rfl)
noncomputable def n46_0 : Code := sub [] (bodyOf Try.f46)
noncomputable def n46_1 : Code := sub [false] (bodyOf Try.f46)
noncomputable def q46_1 : List Oper := ops [false] Try.f46
noncomputable def n46_2 : Code := sub [true] (bodyOf Try.f46)
noncomputable def n46_3 : Code := sub [true, false] (bodyOf Try.f46)
noncomputable def q46_3 : List Oper := ops [true, false] Try.f46
noncomputable def n46_4 : Code := sub [true, true] (bodyOf Try.f46)
noncomputable def n46_5 : Code := sub [true, true, false] (bodyOf Try.f46)
noncomputable def n46_6 : Code := sub [true, true, false, false] (bodyOf Try.f46)
noncomputable def q46_6 : List Oper := ops [true, true, false, false] Try.f46
noncomputable def n46_7 : Code := sub [true, true, false, true] (bodyOf Try.f46)
noncomputable def n46_8 : Code := sub [true, true, false, true, false] (bodyOf Try.f46)
noncomputable def n46_9 : Code := sub [true, true, false, true, false, false] (bodyOf Try.f46)
noncomputable def n46_10 : Code := sub [true, true, false, true, false, false, false] (bodyOf Try.f46)
noncomputable def n46_11 : Code := sub [true, true, false, true, false, false, false, false] (bodyOf Try.f46)
noncomputable def q46_11 : List Oper := ops [true, true, false, true, false, false, false, false] Try.f46
noncomputable def n46_12 : Code := sub [true, true, false, true, false, false, false, true] (bodyOf Try.f46)
noncomputable def n46_13 : Code := sub [true, true, false, true, false, false, false, true, false] (bodyOf Try.f46)
noncomputable def n46_14 : Code := sub [true, true, false, true, false, false, false, true, true] (bodyOf Try.f46)
noncomputable def n46_15 : Code := sub [true, true, false, true, false, false, true] (bodyOf Try.f46)
noncomputable def n46_16 : Code := sub [true, true, false, true, false, false, true, false] (bodyOf Try.f46)
noncomputable def n46_17 : Code := sub [true, true, false, true, false, false, true, false, false] (bodyOf Try.f46)
noncomputable def n46_18 : Code := sub [true, true, false, true, false, false, true, false, false, false] (bodyOf Try.f46)
noncomputable def q46_18 : List Oper := ops [true, true, false, true, false, false, true, false, false, false] Try.f46
noncomputable def n46_19 : Code := sub [true, true, false, true, false, false, true, false, false, true] (bodyOf Try.f46)
noncomputable def q46_19 : List Oper := ops [true, true, false, true, false, false, true, false, false, true] Try.f46
noncomputable def n46_20 : Code := sub [true, true, false, true, false, false, true, true] (bodyOf Try.f46)
noncomputable def q46_20 : List Oper := ops [true, true, false, true, false, false, true, true] Try.f46
noncomputable def n46_21 : Code := sub [true, true, true] (bodyOf Try.f46)
noncomputable def n46_22 : Code := sub [true, true, true, false] (bodyOf Try.f46)
noncomputable def n46_23 : Code := sub [true, true, true, false, false] (bodyOf Try.f46)
noncomputable def q46_23 : List Oper := ops [true, true, true, false, false] Try.f46
noncomputable def n46_24 : Code := sub [true, true, true, false, true] (bodyOf Try.f46)
noncomputable def n46_25 : Code := sub [true, true, true, false, true, false] (bodyOf Try.f46)
noncomputable def n46_26 : Code := sub [true, true, true, false, true, false, false] (bodyOf Try.f46)
noncomputable def n46_27 : Code := sub [true, true, true, false, true, false, false, false] (bodyOf Try.f46)
noncomputable def n46_28 : Code := sub [true, true, true, false, true, false, false, false, false] (bodyOf Try.f46)
noncomputable def q46_28 : List Oper := ops [true, true, true, false, true, false, false, false, false] Try.f46
noncomputable def n46_29 : Code := sub [true, true, true, false, true, false, false, false, true] (bodyOf Try.f46)
noncomputable def n46_30 : Code := sub [true, true, true, false, true, false, false, false, true, false] (bodyOf Try.f46)
noncomputable def n46_31 : Code := sub [true, true, true, false, true, false, false, false, true, true] (bodyOf Try.f46)
noncomputable def n46_32 : Code := sub [true, true, true, false, true, false, false, true] (bodyOf Try.f46)
noncomputable def n46_33 : Code := sub [true, true, true, false, true, false, false, true, false] (bodyOf Try.f46)
noncomputable def n46_34 : Code := sub [true, true, true, false, true, false, false, true, false, false] (bodyOf Try.f46)
noncomputable def n46_35 : Code := sub [true, true, true, false, true, false, false, true, false, false, false] (bodyOf Try.f46)
noncomputable def q46_35 : List Oper := ops [true, true, true, false, true, false, false, true, false, false, false] Try.f46
noncomputable def n46_36 : Code := sub [true, true, true, false, true, false, false, true, false, false, true] (bodyOf Try.f46)
noncomputable def q46_36 : List Oper := ops [true, true, true, false, true, false, false, true, false, false, true] Try.f46
noncomputable def n46_37 : Code := sub [true, true, true, false, true, false, false, true, true] (bodyOf Try.f46)
noncomputable def q46_37 : List Oper := ops [true, true, true, false, true, false, false, true, true] Try.f46
noncomputable def n46_38 : Code := sub [true, true, true, true] (bodyOf Try.f46)
noncomputable def n46_39 : Code := sub [true, true, true, true, false] (bodyOf Try.f46)
noncomputable def q46_39 : List Oper := ops [true, true, true, true, false] Try.f46
noncomputable def n46_40 : Code := sub [true, true, true, true, true] (bodyOf Try.f46)
theorem body46 : Try.f46.body = some n46_0 := by kernel_rfl
theorem run46 (E : Ev) (args : List Value) (h : List Blk) (hl : args.length ≤ 100) : runB Try.prog E 46 args h = endS Try.prog [.tmp 4] h.length (codeB Try.prog E ⟨46, 100, h.length, none⟩ n46_0 ⟨enumT 0 args, h, []⟩) := GE.run_step Try.func46 body46 (by kernel_rfl) (by decide) (by kernel_rfl) hl
theorem n46_1s (E : Ev) (f : FuncId) (b : Nat) (ro : Option Nat) (st : St) : codeB Try.prog E ⟨f, 100, b, ro⟩ n46_1 st = plainS (runOps Try.prog E b q46_1 (ops [false] Try.f46) st) := GE.region_step (id := 0) (by kernel_rfl) (by kernel_rfl)
theorem n46_3s (E : Ev) (f : FuncId) (b : Nat) (ro : Option Nat) (st : St) : codeB Try.prog E ⟨f, 100, b, ro⟩ n46_3 st = plainS (runOps Try.prog E b q46_3 (ops [true, false] Try.f46) st) := GE.region_step (id := 1) (by kernel_rfl) (by kernel_rfl)
theorem n46_6s (E : Ev) (f : FuncId) (b : Nat) (ro : Option Nat) (st : St) : codeB Try.prog E ⟨f, 100, b, ro⟩ n46_6 st = plainS (runOps Try.prog E b q46_6 (ops [true, true, false, false] Try.f46) st) := GE.region_step (id := 2) (by kernel_rfl) (by kernel_rfl)
theorem n46_11s (E : Ev) (f : FuncId) (b : Nat) (ro : Option Nat) (st : St) : codeB Try.prog E ⟨f, 100, b, ro⟩ n46_11 st = plainS (runOps Try.prog E b q46_11 (ops [true, true, false, true, false, false, false, false] Try.f46) st) := GE.region_step (id := 3) (by kernel_rfl) (by kernel_rfl)
theorem n46_13s (E : Ev) (cx : Cx) (st : St) : codeB Try.prog E cx n46_13 st = some (.normal, st) := GE.skip_step (by kernel_rfl)
theorem n46_14s (E : Ev) (cx : Cx) (st : St) : codeB Try.prog E cx n46_14 st = some (.exit 0, st) := GE.exit_step (by kernel_rfl)
theorem n46_12s (E : Ev) (cx : Cx) (st : St) : codeB Try.prog E cx n46_12 st = condS (codeB Try.prog E cx n46_13) (codeB Try.prog E cx n46_14) (lk st.σ 16) st := GE.cond_step (c := .tmp 16) (by kernel_rfl)
theorem n46_10s (E : Ev) (cx : Cx) (st : St) : codeB Try.prog E cx n46_10 st = thenS (codeB Try.prog E cx n46_11 st) (codeB Try.prog E cx n46_12) := GE.seq_step (by kernel_rfl)
theorem n46_18s (E : Ev) (f : FuncId) (b : Nat) (ro : Option Nat) (st : St) : codeB Try.prog E ⟨f, 100, b, ro⟩ n46_18 st = drawS [0, 0, 0, 0, 8, 30, 0, 0, 128, 0, 512, 2046, 4094, 8191, 16383] (runOpsF Try.prog E b q46_18 (ops [true, true, false, true, false, false, true, false, false, false] Try.f46) st) := GE.draw_step (id := 5) (by kernel_rfl) (by kernel_rfl) (by kernel_rfl) (by kernel_rfl)
theorem n46_19s (E : Ev) (f : FuncId) (b : Nat) (ro : Option Nat) (st : St) : codeB Try.prog E ⟨f, 100, b, ro⟩ n46_19 st = drawS [0, 0, 0, 4, 0, 16, 0, 64, 240, 510, 0, 0, 0, 4096, 0, 16384, 61440, 131070, 262142, 524287, 1048575] (runOpsF Try.prog E b q46_19 (ops [true, true, false, true, false, false, true, false, false, true] Try.f46) st) := GE.draw_step (id := 6) (by kernel_rfl) (by kernel_rfl) (by kernel_rfl) (by kernel_rfl)
theorem n46_17s (E : Ev) (cx : Cx) (st : St) : codeB Try.prog E cx n46_17 st = thenS (codeB Try.prog E cx n46_18 st) (codeB Try.prog E cx n46_19) := GE.seq_step (by kernel_rfl)
theorem n46_16s (E : Ev) (cx : Cx) (st : St) : codeB Try.prog E cx n46_16 st = blockS 1 (codeB Try.prog E cx n46_17 st) st := GE.block_step (by kernel_rfl)
theorem n46_20s (E : Ev) (f : FuncId) (b : Nat) (ro : Option Nat) (st : St) : codeB Try.prog E ⟨f, 100, b, ro⟩ n46_20 st = plainS (runOps Try.prog E b q46_20 (ops [true, true, false, true, false, false, true, true] Try.f46) st) := GE.region_step (id := 4) (by kernel_rfl) (by kernel_rfl)
theorem n46_15s (E : Ev) (cx : Cx) (st : St) : codeB Try.prog E cx n46_15 st = thenS (codeB Try.prog E cx n46_16 st) (codeB Try.prog E cx n46_20) := GE.seq_step (by kernel_rfl)
theorem n46_9s (E : Ev) (cx : Cx) (st : St) : codeB Try.prog E cx n46_9 st = thenS (codeB Try.prog E cx n46_10 st) (codeB Try.prog E cx n46_15) := GE.seq_step (by kernel_rfl)
theorem n46_8s (E : Ev) (cx : Cx) (st : St) : codeB Try.prog E cx n46_8 st = loopS (fun st' => E.code cx n46_8 st') cx.base (codeB Try.prog E cx n46_9 st) st := GE.loop_step (by kernel_rfl)
theorem n46_7s (E : Ev) (cx : Cx) (st : St) : codeB Try.prog E cx n46_7 st = blockS 0 (codeB Try.prog E cx n46_8 st) st := GE.block_step (by kernel_rfl)
theorem n46_5s (E : Ev) (cx : Cx) (st : St) : codeB Try.prog E cx n46_5 st = thenS (codeB Try.prog E cx n46_6 st) (codeB Try.prog E cx n46_7) := GE.seq_step (by kernel_rfl)
theorem n46_23s (E : Ev) (f : FuncId) (b : Nat) (ro : Option Nat) (st : St) : codeB Try.prog E ⟨f, 100, b, ro⟩ n46_23 st = plainS (runOps Try.prog E b q46_23 (ops [true, true, true, false, false] Try.f46) st) := GE.region_step (id := 7) (by kernel_rfl) (by kernel_rfl)
theorem n46_28s (E : Ev) (f : FuncId) (b : Nat) (ro : Option Nat) (st : St) : codeB Try.prog E ⟨f, 100, b, ro⟩ n46_28 st = plainS (runOps Try.prog E b q46_28 (ops [true, true, true, false, true, false, false, false, false] Try.f46) st) := GE.region_step (id := 8) (by kernel_rfl) (by kernel_rfl)
theorem n46_30s (E : Ev) (cx : Cx) (st : St) : codeB Try.prog E cx n46_30 st = some (.normal, st) := GE.skip_step (by kernel_rfl)
theorem n46_31s (E : Ev) (cx : Cx) (st : St) : codeB Try.prog E cx n46_31 st = some (.exit 2, st) := GE.exit_step (by kernel_rfl)
theorem n46_29s (E : Ev) (cx : Cx) (st : St) : codeB Try.prog E cx n46_29 st = condS (codeB Try.prog E cx n46_30) (codeB Try.prog E cx n46_31) (lk st.σ 61) st := GE.cond_step (c := .tmp 61) (by kernel_rfl)
theorem n46_27s (E : Ev) (cx : Cx) (st : St) : codeB Try.prog E cx n46_27 st = thenS (codeB Try.prog E cx n46_28 st) (codeB Try.prog E cx n46_29) := GE.seq_step (by kernel_rfl)
theorem n46_35s (E : Ev) (f : FuncId) (b : Nat) (ro : Option Nat) (st : St) : codeB Try.prog E ⟨f, 100, b, ro⟩ n46_35 st = drawS [0, 0, 0, 4, 0, 16, 60, 0, 254, 0, 0, 1024, 0, 4096, 15360, 0, 32768, 131070, 262142, 524287, 1048575] (runOpsF Try.prog E b q46_35 (ops [true, true, true, false, true, false, false, true, false, false, false] Try.f46) st) := GE.draw_step (id := 10) (by kernel_rfl) (by kernel_rfl) (by kernel_rfl) (by kernel_rfl)
theorem n46_36s (E : Ev) (f : FuncId) (b : Nat) (ro : Option Nat) (st : St) : codeB Try.prog E ⟨f, 100, b, ro⟩ n46_36 st = drawS [0, 0, 0, 4, 0, 16, 62, 0, 0, 256, 0, 2046, 4094, 8191, 16383] (runOpsF Try.prog E b q46_36 (ops [true, true, true, false, true, false, false, true, false, false, true] Try.f46) st) := GE.draw_step (id := 11) (by kernel_rfl) (by kernel_rfl) (by kernel_rfl) (by kernel_rfl)
theorem n46_34s (E : Ev) (cx : Cx) (st : St) : codeB Try.prog E cx n46_34 st = thenS (codeB Try.prog E cx n46_35 st) (codeB Try.prog E cx n46_36) := GE.seq_step (by kernel_rfl)
theorem n46_33s (E : Ev) (cx : Cx) (st : St) : codeB Try.prog E cx n46_33 st = blockS 3 (codeB Try.prog E cx n46_34 st) st := GE.block_step (by kernel_rfl)
theorem n46_37s (E : Ev) (f : FuncId) (b : Nat) (ro : Option Nat) (st : St) : codeB Try.prog E ⟨f, 100, b, ro⟩ n46_37 st = plainS (runOps Try.prog E b q46_37 (ops [true, true, true, false, true, false, false, true, true] Try.f46) st) := GE.region_step (id := 9) (by kernel_rfl) (by kernel_rfl)
theorem n46_32s (E : Ev) (cx : Cx) (st : St) : codeB Try.prog E cx n46_32 st = thenS (codeB Try.prog E cx n46_33 st) (codeB Try.prog E cx n46_37) := GE.seq_step (by kernel_rfl)
theorem n46_26s (E : Ev) (cx : Cx) (st : St) : codeB Try.prog E cx n46_26 st = thenS (codeB Try.prog E cx n46_27 st) (codeB Try.prog E cx n46_32) := GE.seq_step (by kernel_rfl)
theorem n46_25s (E : Ev) (cx : Cx) (st : St) : codeB Try.prog E cx n46_25 st = loopS (fun st' => E.code cx n46_25 st') cx.base (codeB Try.prog E cx n46_26 st) st := GE.loop_step (by kernel_rfl)
theorem n46_24s (E : Ev) (cx : Cx) (st : St) : codeB Try.prog E cx n46_24 st = blockS 2 (codeB Try.prog E cx n46_25 st) st := GE.block_step (by kernel_rfl)
theorem n46_22s (E : Ev) (cx : Cx) (st : St) : codeB Try.prog E cx n46_22 st = thenS (codeB Try.prog E cx n46_23 st) (codeB Try.prog E cx n46_24) := GE.seq_step (by kernel_rfl)
theorem n46_39s (E : Ev) (f : FuncId) (b : Nat) (ro : Option Nat) (st : St) : codeB Try.prog E ⟨f, 100, b, ro⟩ n46_39 st = plainS (runOps Try.prog E b q46_39 (ops [true, true, true, true, false] Try.f46) st) := GE.region_step (id := 12) (by kernel_rfl) (by kernel_rfl)
theorem n46_40s (E : Ev) (cx : Cx) (st : St) : codeB Try.prog E cx n46_40 st = some (.ret, st) := GE.ret_step (by kernel_rfl)
theorem n46_38s (E : Ev) (cx : Cx) (st : St) : codeB Try.prog E cx n46_38 st = thenS (codeB Try.prog E cx n46_39 st) (codeB Try.prog E cx n46_40) := GE.seq_step (by kernel_rfl)
theorem n46_21s (E : Ev) (cx : Cx) (st : St) : codeB Try.prog E cx n46_21 st = thenS (codeB Try.prog E cx n46_22 st) (codeB Try.prog E cx n46_38) := GE.seq_step (by kernel_rfl)
theorem n46_4s (E : Ev) (cx : Cx) (st : St) : codeB Try.prog E cx n46_4 st = thenS (codeB Try.prog E cx n46_5 st) (codeB Try.prog E cx n46_21) := GE.seq_step (by kernel_rfl)
theorem n46_2s (E : Ev) (cx : Cx) (st : St) : codeB Try.prog E cx n46_2 st = thenS (codeB Try.prog E cx n46_3 st) (codeB Try.prog E cx n46_4) := GE.seq_step (by kernel_rfl)
theorem n46_0s (E : Ev) (cx : Cx) (st : St) : codeB Try.prog E cx n46_0 st = thenS (codeB Try.prog E cx n46_1 st) (codeB Try.prog E cx n46_2) := GE.seq_step (by kernel_rfl)
noncomputable def n20_0 : Code := sub [] (bodyOf Try.f20)
noncomputable def n20_1 : Code := sub [false] (bodyOf Try.f20)
noncomputable def q20_1 : List Oper := ops [false] Try.f20
noncomputable def n20_2 : Code := sub [true] (bodyOf Try.f20)
noncomputable def n20_3 : Code := sub [true, false] (bodyOf Try.f20)
noncomputable def q20_3 : List Oper := ops [true, false] Try.f20
noncomputable def n20_4 : Code := sub [true, true] (bodyOf Try.f20)
noncomputable def n20_5 : Code := sub [true, true, false] (bodyOf Try.f20)
noncomputable def n20_6 : Code := sub [true, true, false, false] (bodyOf Try.f20)
noncomputable def n20_7 : Code := sub [true, true, false, false, false] (bodyOf Try.f20)
noncomputable def q20_7 : List Oper := ops [true, true, false, false, false] Try.f20
noncomputable def n20_8 : Code := sub [true, true, false, false, true] (bodyOf Try.f20)
noncomputable def n20_9 : Code := sub [true, true, false, false, true, false] (bodyOf Try.f20)
noncomputable def n20_10 : Code := sub [true, true, false, false, true, false, false] (bodyOf Try.f20)
noncomputable def q20_10 : List Oper := ops [true, true, false, false, true, false, false] Try.f20
noncomputable def n20_11 : Code := sub [true, true, false, false, true, false, true] (bodyOf Try.f20)
noncomputable def n20_12 : Code := sub [true, true, false, false, true, true] (bodyOf Try.f20)
noncomputable def n20_13 : Code := sub [true, true, false, false, true, true, false] (bodyOf Try.f20)
noncomputable def q20_13 : List Oper := ops [true, true, false, false, true, true, false] Try.f20
noncomputable def n20_14 : Code := sub [true, true, false, false, true, true, true] (bodyOf Try.f20)
noncomputable def n20_15 : Code := sub [true, true, false, false, true, true, true, false] (bodyOf Try.f20)
noncomputable def n20_16 : Code := sub [true, true, false, false, true, true, true, false, false] (bodyOf Try.f20)
noncomputable def q20_16 : List Oper := ops [true, true, false, false, true, true, true, false, false] Try.f20
noncomputable def n20_17 : Code := sub [true, true, false, false, true, true, true, false, true] (bodyOf Try.f20)
noncomputable def n20_18 : Code := sub [true, true, false, false, true, true, true, true] (bodyOf Try.f20)
noncomputable def n20_19 : Code := sub [true, true, true] (bodyOf Try.f20)
noncomputable def n20_20 : Code := sub [true, true, true, false] (bodyOf Try.f20)
noncomputable def q20_20 : List Oper := ops [true, true, true, false] Try.f20
noncomputable def n20_21 : Code := sub [true, true, true, true] (bodyOf Try.f20)
theorem body20 : Try.f20.body = some n20_0 := by kernel_rfl
theorem run20 (E : Ev) (args : List Value) (h : List Blk) (hl : args.length ≤ 21) : runB Try.prog E 20 args h = endS Try.prog [.tmp 4, .tmp 5] h.length (codeB Try.prog E ⟨20, 21, h.length, none⟩ n20_0 ⟨enumT 0 args, h, []⟩) := GE.run_step Try.func20 body20 (by kernel_rfl) (by decide) (by kernel_rfl) hl
theorem n20_1s (E : Ev) (f : FuncId) (b : Nat) (ro : Option Nat) (st : St) : codeB Try.prog E ⟨f, 21, b, ro⟩ n20_1 st = plainS (runOps Try.prog E b q20_1 (ops [false] Try.f20) st) := GE.region_step (id := 0) (by kernel_rfl) (by kernel_rfl)
theorem n20_3s (E : Ev) (f : FuncId) (b : Nat) (ro : Option Nat) (st : St) : codeB Try.prog E ⟨f, 21, b, ro⟩ n20_3 st = plainS (runOps Try.prog E b q20_3 (ops [true, false] Try.f20) st) := GE.region_step (id := 1) (by kernel_rfl) (by kernel_rfl)
theorem n20_7s (E : Ev) (f : FuncId) (b : Nat) (ro : Option Nat) (st : St) : codeB Try.prog E ⟨f, 21, b, ro⟩ n20_7 st = plainS (runOps Try.prog E b q20_7 (ops [true, true, false, false, false] Try.f20) st) := GE.region_step (id := 2) (by kernel_rfl) (by kernel_rfl)
theorem n20_10s (E : Ev) (f : FuncId) (b : Nat) (ro : Option Nat) (st : St) : codeB Try.prog E ⟨f, 21, b, ro⟩ n20_10 st = plainS (runOps Try.prog E b q20_10 (ops [true, true, false, false, true, false, false] Try.f20) st) := GE.region_step (id := 3) (by kernel_rfl) (by kernel_rfl)
theorem n20_11s (E : Ev) (cx : Cx) (st : St) : codeB Try.prog E cx n20_11 st = some (.ret, st) := GE.ret_step (by kernel_rfl)
theorem n20_9s (E : Ev) (cx : Cx) (st : St) : codeB Try.prog E cx n20_9 st = thenS (codeB Try.prog E cx n20_10 st) (codeB Try.prog E cx n20_11) := GE.seq_step (by kernel_rfl)
theorem n20_13s (E : Ev) (f : FuncId) (b : Nat) (ro : Option Nat) (st : St) : codeB Try.prog E ⟨f, 21, b, ro⟩ n20_13 st = plainS (runOps Try.prog E b q20_13 (ops [true, true, false, false, true, true, false] Try.f20) st) := GE.region_step (id := 4) (by kernel_rfl) (by kernel_rfl)
theorem n20_16s (E : Ev) (f : FuncId) (b : Nat) (ro : Option Nat) (st : St) : codeB Try.prog E ⟨f, 21, b, ro⟩ n20_16 st = plainS (runOps Try.prog E b q20_16 (ops [true, true, false, false, true, true, true, false, false] Try.f20) st) := GE.region_step (id := 5) (by kernel_rfl) (by kernel_rfl)
theorem n20_17s (E : Ev) (cx : Cx) (st : St) : codeB Try.prog E cx n20_17 st = some (.ret, st) := GE.ret_step (by kernel_rfl)
theorem n20_15s (E : Ev) (cx : Cx) (st : St) : codeB Try.prog E cx n20_15 st = thenS (codeB Try.prog E cx n20_16 st) (codeB Try.prog E cx n20_17) := GE.seq_step (by kernel_rfl)
theorem n20_18s (E : Ev) (cx : Cx) (st : St) : codeB Try.prog E cx n20_18 st = some (.normal, st) := GE.skip_step (by kernel_rfl)
theorem n20_14s (E : Ev) (cx : Cx) (st : St) : codeB Try.prog E cx n20_14 st = condS (codeB Try.prog E cx n20_15) (codeB Try.prog E cx n20_18) (lk st.σ 13) st := GE.cond_step (c := .tmp 13) (by kernel_rfl)
theorem n20_12s (E : Ev) (cx : Cx) (st : St) : codeB Try.prog E cx n20_12 st = thenS (codeB Try.prog E cx n20_13 st) (codeB Try.prog E cx n20_14) := GE.seq_step (by kernel_rfl)
theorem n20_8s (E : Ev) (cx : Cx) (st : St) : codeB Try.prog E cx n20_8 st = condS (codeB Try.prog E cx n20_9) (codeB Try.prog E cx n20_12) (lk st.σ 9) st := GE.cond_step (c := .tmp 9) (by kernel_rfl)
theorem n20_6s (E : Ev) (cx : Cx) (st : St) : codeB Try.prog E cx n20_6 st = thenS (codeB Try.prog E cx n20_7 st) (codeB Try.prog E cx n20_8) := GE.seq_step (by kernel_rfl)
theorem n20_5s (E : Ev) (cx : Cx) (st : St) : codeB Try.prog E cx n20_5 st = blockS 0 (codeB Try.prog E cx n20_6 st) st := GE.block_step (by kernel_rfl)
theorem n20_20s (E : Ev) (f : FuncId) (b : Nat) (ro : Option Nat) (st : St) : codeB Try.prog E ⟨f, 21, b, ro⟩ n20_20 st = plainS (runOps Try.prog E b q20_20 (ops [true, true, true, false] Try.f20) st) := GE.region_step (id := 6) (by kernel_rfl) (by kernel_rfl)
theorem n20_21s (E : Ev) (cx : Cx) (st : St) : codeB Try.prog E cx n20_21 st = some (.ret, st) := GE.ret_step (by kernel_rfl)
theorem n20_19s (E : Ev) (cx : Cx) (st : St) : codeB Try.prog E cx n20_19 st = thenS (codeB Try.prog E cx n20_20 st) (codeB Try.prog E cx n20_21) := GE.seq_step (by kernel_rfl)
theorem n20_4s (E : Ev) (cx : Cx) (st : St) : codeB Try.prog E cx n20_4 st = thenS (codeB Try.prog E cx n20_5 st) (codeB Try.prog E cx n20_19) := GE.seq_step (by kernel_rfl)
theorem n20_2s (E : Ev) (cx : Cx) (st : St) : codeB Try.prog E cx n20_2 st = thenS (codeB Try.prog E cx n20_3 st) (codeB Try.prog E cx n20_4) := GE.seq_step (by kernel_rfl)
theorem n20_0s (E : Ev) (cx : Cx) (st : St) : codeB Try.prog E cx n20_0 st = thenS (codeB Try.prog E cx n20_1 st) (codeB Try.prog E cx n20_2) := GE.seq_step (by kernel_rfl)
noncomputable def n21_0 : Code := sub [] (bodyOf Try.f21)
noncomputable def n21_1 : Code := sub [false] (bodyOf Try.f21)
noncomputable def q21_1 : List Oper := ops [false] Try.f21
noncomputable def n21_2 : Code := sub [true] (bodyOf Try.f21)
noncomputable def n21_3 : Code := sub [true, false] (bodyOf Try.f21)
noncomputable def q21_3 : List Oper := ops [true, false] Try.f21
noncomputable def n21_4 : Code := sub [true, true] (bodyOf Try.f21)
noncomputable def n21_5 : Code := sub [true, true, false] (bodyOf Try.f21)
noncomputable def n21_6 : Code := sub [true, true, false, false] (bodyOf Try.f21)
noncomputable def q21_6 : List Oper := ops [true, true, false, false] Try.f21
noncomputable def n21_7 : Code := sub [true, true, false, true] (bodyOf Try.f21)
noncomputable def n21_8 : Code := sub [true, true, false, true, false] (bodyOf Try.f21)
noncomputable def q21_8 : List Oper := ops [true, true, false, true, false] Try.f21
noncomputable def n21_9 : Code := sub [true, true, false, true, true] (bodyOf Try.f21)
noncomputable def n21_10 : Code := sub [true, true, true] (bodyOf Try.f21)
noncomputable def n21_11 : Code := sub [true, true, true, false] (bodyOf Try.f21)
noncomputable def n21_12 : Code := sub [true, true, true, false, false] (bodyOf Try.f21)
noncomputable def q21_12 : List Oper := ops [true, true, true, false, false] Try.f21
noncomputable def n21_13 : Code := sub [true, true, true, false, true] (bodyOf Try.f21)
noncomputable def n21_14 : Code := sub [true, true, true, false, true, false] (bodyOf Try.f21)
noncomputable def n21_15 : Code := sub [true, true, true, false, true, false, false] (bodyOf Try.f21)
noncomputable def q21_15 : List Oper := ops [true, true, true, false, true, false, false] Try.f21
noncomputable def n21_16 : Code := sub [true, true, true, false, true, false, true] (bodyOf Try.f21)
noncomputable def n21_17 : Code := sub [true, true, true, false, true, true] (bodyOf Try.f21)
noncomputable def n21_18 : Code := sub [true, true, true, true] (bodyOf Try.f21)
noncomputable def n21_19 : Code := sub [true, true, true, true, false] (bodyOf Try.f21)
noncomputable def q21_19 : List Oper := ops [true, true, true, true, false] Try.f21
noncomputable def n21_20 : Code := sub [true, true, true, true, true] (bodyOf Try.f21)
theorem body21 : Try.f21.body = some n21_0 := by kernel_rfl
theorem run21 (E : Ev) (args : List Value) (h : List Blk) (hl : args.length ≤ 23) : runB Try.prog E 21 args h = endS Try.prog [.tmp 4, .tmp 5] h.length (codeB Try.prog E ⟨21, 23, h.length, none⟩ n21_0 ⟨enumT 0 args, h, []⟩) := GE.run_step Try.func21 body21 (by kernel_rfl) (by decide) (by kernel_rfl) hl
theorem n21_1s (E : Ev) (f : FuncId) (b : Nat) (ro : Option Nat) (st : St) : codeB Try.prog E ⟨f, 23, b, ro⟩ n21_1 st = plainS (runOps Try.prog E b q21_1 (ops [false] Try.f21) st) := GE.region_step (id := 0) (by kernel_rfl) (by kernel_rfl)
theorem n21_3s (E : Ev) (f : FuncId) (b : Nat) (ro : Option Nat) (st : St) : codeB Try.prog E ⟨f, 23, b, ro⟩ n21_3 st = plainS (runOps Try.prog E b q21_3 (ops [true, false] Try.f21) st) := GE.region_step (id := 1) (by kernel_rfl) (by kernel_rfl)
theorem q21_6g2 : gd q21_6 2 = some 11 := by kernel_rfl
theorem n21_6s (E : Ev) (f : FuncId) (b : Nat) (ro : Option Nat) (st : St) : codeB Try.prog E ⟨f, 23, b, ro⟩ n21_6 st = plainS (runOps Try.prog E b q21_6 (ops [true, true, false, false] Try.f21) st) := GE.region_step (id := 2) (by kernel_rfl) (by kernel_rfl)
theorem n21_8s (E : Ev) (f : FuncId) (b : Nat) (ro : Option Nat) (st : St) : codeB Try.prog E ⟨f, 23, b, ro⟩ n21_8 st = plainS (runOps Try.prog E b q21_8 (ops [true, true, false, true, false] Try.f21) st) := GE.region_step (id := 3) (by kernel_rfl) (by kernel_rfl)
theorem n21_9s (E : Ev) (cx : Cx) (st : St) : codeB Try.prog E cx n21_9 st = some (.normal, st) := GE.skip_step (by kernel_rfl)
theorem n21_7s (E : Ev) (cx : Cx) (st : St) : codeB Try.prog E cx n21_7 st = condS (codeB Try.prog E cx n21_8) (codeB Try.prog E cx n21_9) (lk st.σ 16) st := GE.cond_step (c := .tmp 16) (by kernel_rfl)
theorem n21_5s (E : Ev) (cx : Cx) (st : St) : codeB Try.prog E cx n21_5 st = thenS (codeB Try.prog E cx n21_6 st) (codeB Try.prog E cx n21_7) := GE.seq_step (by kernel_rfl)
theorem n21_12s (E : Ev) (f : FuncId) (b : Nat) (ro : Option Nat) (st : St) : codeB Try.prog E ⟨f, 23, b, ro⟩ n21_12 st = plainS (runOps Try.prog E b q21_12 (ops [true, true, true, false, false] Try.f21) st) := GE.region_step (id := 4) (by kernel_rfl) (by kernel_rfl)
theorem n21_15s (E : Ev) (f : FuncId) (b : Nat) (ro : Option Nat) (st : St) : codeB Try.prog E ⟨f, 23, b, ro⟩ n21_15 st = plainS (runOps Try.prog E b q21_15 (ops [true, true, true, false, true, false, false] Try.f21) st) := GE.region_step (id := 5) (by kernel_rfl) (by kernel_rfl)
theorem n21_16s (E : Ev) (cx : Cx) (st : St) : codeB Try.prog E cx n21_16 st = some (.ret, st) := GE.ret_step (by kernel_rfl)
theorem n21_14s (E : Ev) (cx : Cx) (st : St) : codeB Try.prog E cx n21_14 st = thenS (codeB Try.prog E cx n21_15 st) (codeB Try.prog E cx n21_16) := GE.seq_step (by kernel_rfl)
theorem n21_17s (E : Ev) (cx : Cx) (st : St) : codeB Try.prog E cx n21_17 st = some (.normal, st) := GE.skip_step (by kernel_rfl)
theorem n21_13s (E : Ev) (cx : Cx) (st : St) : codeB Try.prog E cx n21_13 st = condS (codeB Try.prog E cx n21_14) (codeB Try.prog E cx n21_17) (lk st.σ 18) st := GE.cond_step (c := .tmp 18) (by kernel_rfl)
theorem n21_11s (E : Ev) (cx : Cx) (st : St) : codeB Try.prog E cx n21_11 st = thenS (codeB Try.prog E cx n21_12 st) (codeB Try.prog E cx n21_13) := GE.seq_step (by kernel_rfl)
theorem n21_19s (E : Ev) (f : FuncId) (b : Nat) (ro : Option Nat) (st : St) : codeB Try.prog E ⟨f, 23, b, ro⟩ n21_19 st = plainS (runOps Try.prog E b q21_19 (ops [true, true, true, true, false] Try.f21) st) := GE.region_step (id := 6) (by kernel_rfl) (by kernel_rfl)
theorem n21_20s (E : Ev) (cx : Cx) (st : St) : codeB Try.prog E cx n21_20 st = some (.ret, st) := GE.ret_step (by kernel_rfl)
theorem n21_18s (E : Ev) (cx : Cx) (st : St) : codeB Try.prog E cx n21_18 st = thenS (codeB Try.prog E cx n21_19 st) (codeB Try.prog E cx n21_20) := GE.seq_step (by kernel_rfl)
theorem n21_10s (E : Ev) (cx : Cx) (st : St) : codeB Try.prog E cx n21_10 st = thenS (codeB Try.prog E cx n21_11 st) (codeB Try.prog E cx n21_18) := GE.seq_step (by kernel_rfl)
theorem n21_4s (E : Ev) (cx : Cx) (st : St) : codeB Try.prog E cx n21_4 st = thenS (codeB Try.prog E cx n21_5 st) (codeB Try.prog E cx n21_10) := GE.seq_step (by kernel_rfl)
theorem n21_2s (E : Ev) (cx : Cx) (st : St) : codeB Try.prog E cx n21_2 st = thenS (codeB Try.prog E cx n21_3 st) (codeB Try.prog E cx n21_4) := GE.seq_step (by kernel_rfl)
theorem n21_0s (E : Ev) (cx : Cx) (st : St) : codeB Try.prog E cx n21_0 st = thenS (codeB Try.prog E cx n21_1 st) (codeB Try.prog E cx n21_2) := GE.seq_step (by kernel_rfl)
noncomputable def n22_0 : Code := sub [] (bodyOf Try.f22)
noncomputable def n22_1 : Code := sub [false] (bodyOf Try.f22)
noncomputable def q22_1 : List Oper := ops [false] Try.f22
noncomputable def n22_2 : Code := sub [true] (bodyOf Try.f22)
noncomputable def n22_3 : Code := sub [true, false] (bodyOf Try.f22)
noncomputable def n22_4 : Code := sub [true, false, false] (bodyOf Try.f22)
noncomputable def q22_4 : List Oper := ops [true, false, false] Try.f22
noncomputable def n22_5 : Code := sub [true, false, true] (bodyOf Try.f22)
noncomputable def n22_6 : Code := sub [true, false, true, false] (bodyOf Try.f22)
noncomputable def q22_6 : List Oper := ops [true, false, true, false] Try.f22
noncomputable def n22_7 : Code := sub [true, false, true, true] (bodyOf Try.f22)
noncomputable def n22_8 : Code := sub [true, false, true, true, false] (bodyOf Try.f22)
noncomputable def n22_9 : Code := sub [true, false, true, true, false, false] (bodyOf Try.f22)
noncomputable def q22_9 : List Oper := ops [true, false, true, true, false, false] Try.f22
noncomputable def n22_10 : Code := sub [true, false, true, true, false, true] (bodyOf Try.f22)
noncomputable def n22_11 : Code := sub [true, false, true, true, true] (bodyOf Try.f22)
noncomputable def n22_12 : Code := sub [true, true] (bodyOf Try.f22)
noncomputable def n22_13 : Code := sub [true, true, false] (bodyOf Try.f22)
noncomputable def q22_13 : List Oper := ops [true, true, false] Try.f22
noncomputable def n22_14 : Code := sub [true, true, true] (bodyOf Try.f22)
noncomputable def n22_15 : Code := sub [true, true, true, false] (bodyOf Try.f22)
noncomputable def q22_15 : List Oper := ops [true, true, true, false] Try.f22
noncomputable def n22_16 : Code := sub [true, true, true, true] (bodyOf Try.f22)
noncomputable def n22_17 : Code := sub [true, true, true, true, false] (bodyOf Try.f22)
noncomputable def n22_18 : Code := sub [true, true, true, true, false, false] (bodyOf Try.f22)
noncomputable def q22_18 : List Oper := ops [true, true, true, true, false, false] Try.f22
noncomputable def n22_19 : Code := sub [true, true, true, true, false, true] (bodyOf Try.f22)
noncomputable def n22_20 : Code := sub [true, true, true, true, false, true, false] (bodyOf Try.f22)
noncomputable def n22_21 : Code := sub [true, true, true, true, false, true, false, false] (bodyOf Try.f22)
noncomputable def n22_22 : Code := sub [true, true, true, true, false, true, false, false, false] (bodyOf Try.f22)
noncomputable def q22_22 : List Oper := ops [true, true, true, true, false, true, false, false, false] Try.f22
noncomputable def n22_23 : Code := sub [true, true, true, true, false, true, false, false, true] (bodyOf Try.f22)
noncomputable def n22_24 : Code := sub [true, true, true, true, false, true, false, false, true, false] (bodyOf Try.f22)
noncomputable def n22_25 : Code := sub [true, true, true, true, false, true, false, false, true, false, false] (bodyOf Try.f22)
noncomputable def n22_26 : Code := sub [true, true, true, true, false, true, false, false, true, false, true] (bodyOf Try.f22)
noncomputable def n22_27 : Code := sub [true, true, true, true, false, true, false, false, true, true] (bodyOf Try.f22)
noncomputable def n22_28 : Code := sub [true, true, true, true, false, true, false, false, true, true, false] (bodyOf Try.f22)
noncomputable def n22_29 : Code := sub [true, true, true, true, false, true, false, false, true, true, false, false] (bodyOf Try.f22)
noncomputable def n22_30 : Code := sub [true, true, true, true, false, true, false, false, true, true, false, false, false] (bodyOf Try.f22)
noncomputable def q22_30 : List Oper := ops [true, true, true, true, false, true, false, false, true, true, false, false, false] Try.f22
noncomputable def n22_31 : Code := sub [true, true, true, true, false, true, false, false, true, true, false, false, true] (bodyOf Try.f22)
noncomputable def n22_32 : Code := sub [true, true, true, true, false, true, false, false, true, true, false, false, true, false] (bodyOf Try.f22)
noncomputable def q22_32 : List Oper := ops [true, true, true, true, false, true, false, false, true, true, false, false, true, false] Try.f22
noncomputable def n22_33 : Code := sub [true, true, true, true, false, true, false, false, true, true, false, false, true, true] (bodyOf Try.f22)
noncomputable def n22_34 : Code := sub [true, true, true, true, false, true, false, false, true, true, false, false, true, true, false] (bodyOf Try.f22)
noncomputable def n22_35 : Code := sub [true, true, true, true, false, true, false, false, true, true, false, false, true, true, false, false] (bodyOf Try.f22)
noncomputable def n22_36 : Code := sub [true, true, true, true, false, true, false, false, true, true, false, false, true, true, false, false, false] (bodyOf Try.f22)
noncomputable def q22_36 : List Oper := ops [true, true, true, true, false, true, false, false, true, true, false, false, true, true, false, false, false] Try.f22
noncomputable def n22_37 : Code := sub [true, true, true, true, false, true, false, false, true, true, false, false, true, true, false, false, true] (bodyOf Try.f22)
noncomputable def n22_38 : Code := sub [true, true, true, true, false, true, false, false, true, true, false, false, true, true, false, false, true, false] (bodyOf Try.f22)
noncomputable def n22_39 : Code := sub [true, true, true, true, false, true, false, false, true, true, false, false, true, true, false, false, true, false, false] (bodyOf Try.f22)
noncomputable def n22_40 : Code := sub [true, true, true, true, false, true, false, false, true, true, false, false, true, true, false, false, true, false, true] (bodyOf Try.f22)
noncomputable def n22_41 : Code := sub [true, true, true, true, false, true, false, false, true, true, false, false, true, true, false, false, true, true] (bodyOf Try.f22)
noncomputable def n22_42 : Code := sub [true, true, true, true, false, true, false, false, true, true, false, false, true, true, false, false, true, true, false] (bodyOf Try.f22)
noncomputable def n22_43 : Code := sub [true, true, true, true, false, true, false, false, true, true, false, false, true, true, false, false, true, true, false, false] (bodyOf Try.f22)
noncomputable def n22_44 : Code := sub [true, true, true, true, false, true, false, false, true, true, false, false, true, true, false, false, true, true, false, false, false] (bodyOf Try.f22)
noncomputable def q22_44 : List Oper := ops [true, true, true, true, false, true, false, false, true, true, false, false, true, true, false, false, true, true, false, false, false] Try.f22
noncomputable def n22_45 : Code := sub [true, true, true, true, false, true, false, false, true, true, false, false, true, true, false, false, true, true, false, false, true] (bodyOf Try.f22)
noncomputable def n22_46 : Code := sub [true, true, true, true, false, true, false, false, true, true, false, false, true, true, false, false, true, true, false, false, true, false] (bodyOf Try.f22)
noncomputable def q22_46 : List Oper := ops [true, true, true, true, false, true, false, false, true, true, false, false, true, true, false, false, true, true, false, false, true, false] Try.f22
noncomputable def n22_47 : Code := sub [true, true, true, true, false, true, false, false, true, true, false, false, true, true, false, false, true, true, false, false, true, true] (bodyOf Try.f22)
noncomputable def n22_48 : Code := sub [true, true, true, true, false, true, false, false, true, true, false, false, true, true, false, false, true, true, false, false, true, true, false] (bodyOf Try.f22)
noncomputable def q22_48 : List Oper := ops [true, true, true, true, false, true, false, false, true, true, false, false, true, true, false, false, true, true, false, false, true, true, false] Try.f22
noncomputable def n22_49 : Code := sub [true, true, true, true, false, true, false, false, true, true, false, false, true, true, false, false, true, true, false, false, true, true, true] (bodyOf Try.f22)
noncomputable def n22_50 : Code := sub [true, true, true, true, false, true, false, false, true, true, false, false, true, true, false, false, true, true, false, false, true, true, true, false] (bodyOf Try.f22)
noncomputable def q22_50 : List Oper := ops [true, true, true, true, false, true, false, false, true, true, false, false, true, true, false, false, true, true, false, false, true, true, true, false] Try.f22
noncomputable def n22_51 : Code := sub [true, true, true, true, false, true, false, false, true, true, false, false, true, true, false, false, true, true, false, false, true, true, true, true] (bodyOf Try.f22)
noncomputable def n22_52 : Code := sub [true, true, true, true, false, true, false, false, true, true, false, false, true, true, false, false, true, true, false, false, true, true, true, true, false] (bodyOf Try.f22)
noncomputable def q22_52 : List Oper := ops [true, true, true, true, false, true, false, false, true, true, false, false, true, true, false, false, true, true, false, false, true, true, true, true, false] Try.f22
noncomputable def n22_53 : Code := sub [true, true, true, true, false, true, false, false, true, true, false, false, true, true, false, false, true, true, false, false, true, true, true, true, true] (bodyOf Try.f22)
noncomputable def n22_54 : Code := sub [true, true, true, true, false, true, false, false, true, true, false, false, true, true, false, false, true, true, true] (bodyOf Try.f22)
noncomputable def q22_54 : List Oper := ops [true, true, true, true, false, true, false, false, true, true, false, false, true, true, false, false, true, true, true] Try.f22
noncomputable def n22_55 : Code := sub [true, true, true, true, false, true, false, false, true, true, true] (bodyOf Try.f22)
noncomputable def q22_55 : List Oper := ops [true, true, true, true, false, true, false, false, true, true, true] Try.f22
noncomputable def n22_56 : Code := sub [true, true, true, true, true] (bodyOf Try.f22)
noncomputable def n22_57 : Code := sub [true, true, true, true, true, false] (bodyOf Try.f22)
noncomputable def q22_57 : List Oper := ops [true, true, true, true, true, false] Try.f22
noncomputable def n22_58 : Code := sub [true, true, true, true, true, true] (bodyOf Try.f22)
theorem body22 : Try.f22.body = some n22_0 := by kernel_rfl
theorem run22 (E : Ev) (args : List Value) (h : List Blk) (hl : args.length ≤ 49) : runB Try.prog E 22 args h = endS Try.prog [.tmp 2, .tmp 3, .tmp 4] h.length (codeB Try.prog E ⟨22, 49, h.length, none⟩ n22_0 ⟨enumT 0 args, h, []⟩) := GE.run_step Try.func22 body22 (by kernel_rfl) (by decide) (by kernel_rfl) hl
theorem n22_1s (E : Ev) (f : FuncId) (b : Nat) (ro : Option Nat) (st : St) : codeB Try.prog E ⟨f, 49, b, ro⟩ n22_1 st = plainS (runOps Try.prog E b q22_1 (ops [false] Try.f22) st) := GE.region_step (id := 0) (by kernel_rfl) (by kernel_rfl)
theorem n22_4s (E : Ev) (f : FuncId) (b : Nat) (ro : Option Nat) (st : St) : codeB Try.prog E ⟨f, 49, b, ro⟩ n22_4 st = plainS (runOps Try.prog E b q22_4 (ops [true, false, false] Try.f22) st) := GE.region_step (id := 1) (by kernel_rfl) (by kernel_rfl)
theorem n22_6s (E : Ev) (f : FuncId) (b : Nat) (ro : Option Nat) (st : St) : codeB Try.prog E ⟨f, 49, b, ro⟩ n22_6 st = plainS (runOps Try.prog E b q22_6 (ops [true, false, true, false] Try.f22) st) := GE.region_step (id := 2) (by kernel_rfl) (by kernel_rfl)
theorem n22_9s (E : Ev) (f : FuncId) (b : Nat) (ro : Option Nat) (st : St) : codeB Try.prog E ⟨f, 49, b, ro⟩ n22_9 st = plainS (runOps Try.prog E b q22_9 (ops [true, false, true, true, false, false] Try.f22) st) := GE.region_step (id := 3) (by kernel_rfl) (by kernel_rfl)
theorem n22_10s (E : Ev) (cx : Cx) (st : St) : codeB Try.prog E cx n22_10 st = some (.ret, st) := GE.ret_step (by kernel_rfl)
theorem n22_8s (E : Ev) (cx : Cx) (st : St) : codeB Try.prog E cx n22_8 st = thenS (codeB Try.prog E cx n22_9 st) (codeB Try.prog E cx n22_10) := GE.seq_step (by kernel_rfl)
theorem n22_11s (E : Ev) (cx : Cx) (st : St) : codeB Try.prog E cx n22_11 st = some (.normal, st) := GE.skip_step (by kernel_rfl)
theorem n22_7s (E : Ev) (cx : Cx) (st : St) : codeB Try.prog E cx n22_7 st = condS (codeB Try.prog E cx n22_8) (codeB Try.prog E cx n22_11) (lk st.σ 15) st := GE.cond_step (c := .tmp 15) (by kernel_rfl)
theorem n22_5s (E : Ev) (cx : Cx) (st : St) : codeB Try.prog E cx n22_5 st = thenS (codeB Try.prog E cx n22_6 st) (codeB Try.prog E cx n22_7) := GE.seq_step (by kernel_rfl)
theorem n22_3s (E : Ev) (cx : Cx) (st : St) : codeB Try.prog E cx n22_3 st = thenS (codeB Try.prog E cx n22_4 st) (codeB Try.prog E cx n22_5) := GE.seq_step (by kernel_rfl)
theorem n22_13s (E : Ev) (f : FuncId) (b : Nat) (ro : Option Nat) (st : St) : codeB Try.prog E ⟨f, 49, b, ro⟩ n22_13 st = plainS (runOps Try.prog E b q22_13 (ops [true, true, false] Try.f22) st) := GE.region_step (id := 4) (by kernel_rfl) (by kernel_rfl)
theorem n22_15s (E : Ev) (f : FuncId) (b : Nat) (ro : Option Nat) (st : St) : codeB Try.prog E ⟨f, 49, b, ro⟩ n22_15 st = plainS (runOps Try.prog E b q22_15 (ops [true, true, true, false] Try.f22) st) := GE.region_step (id := 5) (by kernel_rfl) (by kernel_rfl)
theorem n22_18s (E : Ev) (f : FuncId) (b : Nat) (ro : Option Nat) (st : St) : codeB Try.prog E ⟨f, 49, b, ro⟩ n22_18 st = plainS (runOps Try.prog E b q22_18 (ops [true, true, true, true, false, false] Try.f22) st) := GE.region_step (id := 6) (by kernel_rfl) (by kernel_rfl)
theorem n22_22s (E : Ev) (f : FuncId) (b : Nat) (ro : Option Nat) (st : St) : codeB Try.prog E ⟨f, 49, b, ro⟩ n22_22 st = plainS (runOps Try.prog E b q22_22 (ops [true, true, true, true, false, true, false, false, false] Try.f22) st) := GE.region_step (id := 7) (by kernel_rfl) (by kernel_rfl)
theorem n22_25s (E : Ev) (cx : Cx) (st : St) : codeB Try.prog E cx n22_25 st = some (.normal, st) := GE.skip_step (by kernel_rfl)
theorem n22_26s (E : Ev) (cx : Cx) (st : St) : codeB Try.prog E cx n22_26 st = some (.exit 0, st) := GE.exit_step (by kernel_rfl)
theorem n22_24s (E : Ev) (cx : Cx) (st : St) : codeB Try.prog E cx n22_24 st = condS (codeB Try.prog E cx n22_25) (codeB Try.prog E cx n22_26) (lk st.σ 21) st := GE.cond_step (c := .tmp 21) (by kernel_rfl)
theorem n22_30s (E : Ev) (f : FuncId) (b : Nat) (ro : Option Nat) (st : St) : codeB Try.prog E ⟨f, 49, b, ro⟩ n22_30 st = plainS (runOps Try.prog E b q22_30 (ops [true, true, true, true, false, true, false, false, true, true, false, false, false] Try.f22) st) := GE.region_step (id := 8) (by kernel_rfl) (by kernel_rfl)
theorem n22_32s (E : Ev) (f : FuncId) (b : Nat) (ro : Option Nat) (st : St) : codeB Try.prog E ⟨f, 49, b, ro⟩ n22_32 st = plainS (runOps Try.prog E b q22_32 (ops [true, true, true, true, false, true, false, false, true, true, false, false, true, false] Try.f22) st) := GE.region_step (id := 9) (by kernel_rfl) (by kernel_rfl)
theorem n22_36s (E : Ev) (f : FuncId) (b : Nat) (ro : Option Nat) (st : St) : codeB Try.prog E ⟨f, 49, b, ro⟩ n22_36 st = plainS (runOps Try.prog E b q22_36 (ops [true, true, true, true, false, true, false, false, true, true, false, false, true, true, false, false, false] Try.f22) st) := GE.region_step (id := 10) (by kernel_rfl) (by kernel_rfl)
theorem n22_39s (E : Ev) (cx : Cx) (st : St) : codeB Try.prog E cx n22_39 st = some (.normal, st) := GE.skip_step (by kernel_rfl)
theorem n22_40s (E : Ev) (cx : Cx) (st : St) : codeB Try.prog E cx n22_40 st = some (.exit 2, st) := GE.exit_step (by kernel_rfl)
theorem n22_38s (E : Ev) (cx : Cx) (st : St) : codeB Try.prog E cx n22_38 st = condS (codeB Try.prog E cx n22_39) (codeB Try.prog E cx n22_40) (lk st.σ 27) st := GE.cond_step (c := .tmp 27) (by kernel_rfl)
theorem n22_44s (E : Ev) (f : FuncId) (b : Nat) (ro : Option Nat) (st : St) : codeB Try.prog E ⟨f, 49, b, ro⟩ n22_44 st = plainS (runOps Try.prog E b q22_44 (ops [true, true, true, true, false, true, false, false, true, true, false, false, true, true, false, false, true, true, false, false, false] Try.f22) st) := GE.region_step (id := 11) (by kernel_rfl) (by kernel_rfl)
theorem n22_46s (E : Ev) (f : FuncId) (b : Nat) (ro : Option Nat) (st : St) : codeB Try.prog E ⟨f, 49, b, ro⟩ n22_46 st = plainS (runOps Try.prog E b q22_46 (ops [true, true, true, true, false, true, false, false, true, true, false, false, true, true, false, false, true, true, false, false, true, false] Try.f22) st) := GE.region_step (id := 12) (by kernel_rfl) (by kernel_rfl)
theorem n22_48s (E : Ev) (f : FuncId) (b : Nat) (ro : Option Nat) (st : St) : codeB Try.prog E ⟨f, 49, b, ro⟩ n22_48 st = plainS (runOps Try.prog E b q22_48 (ops [true, true, true, true, false, true, false, false, true, true, false, false, true, true, false, false, true, true, false, false, true, true, false] Try.f22) st) := GE.region_step (id := 13) (by kernel_rfl) (by kernel_rfl)
theorem n22_50s (E : Ev) (f : FuncId) (b : Nat) (ro : Option Nat) (st : St) : codeB Try.prog E ⟨f, 49, b, ro⟩ n22_50 st = plainS (runOps Try.prog E b q22_50 (ops [true, true, true, true, false, true, false, false, true, true, false, false, true, true, false, false, true, true, false, false, true, true, true, false] Try.f22) st) := GE.region_step (id := 14) (by kernel_rfl) (by kernel_rfl)
theorem n22_52s (E : Ev) (f : FuncId) (b : Nat) (ro : Option Nat) (st : St) : codeB Try.prog E ⟨f, 49, b, ro⟩ n22_52 st = plainS (runOps Try.prog E b q22_52 (ops [true, true, true, true, false, true, false, false, true, true, false, false, true, true, false, false, true, true, false, false, true, true, true, true, false] Try.f22) st) := GE.region_step (id := 15) (by kernel_rfl) (by kernel_rfl)
theorem n22_53s (E : Ev) (cx : Cx) (st : St) : codeB Try.prog E cx n22_53 st = some (.normal, st) := GE.skip_step (by kernel_rfl)
theorem n22_51s (E : Ev) (cx : Cx) (st : St) : codeB Try.prog E cx n22_51 st = condS (codeB Try.prog E cx n22_52) (codeB Try.prog E cx n22_53) (lk st.σ 36) st := GE.cond_step (c := .tmp 36) (by kernel_rfl)
theorem n22_49s (E : Ev) (cx : Cx) (st : St) : codeB Try.prog E cx n22_49 st = thenS (codeB Try.prog E cx n22_50 st) (codeB Try.prog E cx n22_51) := GE.seq_step (by kernel_rfl)
theorem n22_47s (E : Ev) (cx : Cx) (st : St) : codeB Try.prog E cx n22_47 st = thenS (codeB Try.prog E cx n22_48 st) (codeB Try.prog E cx n22_49) := GE.seq_step (by kernel_rfl)
theorem n22_45s (E : Ev) (cx : Cx) (st : St) : codeB Try.prog E cx n22_45 st = thenS (codeB Try.prog E cx n22_46 st) (codeB Try.prog E cx n22_47) := GE.seq_step (by kernel_rfl)
theorem n22_43s (E : Ev) (cx : Cx) (st : St) : codeB Try.prog E cx n22_43 st = thenS (codeB Try.prog E cx n22_44 st) (codeB Try.prog E cx n22_45) := GE.seq_step (by kernel_rfl)
theorem n22_42s (E : Ev) (cx : Cx) (st : St) : codeB Try.prog E cx n22_42 st = blockS 3 (codeB Try.prog E cx n22_43 st) st := GE.block_step (by kernel_rfl)
theorem n22_54s (E : Ev) (f : FuncId) (b : Nat) (ro : Option Nat) (st : St) : codeB Try.prog E ⟨f, 49, b, ro⟩ n22_54 st = plainS (runOps Try.prog E b q22_54 (ops [true, true, true, true, false, true, false, false, true, true, false, false, true, true, false, false, true, true, true] Try.f22) st) := GE.region_step (id := 16) (by kernel_rfl) (by kernel_rfl)
theorem n22_41s (E : Ev) (cx : Cx) (st : St) : codeB Try.prog E cx n22_41 st = thenS (codeB Try.prog E cx n22_42 st) (codeB Try.prog E cx n22_54) := GE.seq_step (by kernel_rfl)
theorem n22_37s (E : Ev) (cx : Cx) (st : St) : codeB Try.prog E cx n22_37 st = thenS (codeB Try.prog E cx n22_38 st) (codeB Try.prog E cx n22_41) := GE.seq_step (by kernel_rfl)
theorem n22_35s (E : Ev) (cx : Cx) (st : St) : codeB Try.prog E cx n22_35 st = thenS (codeB Try.prog E cx n22_36 st) (codeB Try.prog E cx n22_37) := GE.seq_step (by kernel_rfl)
theorem n22_34s (E : Ev) (cx : Cx) (st : St) : codeB Try.prog E cx n22_34 st = loopS (fun st' => E.code cx n22_34 st') cx.base (codeB Try.prog E cx n22_35 st) st := GE.loop_step (by kernel_rfl)
theorem n22_33s (E : Ev) (cx : Cx) (st : St) : codeB Try.prog E cx n22_33 st = blockS 2 (codeB Try.prog E cx n22_34 st) st := GE.block_step (by kernel_rfl)
theorem n22_31s (E : Ev) (cx : Cx) (st : St) : codeB Try.prog E cx n22_31 st = thenS (codeB Try.prog E cx n22_32 st) (codeB Try.prog E cx n22_33) := GE.seq_step (by kernel_rfl)
theorem n22_29s (E : Ev) (cx : Cx) (st : St) : codeB Try.prog E cx n22_29 st = thenS (codeB Try.prog E cx n22_30 st) (codeB Try.prog E cx n22_31) := GE.seq_step (by kernel_rfl)
theorem n22_28s (E : Ev) (cx : Cx) (st : St) : codeB Try.prog E cx n22_28 st = blockS 1 (codeB Try.prog E cx n22_29 st) st := GE.block_step (by kernel_rfl)
theorem n22_55s (E : Ev) (f : FuncId) (b : Nat) (ro : Option Nat) (st : St) : codeB Try.prog E ⟨f, 49, b, ro⟩ n22_55 st = plainS (runOps Try.prog E b q22_55 (ops [true, true, true, true, false, true, false, false, true, true, true] Try.f22) st) := GE.region_step (id := 17) (by kernel_rfl) (by kernel_rfl)
theorem n22_27s (E : Ev) (cx : Cx) (st : St) : codeB Try.prog E cx n22_27 st = thenS (codeB Try.prog E cx n22_28 st) (codeB Try.prog E cx n22_55) := GE.seq_step (by kernel_rfl)
theorem n22_23s (E : Ev) (cx : Cx) (st : St) : codeB Try.prog E cx n22_23 st = thenS (codeB Try.prog E cx n22_24 st) (codeB Try.prog E cx n22_27) := GE.seq_step (by kernel_rfl)
theorem n22_21s (E : Ev) (cx : Cx) (st : St) : codeB Try.prog E cx n22_21 st = thenS (codeB Try.prog E cx n22_22 st) (codeB Try.prog E cx n22_23) := GE.seq_step (by kernel_rfl)
theorem n22_20s (E : Ev) (cx : Cx) (st : St) : codeB Try.prog E cx n22_20 st = loopS (fun st' => E.code cx n22_20 st') cx.base (codeB Try.prog E cx n22_21 st) st := GE.loop_step (by kernel_rfl)
theorem n22_19s (E : Ev) (cx : Cx) (st : St) : codeB Try.prog E cx n22_19 st = blockS 0 (codeB Try.prog E cx n22_20 st) st := GE.block_step (by kernel_rfl)
theorem n22_17s (E : Ev) (cx : Cx) (st : St) : codeB Try.prog E cx n22_17 st = thenS (codeB Try.prog E cx n22_18 st) (codeB Try.prog E cx n22_19) := GE.seq_step (by kernel_rfl)
theorem n22_57s (E : Ev) (f : FuncId) (b : Nat) (ro : Option Nat) (st : St) : codeB Try.prog E ⟨f, 49, b, ro⟩ n22_57 st = plainS (runOps Try.prog E b q22_57 (ops [true, true, true, true, true, false] Try.f22) st) := GE.region_step (id := 18) (by kernel_rfl) (by kernel_rfl)
theorem n22_58s (E : Ev) (cx : Cx) (st : St) : codeB Try.prog E cx n22_58 st = some (.ret, st) := GE.ret_step (by kernel_rfl)
theorem n22_56s (E : Ev) (cx : Cx) (st : St) : codeB Try.prog E cx n22_56 st = thenS (codeB Try.prog E cx n22_57 st) (codeB Try.prog E cx n22_58) := GE.seq_step (by kernel_rfl)
theorem n22_16s (E : Ev) (cx : Cx) (st : St) : codeB Try.prog E cx n22_16 st = thenS (codeB Try.prog E cx n22_17 st) (codeB Try.prog E cx n22_56) := GE.seq_step (by kernel_rfl)
theorem n22_14s (E : Ev) (cx : Cx) (st : St) : codeB Try.prog E cx n22_14 st = thenS (codeB Try.prog E cx n22_15 st) (codeB Try.prog E cx n22_16) := GE.seq_step (by kernel_rfl)
theorem n22_12s (E : Ev) (cx : Cx) (st : St) : codeB Try.prog E cx n22_12 st = thenS (codeB Try.prog E cx n22_13 st) (codeB Try.prog E cx n22_14) := GE.seq_step (by kernel_rfl)
theorem n22_2s (E : Ev) (cx : Cx) (st : St) : codeB Try.prog E cx n22_2 st = thenS (codeB Try.prog E cx n22_3 st) (codeB Try.prog E cx n22_12) := GE.seq_step (by kernel_rfl)
theorem n22_0s (E : Ev) (cx : Cx) (st : St) : codeB Try.prog E cx n22_0 st = thenS (codeB Try.prog E cx n22_1 st) (codeB Try.prog E cx n22_2) := GE.seq_step (by kernel_rfl)
noncomputable def n23_0 : Code := sub [] (bodyOf Try.f23)
noncomputable def n23_1 : Code := sub [false] (bodyOf Try.f23)
noncomputable def q23_1 : List Oper := ops [false] Try.f23
noncomputable def n23_2 : Code := sub [true] (bodyOf Try.f23)
noncomputable def n23_3 : Code := sub [true, false] (bodyOf Try.f23)
noncomputable def q23_3 : List Oper := ops [true, false] Try.f23
noncomputable def n23_4 : Code := sub [true, true] (bodyOf Try.f23)
noncomputable def n23_5 : Code := sub [true, true, false] (bodyOf Try.f23)
noncomputable def n23_6 : Code := sub [true, true, false, false] (bodyOf Try.f23)
noncomputable def q23_6 : List Oper := ops [true, true, false, false] Try.f23
noncomputable def n23_7 : Code := sub [true, true, false, true] (bodyOf Try.f23)
noncomputable def n23_8 : Code := sub [true, true, false, true, false] (bodyOf Try.f23)
noncomputable def n23_9 : Code := sub [true, true, false, true, false, false] (bodyOf Try.f23)
noncomputable def q23_9 : List Oper := ops [true, true, false, true, false, false] Try.f23
noncomputable def n23_10 : Code := sub [true, true, false, true, false, true] (bodyOf Try.f23)
noncomputable def n23_11 : Code := sub [true, true, false, true, true] (bodyOf Try.f23)
noncomputable def n23_12 : Code := sub [true, true, true] (bodyOf Try.f23)
noncomputable def n23_13 : Code := sub [true, true, true, false] (bodyOf Try.f23)
noncomputable def q23_13 : List Oper := ops [true, true, true, false] Try.f23
noncomputable def n23_14 : Code := sub [true, true, true, true] (bodyOf Try.f23)
noncomputable def n23_15 : Code := sub [true, true, true, true, false] (bodyOf Try.f23)
noncomputable def q23_15 : List Oper := ops [true, true, true, true, false] Try.f23
noncomputable def n23_16 : Code := sub [true, true, true, true, true] (bodyOf Try.f23)
noncomputable def n23_17 : Code := sub [true, true, true, true, true, false] (bodyOf Try.f23)
noncomputable def n23_18 : Code := sub [true, true, true, true, true, false, false] (bodyOf Try.f23)
noncomputable def q23_18 : List Oper := ops [true, true, true, true, true, false, false] Try.f23
noncomputable def n23_19 : Code := sub [true, true, true, true, true, false, true] (bodyOf Try.f23)
noncomputable def n23_20 : Code := sub [true, true, true, true, true, false, true, false] (bodyOf Try.f23)
noncomputable def n23_21 : Code := sub [true, true, true, true, true, false, true, false, false] (bodyOf Try.f23)
noncomputable def n23_22 : Code := sub [true, true, true, true, true, false, true, false, false, false] (bodyOf Try.f23)
noncomputable def n23_23 : Code := sub [true, true, true, true, true, false, true, false, false, false, false] (bodyOf Try.f23)
noncomputable def q23_23 : List Oper := ops [true, true, true, true, true, false, true, false, false, false, false] Try.f23
noncomputable def n23_24 : Code := sub [true, true, true, true, true, false, true, false, false, false, true] (bodyOf Try.f23)
noncomputable def n23_25 : Code := sub [true, true, true, true, true, false, true, false, false, false, true, false] (bodyOf Try.f23)
noncomputable def n23_26 : Code := sub [true, true, true, true, true, false, true, false, false, false, true, true] (bodyOf Try.f23)
noncomputable def n23_27 : Code := sub [true, true, true, true, true, false, true, false, false, true] (bodyOf Try.f23)
noncomputable def n23_28 : Code := sub [true, true, true, true, true, false, true, false, false, true, false] (bodyOf Try.f23)
noncomputable def n23_29 : Code := sub [true, true, true, true, true, false, true, false, false, true, false, false] (bodyOf Try.f23)
noncomputable def n23_30 : Code := sub [true, true, true, true, true, false, true, false, false, true, false, false, false] (bodyOf Try.f23)
noncomputable def q23_30 : List Oper := ops [true, true, true, true, true, false, true, false, false, true, false, false, false] Try.f23
noncomputable def n23_31 : Code := sub [true, true, true, true, true, false, true, false, false, true, false, false, true] (bodyOf Try.f23)
noncomputable def n23_32 : Code := sub [true, true, true, true, true, false, true, false, false, true, false, false, true, false] (bodyOf Try.f23)
noncomputable def n23_33 : Code := sub [true, true, true, true, true, false, true, false, false, true, false, false, true, false, false] (bodyOf Try.f23)
noncomputable def n23_34 : Code := sub [true, true, true, true, true, false, true, false, false, true, false, false, true, false, false, false] (bodyOf Try.f23)
noncomputable def n23_35 : Code := sub [true, true, true, true, true, false, true, false, false, true, false, false, true, false, false, false, false] (bodyOf Try.f23)
noncomputable def q23_35 : List Oper := ops [true, true, true, true, true, false, true, false, false, true, false, false, true, false, false, false, false] Try.f23
noncomputable def n23_36 : Code := sub [true, true, true, true, true, false, true, false, false, true, false, false, true, false, false, false, true] (bodyOf Try.f23)
noncomputable def n23_37 : Code := sub [true, true, true, true, true, false, true, false, false, true, false, false, true, false, false, false, true, false] (bodyOf Try.f23)
noncomputable def n23_38 : Code := sub [true, true, true, true, true, false, true, false, false, true, false, false, true, false, false, false, true, true] (bodyOf Try.f23)
noncomputable def n23_39 : Code := sub [true, true, true, true, true, false, true, false, false, true, false, false, true, false, false, true] (bodyOf Try.f23)
noncomputable def n23_40 : Code := sub [true, true, true, true, true, false, true, false, false, true, false, false, true, false, false, true, false] (bodyOf Try.f23)
noncomputable def n23_41 : Code := sub [true, true, true, true, true, false, true, false, false, true, false, false, true, false, false, true, false, false] (bodyOf Try.f23)
noncomputable def n23_42 : Code := sub [true, true, true, true, true, false, true, false, false, true, false, false, true, false, false, true, false, false, false] (bodyOf Try.f23)
noncomputable def q23_42 : List Oper := ops [true, true, true, true, true, false, true, false, false, true, false, false, true, false, false, true, false, false, false] Try.f23
noncomputable def n23_43 : Code := sub [true, true, true, true, true, false, true, false, false, true, false, false, true, false, false, true, false, false, true] (bodyOf Try.f23)
noncomputable def n23_44 : Code := sub [true, true, true, true, true, false, true, false, false, true, false, false, true, false, false, true, false, false, true, false] (bodyOf Try.f23)
noncomputable def q23_44 : List Oper := ops [true, true, true, true, true, false, true, false, false, true, false, false, true, false, false, true, false, false, true, false] Try.f23
noncomputable def n23_45 : Code := sub [true, true, true, true, true, false, true, false, false, true, false, false, true, false, false, true, false, false, true, true] (bodyOf Try.f23)
noncomputable def n23_46 : Code := sub [true, true, true, true, true, false, true, false, false, true, false, false, true, false, false, true, false, false, true, true, false] (bodyOf Try.f23)
noncomputable def q23_46 : List Oper := ops [true, true, true, true, true, false, true, false, false, true, false, false, true, false, false, true, false, false, true, true, false] Try.f23
noncomputable def n23_47 : Code := sub [true, true, true, true, true, false, true, false, false, true, false, false, true, false, false, true, false, false, true, true, true] (bodyOf Try.f23)
noncomputable def n23_48 : Code := sub [true, true, true, true, true, false, true, false, false, true, false, false, true, false, false, true, true] (bodyOf Try.f23)
noncomputable def q23_48 : List Oper := ops [true, true, true, true, true, false, true, false, false, true, false, false, true, false, false, true, true] Try.f23
noncomputable def n23_49 : Code := sub [true, true, true, true, true, false, true, false, false, true, true] (bodyOf Try.f23)
noncomputable def q23_49 : List Oper := ops [true, true, true, true, true, false, true, false, false, true, true] Try.f23
noncomputable def n23_50 : Code := sub [true, true, true, true, true, true] (bodyOf Try.f23)
noncomputable def n23_51 : Code := sub [true, true, true, true, true, true, false] (bodyOf Try.f23)
noncomputable def q23_51 : List Oper := ops [true, true, true, true, true, true, false] Try.f23
noncomputable def n23_52 : Code := sub [true, true, true, true, true, true, true] (bodyOf Try.f23)
theorem body23 : Try.f23.body = some n23_0 := by kernel_rfl
theorem run23 (E : Ev) (args : List Value) (h : List Blk) (hl : args.length ≤ 49) : runB Try.prog E 23 args h = endS Try.prog [.tmp 2, .tmp 3, .tmp 4] h.length (codeB Try.prog E ⟨23, 49, h.length, none⟩ n23_0 ⟨enumT 0 args, h, []⟩) := GE.run_step Try.func23 body23 (by kernel_rfl) (by decide) (by kernel_rfl) hl
theorem n23_1s (E : Ev) (f : FuncId) (b : Nat) (ro : Option Nat) (st : St) : codeB Try.prog E ⟨f, 49, b, ro⟩ n23_1 st = plainS (runOps Try.prog E b q23_1 (ops [false] Try.f23) st) := GE.region_step (id := 0) (by kernel_rfl) (by kernel_rfl)
theorem n23_3s (E : Ev) (f : FuncId) (b : Nat) (ro : Option Nat) (st : St) : codeB Try.prog E ⟨f, 49, b, ro⟩ n23_3 st = plainS (runOps Try.prog E b q23_3 (ops [true, false] Try.f23) st) := GE.region_step (id := 1) (by kernel_rfl) (by kernel_rfl)
theorem n23_6s (E : Ev) (f : FuncId) (b : Nat) (ro : Option Nat) (st : St) : codeB Try.prog E ⟨f, 49, b, ro⟩ n23_6 st = plainS (runOps Try.prog E b q23_6 (ops [true, true, false, false] Try.f23) st) := GE.region_step (id := 2) (by kernel_rfl) (by kernel_rfl)
theorem n23_9s (E : Ev) (f : FuncId) (b : Nat) (ro : Option Nat) (st : St) : codeB Try.prog E ⟨f, 49, b, ro⟩ n23_9 st = plainS (runOps Try.prog E b q23_9 (ops [true, true, false, true, false, false] Try.f23) st) := GE.region_step (id := 3) (by kernel_rfl) (by kernel_rfl)
theorem n23_10s (E : Ev) (cx : Cx) (st : St) : codeB Try.prog E cx n23_10 st = some (.ret, st) := GE.ret_step (by kernel_rfl)
theorem n23_8s (E : Ev) (cx : Cx) (st : St) : codeB Try.prog E cx n23_8 st = thenS (codeB Try.prog E cx n23_9 st) (codeB Try.prog E cx n23_10) := GE.seq_step (by kernel_rfl)
theorem n23_11s (E : Ev) (cx : Cx) (st : St) : codeB Try.prog E cx n23_11 st = some (.normal, st) := GE.skip_step (by kernel_rfl)
theorem n23_7s (E : Ev) (cx : Cx) (st : St) : codeB Try.prog E cx n23_7 st = condS (codeB Try.prog E cx n23_8) (codeB Try.prog E cx n23_11) (lk st.σ 14) st := GE.cond_step (c := .tmp 14) (by kernel_rfl)
theorem n23_5s (E : Ev) (cx : Cx) (st : St) : codeB Try.prog E cx n23_5 st = thenS (codeB Try.prog E cx n23_6 st) (codeB Try.prog E cx n23_7) := GE.seq_step (by kernel_rfl)
theorem n23_13s (E : Ev) (f : FuncId) (b : Nat) (ro : Option Nat) (st : St) : codeB Try.prog E ⟨f, 49, b, ro⟩ n23_13 st = plainS (runOps Try.prog E b q23_13 (ops [true, true, true, false] Try.f23) st) := GE.region_step (id := 4) (by kernel_rfl) (by kernel_rfl)
theorem n23_15s (E : Ev) (f : FuncId) (b : Nat) (ro : Option Nat) (st : St) : codeB Try.prog E ⟨f, 49, b, ro⟩ n23_15 st = plainS (runOps Try.prog E b q23_15 (ops [true, true, true, true, false] Try.f23) st) := GE.region_step (id := 5) (by kernel_rfl) (by kernel_rfl)
theorem n23_18s (E : Ev) (f : FuncId) (b : Nat) (ro : Option Nat) (st : St) : codeB Try.prog E ⟨f, 49, b, ro⟩ n23_18 st = plainS (runOps Try.prog E b q23_18 (ops [true, true, true, true, true, false, false] Try.f23) st) := GE.region_step (id := 6) (by kernel_rfl) (by kernel_rfl)
theorem n23_23s (E : Ev) (f : FuncId) (b : Nat) (ro : Option Nat) (st : St) : codeB Try.prog E ⟨f, 49, b, ro⟩ n23_23 st = plainS (runOps Try.prog E b q23_23 (ops [true, true, true, true, true, false, true, false, false, false, false] Try.f23) st) := GE.region_step (id := 7) (by kernel_rfl) (by kernel_rfl)
theorem n23_25s (E : Ev) (cx : Cx) (st : St) : codeB Try.prog E cx n23_25 st = some (.normal, st) := GE.skip_step (by kernel_rfl)
theorem n23_26s (E : Ev) (cx : Cx) (st : St) : codeB Try.prog E cx n23_26 st = some (.exit 0, st) := GE.exit_step (by kernel_rfl)
theorem n23_24s (E : Ev) (cx : Cx) (st : St) : codeB Try.prog E cx n23_24 st = condS (codeB Try.prog E cx n23_25) (codeB Try.prog E cx n23_26) (lk st.σ 20) st := GE.cond_step (c := .tmp 20) (by kernel_rfl)
theorem n23_22s (E : Ev) (cx : Cx) (st : St) : codeB Try.prog E cx n23_22 st = thenS (codeB Try.prog E cx n23_23 st) (codeB Try.prog E cx n23_24) := GE.seq_step (by kernel_rfl)
theorem n23_30s (E : Ev) (f : FuncId) (b : Nat) (ro : Option Nat) (st : St) : codeB Try.prog E ⟨f, 49, b, ro⟩ n23_30 st = plainS (runOps Try.prog E b q23_30 (ops [true, true, true, true, true, false, true, false, false, true, false, false, false] Try.f23) st) := GE.region_step (id := 9) (by kernel_rfl) (by kernel_rfl)
theorem n23_35s (E : Ev) (f : FuncId) (b : Nat) (ro : Option Nat) (st : St) : codeB Try.prog E ⟨f, 49, b, ro⟩ n23_35 st = plainS (runOps Try.prog E b q23_35 (ops [true, true, true, true, true, false, true, false, false, true, false, false, true, false, false, false, false] Try.f23) st) := GE.region_step (id := 10) (by kernel_rfl) (by kernel_rfl)
theorem n23_37s (E : Ev) (cx : Cx) (st : St) : codeB Try.prog E cx n23_37 st = some (.normal, st) := GE.skip_step (by kernel_rfl)
theorem n23_38s (E : Ev) (cx : Cx) (st : St) : codeB Try.prog E cx n23_38 st = some (.exit 2, st) := GE.exit_step (by kernel_rfl)
theorem n23_36s (E : Ev) (cx : Cx) (st : St) : codeB Try.prog E cx n23_36 st = condS (codeB Try.prog E cx n23_37) (codeB Try.prog E cx n23_38) (lk st.σ 27) st := GE.cond_step (c := .tmp 27) (by kernel_rfl)
theorem n23_34s (E : Ev) (cx : Cx) (st : St) : codeB Try.prog E cx n23_34 st = thenS (codeB Try.prog E cx n23_35 st) (codeB Try.prog E cx n23_36) := GE.seq_step (by kernel_rfl)
theorem n23_42s (E : Ev) (f : FuncId) (b : Nat) (ro : Option Nat) (st : St) : codeB Try.prog E ⟨f, 49, b, ro⟩ n23_42 st = plainS (runOps Try.prog E b q23_42 (ops [true, true, true, true, true, false, true, false, false, true, false, false, true, false, false, true, false, false, false] Try.f23) st) := GE.region_step (id := 12) (by kernel_rfl) (by kernel_rfl)
theorem n23_44s (E : Ev) (f : FuncId) (b : Nat) (ro : Option Nat) (st : St) : codeB Try.prog E ⟨f, 49, b, ro⟩ n23_44 st = plainS (runOps Try.prog E b q23_44 (ops [true, true, true, true, true, false, true, false, false, true, false, false, true, false, false, true, false, false, true, false] Try.f23) st) := GE.region_step (id := 13) (by kernel_rfl) (by kernel_rfl)
theorem n23_46s (E : Ev) (f : FuncId) (b : Nat) (ro : Option Nat) (st : St) : codeB Try.prog E ⟨f, 49, b, ro⟩ n23_46 st = drawS [0, 0, 2, 7, 0, 0, 0, 111, 239, 511, 1023, 2047] (runOpsF Try.prog E b q23_46 (ops [true, true, true, true, true, false, true, false, false, true, false, false, true, false, false, true, false, false, true, true, false] Try.f23) st) := GE.draw_step (id := 14) (by kernel_rfl) (by kernel_rfl) (by kernel_rfl) (by kernel_rfl)
theorem n23_47s (E : Ev) (cx : Cx) (st : St) : codeB Try.prog E cx n23_47 st = some (.normal, st) := GE.skip_step (by kernel_rfl)
theorem n23_45s (E : Ev) (cx : Cx) (st : St) : codeB Try.prog E cx n23_45 st = condS (codeB Try.prog E cx n23_46) (codeB Try.prog E cx n23_47) (lk st.σ 36) st := GE.cond_step (c := .tmp 36) (by kernel_rfl)
theorem n23_43s (E : Ev) (cx : Cx) (st : St) : codeB Try.prog E cx n23_43 st = thenS (codeB Try.prog E cx n23_44 st) (codeB Try.prog E cx n23_45) := GE.seq_step (by kernel_rfl)
theorem n23_41s (E : Ev) (cx : Cx) (st : St) : codeB Try.prog E cx n23_41 st = thenS (codeB Try.prog E cx n23_42 st) (codeB Try.prog E cx n23_43) := GE.seq_step (by kernel_rfl)
theorem n23_40s (E : Ev) (cx : Cx) (st : St) : codeB Try.prog E cx n23_40 st = blockS 3 (codeB Try.prog E cx n23_41 st) st := GE.block_step (by kernel_rfl)
theorem n23_48s (E : Ev) (f : FuncId) (b : Nat) (ro : Option Nat) (st : St) : codeB Try.prog E ⟨f, 49, b, ro⟩ n23_48 st = plainS (runOps Try.prog E b q23_48 (ops [true, true, true, true, true, false, true, false, false, true, false, false, true, false, false, true, true] Try.f23) st) := GE.region_step (id := 11) (by kernel_rfl) (by kernel_rfl)
theorem n23_39s (E : Ev) (cx : Cx) (st : St) : codeB Try.prog E cx n23_39 st = thenS (codeB Try.prog E cx n23_40 st) (codeB Try.prog E cx n23_48) := GE.seq_step (by kernel_rfl)
theorem n23_33s (E : Ev) (cx : Cx) (st : St) : codeB Try.prog E cx n23_33 st = thenS (codeB Try.prog E cx n23_34 st) (codeB Try.prog E cx n23_39) := GE.seq_step (by kernel_rfl)
theorem n23_32s (E : Ev) (cx : Cx) (st : St) : codeB Try.prog E cx n23_32 st = loopS (fun st' => E.code cx n23_32 st') cx.base (codeB Try.prog E cx n23_33 st) st := GE.loop_step (by kernel_rfl)
theorem n23_31s (E : Ev) (cx : Cx) (st : St) : codeB Try.prog E cx n23_31 st = blockS 2 (codeB Try.prog E cx n23_32 st) st := GE.block_step (by kernel_rfl)
theorem n23_29s (E : Ev) (cx : Cx) (st : St) : codeB Try.prog E cx n23_29 st = thenS (codeB Try.prog E cx n23_30 st) (codeB Try.prog E cx n23_31) := GE.seq_step (by kernel_rfl)
theorem n23_28s (E : Ev) (cx : Cx) (st : St) : codeB Try.prog E cx n23_28 st = blockS 1 (codeB Try.prog E cx n23_29 st) st := GE.block_step (by kernel_rfl)
theorem n23_49s (E : Ev) (f : FuncId) (b : Nat) (ro : Option Nat) (st : St) : codeB Try.prog E ⟨f, 49, b, ro⟩ n23_49 st = plainS (runOps Try.prog E b q23_49 (ops [true, true, true, true, true, false, true, false, false, true, true] Try.f23) st) := GE.region_step (id := 8) (by kernel_rfl) (by kernel_rfl)
theorem n23_27s (E : Ev) (cx : Cx) (st : St) : codeB Try.prog E cx n23_27 st = thenS (codeB Try.prog E cx n23_28 st) (codeB Try.prog E cx n23_49) := GE.seq_step (by kernel_rfl)
theorem n23_21s (E : Ev) (cx : Cx) (st : St) : codeB Try.prog E cx n23_21 st = thenS (codeB Try.prog E cx n23_22 st) (codeB Try.prog E cx n23_27) := GE.seq_step (by kernel_rfl)
theorem n23_20s (E : Ev) (cx : Cx) (st : St) : codeB Try.prog E cx n23_20 st = loopS (fun st' => E.code cx n23_20 st') cx.base (codeB Try.prog E cx n23_21 st) st := GE.loop_step (by kernel_rfl)
theorem n23_19s (E : Ev) (cx : Cx) (st : St) : codeB Try.prog E cx n23_19 st = blockS 0 (codeB Try.prog E cx n23_20 st) st := GE.block_step (by kernel_rfl)
theorem n23_17s (E : Ev) (cx : Cx) (st : St) : codeB Try.prog E cx n23_17 st = thenS (codeB Try.prog E cx n23_18 st) (codeB Try.prog E cx n23_19) := GE.seq_step (by kernel_rfl)
theorem n23_51s (E : Ev) (f : FuncId) (b : Nat) (ro : Option Nat) (st : St) : codeB Try.prog E ⟨f, 49, b, ro⟩ n23_51 st = plainS (runOps Try.prog E b q23_51 (ops [true, true, true, true, true, true, false] Try.f23) st) := GE.region_step (id := 15) (by kernel_rfl) (by kernel_rfl)
theorem n23_52s (E : Ev) (cx : Cx) (st : St) : codeB Try.prog E cx n23_52 st = some (.ret, st) := GE.ret_step (by kernel_rfl)
theorem n23_50s (E : Ev) (cx : Cx) (st : St) : codeB Try.prog E cx n23_50 st = thenS (codeB Try.prog E cx n23_51 st) (codeB Try.prog E cx n23_52) := GE.seq_step (by kernel_rfl)
theorem n23_16s (E : Ev) (cx : Cx) (st : St) : codeB Try.prog E cx n23_16 st = thenS (codeB Try.prog E cx n23_17 st) (codeB Try.prog E cx n23_50) := GE.seq_step (by kernel_rfl)
theorem n23_14s (E : Ev) (cx : Cx) (st : St) : codeB Try.prog E cx n23_14 st = thenS (codeB Try.prog E cx n23_15 st) (codeB Try.prog E cx n23_16) := GE.seq_step (by kernel_rfl)
theorem n23_12s (E : Ev) (cx : Cx) (st : St) : codeB Try.prog E cx n23_12 st = thenS (codeB Try.prog E cx n23_13 st) (codeB Try.prog E cx n23_14) := GE.seq_step (by kernel_rfl)
theorem n23_4s (E : Ev) (cx : Cx) (st : St) : codeB Try.prog E cx n23_4 st = thenS (codeB Try.prog E cx n23_5 st) (codeB Try.prog E cx n23_12) := GE.seq_step (by kernel_rfl)
theorem n23_2s (E : Ev) (cx : Cx) (st : St) : codeB Try.prog E cx n23_2 st = thenS (codeB Try.prog E cx n23_3 st) (codeB Try.prog E cx n23_4) := GE.seq_step (by kernel_rfl)
theorem n23_0s (E : Ev) (cx : Cx) (st : St) : codeB Try.prog E cx n23_0 st = thenS (codeB Try.prog E cx n23_1 st) (codeB Try.prog E cx n23_2) := GE.seq_step (by kernel_rfl)
noncomputable def n4_0 : Code := sub [] (bodyOf Try.f4)
noncomputable def n4_1 : Code := sub [false] (bodyOf Try.f4)
noncomputable def q4_1 : List Oper := ops [false] Try.f4
noncomputable def n4_2 : Code := sub [true] (bodyOf Try.f4)
noncomputable def n4_3 : Code := sub [true, false] (bodyOf Try.f4)
noncomputable def n4_4 : Code := sub [true, false, false] (bodyOf Try.f4)
noncomputable def q4_4 : List Oper := ops [true, false, false] Try.f4
noncomputable def n4_5 : Code := sub [true, false, true] (bodyOf Try.f4)
noncomputable def n4_6 : Code := sub [true, false, true, false] (bodyOf Try.f4)
noncomputable def n4_7 : Code := sub [true, false, true, false, false] (bodyOf Try.f4)
noncomputable def q4_7 : List Oper := ops [true, false, true, false, false] Try.f4
noncomputable def n4_8 : Code := sub [true, false, true, false, true] (bodyOf Try.f4)
noncomputable def n4_9 : Code := sub [true, false, true, true] (bodyOf Try.f4)
noncomputable def n4_10 : Code := sub [true, true] (bodyOf Try.f4)
noncomputable def n4_11 : Code := sub [true, true, false] (bodyOf Try.f4)
noncomputable def q4_11 : List Oper := ops [true, true, false] Try.f4
noncomputable def n4_12 : Code := sub [true, true, true] (bodyOf Try.f4)
noncomputable def n4_13 : Code := sub [true, true, true, false] (bodyOf Try.f4)
noncomputable def q4_13 : List Oper := ops [true, true, true, false] Try.f4
noncomputable def n4_14 : Code := sub [true, true, true, true] (bodyOf Try.f4)
noncomputable def n4_15 : Code := sub [true, true, true, true, false] (bodyOf Try.f4)
noncomputable def q4_15 : List Oper := ops [true, true, true, true, false] Try.f4
noncomputable def n4_16 : Code := sub [true, true, true, true, true] (bodyOf Try.f4)
noncomputable def n4_17 : Code := sub [true, true, true, true, true, false] (bodyOf Try.f4)
noncomputable def q4_17 : List Oper := ops [true, true, true, true, true, false] Try.f4
noncomputable def n4_18 : Code := sub [true, true, true, true, true, true] (bodyOf Try.f4)
noncomputable def n4_19 : Code := sub [true, true, true, true, true, true, false] (bodyOf Try.f4)
noncomputable def q4_19 : List Oper := ops [true, true, true, true, true, true, false] Try.f4
noncomputable def n4_20 : Code := sub [true, true, true, true, true, true, true] (bodyOf Try.f4)
noncomputable def n4_21 : Code := sub [true, true, true, true, true, true, true, false] (bodyOf Try.f4)
noncomputable def n4_22 : Code := sub [true, true, true, true, true, true, true, false, false] (bodyOf Try.f4)
noncomputable def q4_22 : List Oper := ops [true, true, true, true, true, true, true, false, false] Try.f4
noncomputable def n4_23 : Code := sub [true, true, true, true, true, true, true, false, true] (bodyOf Try.f4)
noncomputable def n4_24 : Code := sub [true, true, true, true, true, true, true, false, true, false] (bodyOf Try.f4)
noncomputable def n4_25 : Code := sub [true, true, true, true, true, true, true, false, true, false, false] (bodyOf Try.f4)
noncomputable def q4_25 : List Oper := ops [true, true, true, true, true, true, true, false, true, false, false] Try.f4
noncomputable def n4_26 : Code := sub [true, true, true, true, true, true, true, false, true, false, true] (bodyOf Try.f4)
noncomputable def n4_27 : Code := sub [true, true, true, true, true, true, true, false, true, true] (bodyOf Try.f4)
noncomputable def n4_28 : Code := sub [true, true, true, true, true, true, true, true] (bodyOf Try.f4)
noncomputable def n4_29 : Code := sub [true, true, true, true, true, true, true, true, false] (bodyOf Try.f4)
noncomputable def n4_30 : Code := sub [true, true, true, true, true, true, true, true, false, false] (bodyOf Try.f4)
noncomputable def q4_30 : List Oper := ops [true, true, true, true, true, true, true, true, false, false] Try.f4
noncomputable def n4_31 : Code := sub [true, true, true, true, true, true, true, true, false, true] (bodyOf Try.f4)
noncomputable def n4_32 : Code := sub [true, true, true, true, true, true, true, true, false, true, false] (bodyOf Try.f4)
noncomputable def n4_33 : Code := sub [true, true, true, true, true, true, true, true, false, true, false, false] (bodyOf Try.f4)
noncomputable def n4_34 : Code := sub [true, true, true, true, true, true, true, true, false, true, false, false, false] (bodyOf Try.f4)
noncomputable def n4_35 : Code := sub [true, true, true, true, true, true, true, true, false, true, false, false, false, false] (bodyOf Try.f4)
noncomputable def q4_35 : List Oper := ops [true, true, true, true, true, true, true, true, false, true, false, false, false, false] Try.f4
noncomputable def n4_36 : Code := sub [true, true, true, true, true, true, true, true, false, true, false, false, false, true] (bodyOf Try.f4)
noncomputable def n4_37 : Code := sub [true, true, true, true, true, true, true, true, false, true, false, false, false, true, false] (bodyOf Try.f4)
noncomputable def n4_38 : Code := sub [true, true, true, true, true, true, true, true, false, true, false, false, false, true, true] (bodyOf Try.f4)
noncomputable def n4_39 : Code := sub [true, true, true, true, true, true, true, true, false, true, false, false, true] (bodyOf Try.f4)
noncomputable def n4_40 : Code := sub [true, true, true, true, true, true, true, true, false, true, false, false, true, false] (bodyOf Try.f4)
noncomputable def n4_41 : Code := sub [true, true, true, true, true, true, true, true, false, true, false, false, true, false, false] (bodyOf Try.f4)
noncomputable def n4_42 : Code := sub [true, true, true, true, true, true, true, true, false, true, false, false, true, false, false, false] (bodyOf Try.f4)
noncomputable def q4_42 : List Oper := ops [true, true, true, true, true, true, true, true, false, true, false, false, true, false, false, false] Try.f4
noncomputable def n4_43 : Code := sub [true, true, true, true, true, true, true, true, false, true, false, false, true, false, false, true] (bodyOf Try.f4)
noncomputable def n4_44 : Code := sub [true, true, true, true, true, true, true, true, false, true, false, false, true, false, false, true, false] (bodyOf Try.f4)
noncomputable def n4_45 : Code := sub [true, true, true, true, true, true, true, true, false, true, false, false, true, false, false, true, false, false] (bodyOf Try.f4)
noncomputable def q4_45 : List Oper := ops [true, true, true, true, true, true, true, true, false, true, false, false, true, false, false, true, false, false] Try.f4
noncomputable def n4_46 : Code := sub [true, true, true, true, true, true, true, true, false, true, false, false, true, false, false, true, false, true] (bodyOf Try.f4)
noncomputable def n4_47 : Code := sub [true, true, true, true, true, true, true, true, false, true, false, false, true, false, false, true, true] (bodyOf Try.f4)
noncomputable def n4_48 : Code := sub [true, true, true, true, true, true, true, true, false, true, false, false, true, true] (bodyOf Try.f4)
noncomputable def q4_48 : List Oper := ops [true, true, true, true, true, true, true, true, false, true, false, false, true, true] Try.f4
noncomputable def n4_49 : Code := sub [true, true, true, true, true, true, true, true, true] (bodyOf Try.f4)
noncomputable def n4_50 : Code := sub [true, true, true, true, true, true, true, true, true, false] (bodyOf Try.f4)
noncomputable def q4_50 : List Oper := ops [true, true, true, true, true, true, true, true, true, false] Try.f4
noncomputable def n4_51 : Code := sub [true, true, true, true, true, true, true, true, true, true] (bodyOf Try.f4)
theorem body4 : Try.f4.body = some n4_0 := by kernel_rfl
theorem run4 (E : Ev) (args : List Value) (h : List Blk) (hl : args.length ≤ 109) : runB Try.prog E 4 args h = endS Try.prog [.tmp 4] h.length (codeB Try.prog E ⟨4, 109, h.length, none⟩ n4_0 ⟨enumT 0 args, h, []⟩) := GE.run_step Try.func4 body4 (by kernel_rfl) (by decide) (by kernel_rfl) hl
theorem n4_1s (E : Ev) (f : FuncId) (b : Nat) (ro : Option Nat) (st : St) : codeB Try.prog E ⟨f, 109, b, ro⟩ n4_1 st = plainS (runOps Try.prog E b q4_1 (ops [false] Try.f4) st) := GE.region_step (id := 0) (by kernel_rfl) (by kernel_rfl)
theorem n4_4s (E : Ev) (f : FuncId) (b : Nat) (ro : Option Nat) (st : St) : codeB Try.prog E ⟨f, 109, b, ro⟩ n4_4 st = plainS (runOps Try.prog E b q4_4 (ops [true, false, false] Try.f4) st) := GE.region_step (id := 1) (by kernel_rfl) (by kernel_rfl)
theorem n4_7s (E : Ev) (f : FuncId) (b : Nat) (ro : Option Nat) (st : St) : codeB Try.prog E ⟨f, 109, b, ro⟩ n4_7 st = plainS (runOps Try.prog E b q4_7 (ops [true, false, true, false, false] Try.f4) st) := GE.region_step (id := 2) (by kernel_rfl) (by kernel_rfl)
theorem n4_8s (E : Ev) (cx : Cx) (st : St) : codeB Try.prog E cx n4_8 st = some (.ret, st) := GE.ret_step (by kernel_rfl)
theorem n4_6s (E : Ev) (cx : Cx) (st : St) : codeB Try.prog E cx n4_6 st = thenS (codeB Try.prog E cx n4_7 st) (codeB Try.prog E cx n4_8) := GE.seq_step (by kernel_rfl)
theorem n4_9s (E : Ev) (cx : Cx) (st : St) : codeB Try.prog E cx n4_9 st = some (.normal, st) := GE.skip_step (by kernel_rfl)
theorem n4_5s (E : Ev) (cx : Cx) (st : St) : codeB Try.prog E cx n4_5 st = condS (codeB Try.prog E cx n4_6) (codeB Try.prog E cx n4_9) (lk st.σ 20) st := GE.cond_step (c := .tmp 20) (by kernel_rfl)
theorem n4_3s (E : Ev) (cx : Cx) (st : St) : codeB Try.prog E cx n4_3 st = thenS (codeB Try.prog E cx n4_4 st) (codeB Try.prog E cx n4_5) := GE.seq_step (by kernel_rfl)
theorem n4_11s (E : Ev) (f : FuncId) (b : Nat) (ro : Option Nat) (st : St) : codeB Try.prog E ⟨f, 109, b, ro⟩ n4_11 st = plainS (runOps Try.prog E b q4_11 (ops [true, true, false] Try.f4) st) := GE.region_step (id := 3) (by kernel_rfl) (by kernel_rfl)
theorem n4_13s (E : Ev) (f : FuncId) (b : Nat) (ro : Option Nat) (st : St) : codeB Try.prog E ⟨f, 109, b, ro⟩ n4_13 st = plainS (runOps Try.prog E b q4_13 (ops [true, true, true, false] Try.f4) st) := GE.region_step (id := 4) (by kernel_rfl) (by kernel_rfl)
theorem n4_15s (E : Ev) (f : FuncId) (b : Nat) (ro : Option Nat) (st : St) : codeB Try.prog E ⟨f, 109, b, ro⟩ n4_15 st = plainS (runOps Try.prog E b q4_15 (ops [true, true, true, true, false] Try.f4) st) := GE.region_step (id := 5) (by kernel_rfl) (by kernel_rfl)
theorem n4_17s (E : Ev) (f : FuncId) (b : Nat) (ro : Option Nat) (st : St) : codeB Try.prog E ⟨f, 109, b, ro⟩ n4_17 st = plainS (runOps Try.prog E b q4_17 (ops [true, true, true, true, true, false] Try.f4) st) := GE.region_step (id := 6) (by kernel_rfl) (by kernel_rfl)
theorem n4_19s (E : Ev) (f : FuncId) (b : Nat) (ro : Option Nat) (st : St) : codeB Try.prog E ⟨f, 109, b, ro⟩ n4_19 st = plainS (runOps Try.prog E b q4_19 (ops [true, true, true, true, true, true, false] Try.f4) st) := GE.region_step (id := 7) (by kernel_rfl) (by kernel_rfl)
theorem q4_22g3 : gd q4_22 3 = some 51 := by kernel_rfl
theorem q4_22g8 : gd q4_22 8 = some 56 := by kernel_rfl
theorem q4_22g13 : gd q4_22 13 = some 61 := by kernel_rfl
theorem q4_22g20 : gd q4_22 20 = some 68 := by kernel_rfl
theorem q4_22g27 : gd q4_22 27 = some 75 := by kernel_rfl
theorem n4_22s (E : Ev) (f : FuncId) (b : Nat) (ro : Option Nat) (st : St) : codeB Try.prog E ⟨f, 109, b, ro⟩ n4_22 st = plainS (runOps Try.prog E b q4_22 (ops [true, true, true, true, true, true, true, false, false] Try.f4) st) := GE.region_step (id := 8) (by kernel_rfl) (by kernel_rfl)
theorem n4_25s (E : Ev) (f : FuncId) (b : Nat) (ro : Option Nat) (st : St) : codeB Try.prog E ⟨f, 109, b, ro⟩ n4_25 st = plainS (runOps Try.prog E b q4_25 (ops [true, true, true, true, true, true, true, false, true, false, false] Try.f4) st) := GE.region_step (id := 9) (by kernel_rfl) (by kernel_rfl)
theorem n4_26s (E : Ev) (cx : Cx) (st : St) : codeB Try.prog E cx n4_26 st = some (.ret, st) := GE.ret_step (by kernel_rfl)
theorem n4_24s (E : Ev) (cx : Cx) (st : St) : codeB Try.prog E cx n4_24 st = thenS (codeB Try.prog E cx n4_25 st) (codeB Try.prog E cx n4_26) := GE.seq_step (by kernel_rfl)
theorem n4_27s (E : Ev) (cx : Cx) (st : St) : codeB Try.prog E cx n4_27 st = some (.normal, st) := GE.skip_step (by kernel_rfl)
theorem n4_23s (E : Ev) (cx : Cx) (st : St) : codeB Try.prog E cx n4_23 st = condS (codeB Try.prog E cx n4_24) (codeB Try.prog E cx n4_27) (lk st.σ 81) st := GE.cond_step (c := .tmp 81) (by kernel_rfl)
theorem n4_21s (E : Ev) (cx : Cx) (st : St) : codeB Try.prog E cx n4_21 st = thenS (codeB Try.prog E cx n4_22 st) (codeB Try.prog E cx n4_23) := GE.seq_step (by kernel_rfl)
theorem n4_30s (E : Ev) (f : FuncId) (b : Nat) (ro : Option Nat) (st : St) : codeB Try.prog E ⟨f, 109, b, ro⟩ n4_30 st = plainS (runOps Try.prog E b q4_30 (ops [true, true, true, true, true, true, true, true, false, false] Try.f4) st) := GE.region_step (id := 10) (by kernel_rfl) (by kernel_rfl)
theorem n4_35s (E : Ev) (f : FuncId) (b : Nat) (ro : Option Nat) (st : St) : codeB Try.prog E ⟨f, 109, b, ro⟩ n4_35 st = plainS (runOps Try.prog E b q4_35 (ops [true, true, true, true, true, true, true, true, false, true, false, false, false, false] Try.f4) st) := GE.region_step (id := 11) (by kernel_rfl) (by kernel_rfl)
theorem n4_37s (E : Ev) (cx : Cx) (st : St) : codeB Try.prog E cx n4_37 st = some (.normal, st) := GE.skip_step (by kernel_rfl)
theorem n4_38s (E : Ev) (cx : Cx) (st : St) : codeB Try.prog E cx n4_38 st = some (.exit 0, st) := GE.exit_step (by kernel_rfl)
theorem n4_36s (E : Ev) (cx : Cx) (st : St) : codeB Try.prog E cx n4_36 st = condS (codeB Try.prog E cx n4_37) (codeB Try.prog E cx n4_38) (lk st.σ 85) st := GE.cond_step (c := .tmp 85) (by kernel_rfl)
theorem n4_34s (E : Ev) (cx : Cx) (st : St) : codeB Try.prog E cx n4_34 st = thenS (codeB Try.prog E cx n4_35 st) (codeB Try.prog E cx n4_36) := GE.seq_step (by kernel_rfl)
theorem q4_42g9 : gd q4_42 9 = some 97 := by kernel_rfl
theorem n4_42s (E : Ev) (f : FuncId) (b : Nat) (ro : Option Nat) (st : St) : codeB Try.prog E ⟨f, 109, b, ro⟩ n4_42 st = drawS [0, 0, 3, 7, 0, 0, 48, 112, 255, 511, 1023, 1023, 4095, 8191, 1023, 1023, 50175, 115711, 262143, 524287] (runOpsF Try.prog E b q4_42 (ops [true, true, true, true, true, true, true, true, false, true, false, false, true, false, false, false] Try.f4) st) := GE.draw_step (id := 13) (by kernel_rfl) (by kernel_rfl) (by kernel_rfl) (by kernel_rfl)
theorem n4_45s (E : Ev) (f : FuncId) (b : Nat) (ro : Option Nat) (st : St) : codeB Try.prog E ⟨f, 109, b, ro⟩ n4_45 st = plainS (runOps Try.prog E b q4_45 (ops [true, true, true, true, true, true, true, true, false, true, false, false, true, false, false, true, false, false] Try.f4) st) := GE.region_step (id := 14) (by kernel_rfl) (by kernel_rfl)
theorem n4_46s (E : Ev) (cx : Cx) (st : St) : codeB Try.prog E cx n4_46 st = some (.ret, st) := GE.ret_step (by kernel_rfl)
theorem n4_44s (E : Ev) (cx : Cx) (st : St) : codeB Try.prog E cx n4_44 st = thenS (codeB Try.prog E cx n4_45 st) (codeB Try.prog E cx n4_46) := GE.seq_step (by kernel_rfl)
theorem n4_47s (E : Ev) (cx : Cx) (st : St) : codeB Try.prog E cx n4_47 st = some (.normal, st) := GE.skip_step (by kernel_rfl)
theorem n4_43s (E : Ev) (cx : Cx) (st : St) : codeB Try.prog E cx n4_43 st = condS (codeB Try.prog E cx n4_44) (codeB Try.prog E cx n4_47) (lk st.σ 107) st := GE.cond_step (c := .tmp 107) (by kernel_rfl)
theorem n4_41s (E : Ev) (cx : Cx) (st : St) : codeB Try.prog E cx n4_41 st = thenS (codeB Try.prog E cx n4_42 st) (codeB Try.prog E cx n4_43) := GE.seq_step (by kernel_rfl)
theorem n4_40s (E : Ev) (cx : Cx) (st : St) : codeB Try.prog E cx n4_40 st = blockS 1 (codeB Try.prog E cx n4_41 st) st := GE.block_step (by kernel_rfl)
theorem n4_48s (E : Ev) (f : FuncId) (b : Nat) (ro : Option Nat) (st : St) : codeB Try.prog E ⟨f, 109, b, ro⟩ n4_48 st = plainS (runOps Try.prog E b q4_48 (ops [true, true, true, true, true, true, true, true, false, true, false, false, true, true] Try.f4) st) := GE.region_step (id := 12) (by kernel_rfl) (by kernel_rfl)
theorem n4_39s (E : Ev) (cx : Cx) (st : St) : codeB Try.prog E cx n4_39 st = thenS (codeB Try.prog E cx n4_40 st) (codeB Try.prog E cx n4_48) := GE.seq_step (by kernel_rfl)
theorem n4_33s (E : Ev) (cx : Cx) (st : St) : codeB Try.prog E cx n4_33 st = thenS (codeB Try.prog E cx n4_34 st) (codeB Try.prog E cx n4_39) := GE.seq_step (by kernel_rfl)
theorem n4_32s (E : Ev) (cx : Cx) (st : St) : codeB Try.prog E cx n4_32 st = loopS (fun st' => E.code cx n4_32 st') cx.base (codeB Try.prog E cx n4_33 st) st := GE.loop_step (by kernel_rfl)
theorem n4_31s (E : Ev) (cx : Cx) (st : St) : codeB Try.prog E cx n4_31 st = blockS 0 (codeB Try.prog E cx n4_32 st) st := GE.block_step (by kernel_rfl)
theorem n4_29s (E : Ev) (cx : Cx) (st : St) : codeB Try.prog E cx n4_29 st = thenS (codeB Try.prog E cx n4_30 st) (codeB Try.prog E cx n4_31) := GE.seq_step (by kernel_rfl)
theorem n4_50s (E : Ev) (f : FuncId) (b : Nat) (ro : Option Nat) (st : St) : codeB Try.prog E ⟨f, 109, b, ro⟩ n4_50 st = plainS (runOps Try.prog E b q4_50 (ops [true, true, true, true, true, true, true, true, true, false] Try.f4) st) := GE.region_step (id := 15) (by kernel_rfl) (by kernel_rfl)
theorem n4_51s (E : Ev) (cx : Cx) (st : St) : codeB Try.prog E cx n4_51 st = some (.ret, st) := GE.ret_step (by kernel_rfl)
theorem n4_49s (E : Ev) (cx : Cx) (st : St) : codeB Try.prog E cx n4_49 st = thenS (codeB Try.prog E cx n4_50 st) (codeB Try.prog E cx n4_51) := GE.seq_step (by kernel_rfl)
theorem n4_28s (E : Ev) (cx : Cx) (st : St) : codeB Try.prog E cx n4_28 st = thenS (codeB Try.prog E cx n4_29 st) (codeB Try.prog E cx n4_49) := GE.seq_step (by kernel_rfl)
theorem n4_20s (E : Ev) (cx : Cx) (st : St) : codeB Try.prog E cx n4_20 st = thenS (codeB Try.prog E cx n4_21 st) (codeB Try.prog E cx n4_28) := GE.seq_step (by kernel_rfl)
theorem n4_18s (E : Ev) (cx : Cx) (st : St) : codeB Try.prog E cx n4_18 st = thenS (codeB Try.prog E cx n4_19 st) (codeB Try.prog E cx n4_20) := GE.seq_step (by kernel_rfl)
theorem n4_16s (E : Ev) (cx : Cx) (st : St) : codeB Try.prog E cx n4_16 st = thenS (codeB Try.prog E cx n4_17 st) (codeB Try.prog E cx n4_18) := GE.seq_step (by kernel_rfl)
theorem n4_14s (E : Ev) (cx : Cx) (st : St) : codeB Try.prog E cx n4_14 st = thenS (codeB Try.prog E cx n4_15 st) (codeB Try.prog E cx n4_16) := GE.seq_step (by kernel_rfl)
theorem n4_12s (E : Ev) (cx : Cx) (st : St) : codeB Try.prog E cx n4_12 st = thenS (codeB Try.prog E cx n4_13 st) (codeB Try.prog E cx n4_14) := GE.seq_step (by kernel_rfl)
theorem n4_10s (E : Ev) (cx : Cx) (st : St) : codeB Try.prog E cx n4_10 st = thenS (codeB Try.prog E cx n4_11 st) (codeB Try.prog E cx n4_12) := GE.seq_step (by kernel_rfl)
theorem n4_2s (E : Ev) (cx : Cx) (st : St) : codeB Try.prog E cx n4_2 st = thenS (codeB Try.prog E cx n4_3 st) (codeB Try.prog E cx n4_10) := GE.seq_step (by kernel_rfl)
theorem n4_0s (E : Ev) (cx : Cx) (st : St) : codeB Try.prog E cx n4_0 st = thenS (codeB Try.prog E cx n4_1 st) (codeB Try.prog E cx n4_2) := GE.seq_step (by kernel_rfl)
noncomputable def n34_0 : Code := sub [] (bodyOf Try.f34)
noncomputable def n34_1 : Code := sub [false] (bodyOf Try.f34)
noncomputable def q34_1 : List Oper := ops [false] Try.f34
noncomputable def n34_2 : Code := sub [true] (bodyOf Try.f34)
noncomputable def n34_3 : Code := sub [true, false] (bodyOf Try.f34)
noncomputable def q34_3 : List Oper := ops [true, false] Try.f34
noncomputable def n34_4 : Code := sub [true, true] (bodyOf Try.f34)
theorem body34 : Try.f34.body = some n34_0 := by kernel_rfl
theorem run34 (E : Ev) (args : List Value) (h : List Blk) (hl : args.length ≤ 14) : runB Try.prog E 34 args h = endS Try.prog [.cell 8 35] h.length (codeB Try.prog E ⟨34, 14, h.length, none⟩ n34_0 ⟨enumT 0 args, h, []⟩) := GE.run_step Try.func34 body34 (by kernel_rfl) (by decide) (by kernel_rfl) hl
theorem n34_1s (E : Ev) (f : FuncId) (b : Nat) (ro : Option Nat) (st : St) : codeB Try.prog E ⟨f, 14, b, ro⟩ n34_1 st = plainS (runOps Try.prog E b q34_1 (ops [false] Try.f34) st) := GE.region_step (id := 0) (by kernel_rfl) (by kernel_rfl)
theorem n34_3s (E : Ev) (f : FuncId) (b : Nat) (ro : Option Nat) (st : St) : codeB Try.prog E ⟨f, 14, b, ro⟩ n34_3 st = plainS (runOps Try.prog E b q34_3 (ops [true, false] Try.f34) st) := GE.region_step (id := 1) (by kernel_rfl) (by kernel_rfl)
theorem n34_4s (E : Ev) (cx : Cx) (st : St) : codeB Try.prog E cx n34_4 st = some (.ret, st) := GE.ret_step (by kernel_rfl)
theorem n34_2s (E : Ev) (cx : Cx) (st : St) : codeB Try.prog E cx n34_2 st = thenS (codeB Try.prog E cx n34_3 st) (codeB Try.prog E cx n34_4) := GE.seq_step (by kernel_rfl)
theorem n34_0s (E : Ev) (cx : Cx) (st : St) : codeB Try.prog E cx n34_0 st = thenS (codeB Try.prog E cx n34_1 st) (codeB Try.prog E cx n34_2) := GE.seq_step (by kernel_rfl)
theorem fa_35_0 : fieldAt Try.prog 35 0 = some (0, 1) := by kernel_rfl
theorem fa_35_1 : fieldAt Try.prog 35 1 = some (1, 1) := by kernel_rfl
theorem fa_35_2 : fieldAt Try.prog 35 2 = some (2, 1) := by kernel_rfl
theorem fa_35_3 : fieldAt Try.prog 35 3 = some (3, 1) := by kernel_rfl
theorem za_3 : zeroA Try.prog 3 = some (.int .i64 (0)) := by kernel_rfl
theorem sz_3 : aggSize Try.prog 3 = some 1 := by kernel_rfl
theorem ia_35 : aggK Try.prog 35 = some (true, 4) := by kernel_rfl
theorem za_103 : zeroA Try.prog 103 = some (.agg #[(.int .i64 (0)), (.int .i64 (0)), (.int .i64 (0))]) := by kernel_rfl
theorem pl_103 : plK Try.prog 103 = some [(0, 1), (1, 1), (2, 1)] := by kernel_rfl
theorem es_104 : elemK Try.prog 104 = some (none, 3) := by kernel_rfl
theorem ze_104 : zeroE Try.prog 104 = some (.agg #[(.int .i64 (0)), (.int .i64 (0)), (.int .i64 (0))]) := by kernel_rfl
theorem ba_104_4 : baseArr (Value.cells (.agg #[(.int .i64 (0)), (.int .i64 (0)), (.int .i64 (0))])) (4 * 3) = #[(.int .i64 (0)), (.int .i64 (0)), (.int .i64 (0)), (.int .i64 (0)), (.int .i64 (0)), (.int .i64 (0)), (.int .i64 (0)), (.int .i64 (0)), (.int .i64 (0)), (.int .i64 (0)), (.int .i64 (0)), (.int .i64 (0))] := by kernel_rfl
theorem lk_104 : lenK Try.prog 104 = some .sl := by kernel_rfl
theorem ia_103 : aggK Try.prog 103 = some (true, 3) := by kernel_rfl
theorem sz_103 : aggSize Try.prog 103 = some 3 := by kernel_rfl
theorem fa_103_2 : fieldAt Try.prog 103 2 = some (2, 1) := by kernel_rfl
theorem fa_103_0 : fieldAt Try.prog 103 0 = some (0, 1) := by kernel_rfl
theorem fa_103_1 : fieldAt Try.prog 103 1 = some (1, 1) := by kernel_rfl
theorem fa_38_0 : fieldAt Try.prog 38 0 = some (0, 1) := by kernel_rfl
theorem fa_38_1 : fieldAt Try.prog 38 1 = some (1, 1) := by kernel_rfl
theorem fa_38_2 : fieldAt Try.prog 38 2 = some (2, 1) := by kernel_rfl
theorem fa_38_3 : fieldAt Try.prog 38 3 = some (3, 1) := by kernel_rfl
theorem ia_38 : aggK Try.prog 38 = some (true, 4) := by kernel_rfl
theorem za_35 : zeroA Try.prog 35 = some (.agg #[(.int .i64 (0)), (.int .i64 (0)), (.int .i64 (0)), (.int .i64 (0))]) := by kernel_rfl
theorem pl_35 : plK Try.prog 35 = some [(0, 1), (1, 1), (2, 1), (3, 1)] := by kernel_rfl
theorem sz_35 : aggSize Try.prog 35 = some 4 := by kernel_rfl
theorem es_39 : elemK Try.prog 39 = some (none, 4) := by kernel_rfl
theorem ze_39 : zeroE Try.prog 39 = some (.agg #[(.int .i64 (0)), (.int .i64 (0)), (.int .i64 (0)), (.int .i64 (0))]) := by kernel_rfl
theorem ba_39_1 : baseArr (Value.cells (.agg #[(.int .i64 (0)), (.int .i64 (0)), (.int .i64 (0)), (.int .i64 (0))])) (1 * 4) = #[(.int .i64 (0)), (.int .i64 (0)), (.int .i64 (0)), (.int .i64 (0))] := by kernel_rfl
theorem ap_39 : apK Try.prog 39 = some (4, 32) := by kernel_rfl
theorem ni_39 : notInt Try.prog 39 = true := by kernel_rfl
theorem ze_22 : zeroE Try.prog 22 = some (.int .i64 (0)) := by kernel_rfl
theorem ba_22_1 : baseArr (Value.cells (.int .i64 (0))) (1 * 1) = #[(.int .i64 (0))] := by kernel_rfl
theorem ap_22 : apK Try.prog 22 = some (1, 8) := by kernel_rfl
theorem ni_22 : notInt Try.prog 22 = true := by kernel_rfl
theorem za_38 : zeroA Try.prog 38 = some (.agg #[(.int .i64 (0)), (.int .i64 (0)), (.int .i64 (0)), (.int .i64 (0))]) := by kernel_rfl
theorem pl_38 : plK Try.prog 38 = some [(0, 1), (1, 1), (2, 1), (3, 1)] := by kernel_rfl
theorem sz_38 : aggSize Try.prog 38 = some 4 := by kernel_rfl
theorem es_42 : elemK Try.prog 42 = some (none, 4) := by kernel_rfl
theorem ze_42 : zeroE Try.prog 42 = some (.agg #[(.int .i64 (0)), (.int .i64 (0)), (.int .i64 (0)), (.int .i64 (0))]) := by kernel_rfl
theorem ba_42_1 : baseArr (Value.cells (.agg #[(.int .i64 (0)), (.int .i64 (0)), (.int .i64 (0)), (.int .i64 (0))])) (1 * 4) = #[(.int .i64 (0)), (.int .i64 (0)), (.int .i64 (0)), (.int .i64 (0))] := by kernel_rfl
theorem ap_42 : apK Try.prog 42 = some (4, 32) := by kernel_rfl
theorem ni_42 : notInt Try.prog 42 = true := by kernel_rfl
theorem lk_39 : lenK Try.prog 39 = some .sl := by kernel_rfl
theorem lk_42 : lenK Try.prog 42 = some .sl := by kernel_rfl

end Go.Proofs.Ytgpcjdhlijompaa.ore
