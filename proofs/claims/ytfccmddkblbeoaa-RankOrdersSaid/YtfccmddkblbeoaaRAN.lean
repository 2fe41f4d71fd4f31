/-
  Names for the nodes of the code of some functions (projections of their bodies), the step of each node, and the facts of types that they use.
-/
import Derived.Test.YtfccmddkblbeoaaKp
namespace Go.Proofs.Ytfccmddkblbeoaa.rk
open Go.GE
set_option maxRecDepth 100000
variable (E : Ev) (cx : Cx) (st : St) (f nt b : Nat) (ro : Option Nat)
noncomputable def n12_0 : Code := bodyOf Try.f12
noncomputable def n12_1 : Code := cl n12_0
noncomputable def q12_1 : List Oper := opsOf n12_1
noncomputable def n12_2 : Code := cr n12_0
noncomputable def n12_3 : Code := cl n12_2
noncomputable def n12_4 : Code := cl n12_3
noncomputable def q12_4 : List Oper := opsOf n12_4
noncomputable def n12_5 : Code := cr n12_3
noncomputable def n12_6 : Code := cl n12_5
noncomputable def n12_7 : Code := cl n12_6
noncomputable def q12_7 : List Oper := opsOf n12_7
noncomputable def n12_8 : Code := cr n12_6
noncomputable def n12_9 : Code := cr n12_5
noncomputable def n12_10 : Code := cr n12_2
noncomputable def n12_11 : Code := cl n12_10
noncomputable def q12_11 : List Oper := opsOf n12_11
noncomputable def n12_12 : Code := cr n12_10
noncomputable def n12_13 : Code := cl n12_12
noncomputable def q12_13 : List Oper := opsOf n12_13
noncomputable def n12_14 : Code := cr n12_12
noncomputable def n12_15 : Code := cl n12_14
noncomputable def q12_15 : List Oper := opsOf n12_15
noncomputable def n12_16 : Code := cr n12_14
theorem body12 : Try.f12.body = some n12_0 := by kernel_rfl
theorem run12 (E : Ev) (args : List Value) (h : List Blk) (hl : args.length ≤ 83) : runB Try.prog E 12 args h = endS Try.prog [.tmp 8] h.length (codeB Try.prog E ⟨12, 83, h.length, none⟩ n12_0 ⟨enumT 0 args, h, []⟩) := GE.run_step Try.func12 body12 (by kernel_rfl) (by decide) (by kernel_rfl) hl
theorem n12_1s : codeB Try.prog E ⟨f, 83, b, ro⟩ n12_1 st = plainS (runOps Try.prog E b q12_1 (ops [false] Try.f12) st) := GE.region_step (id := 0) (GE.reg_of (by kernel_rfl)) (by kernel_rfl)
theorem q12_4g3 : gd q12_4 3 = some 18 := by kernel_rfl
theorem n12_4s : codeB Try.prog E ⟨f, 83, b, ro⟩ n12_4 st = plainS (runOps Try.prog E b q12_4 (ops [true, false, false] Try.f12) st) := GE.region_step (id := 1) (GE.reg_of (by kernel_rfl)) (by kernel_rfl)
theorem n12_7s : codeB Try.prog E ⟨f, 83, b, ro⟩ n12_7 st = plainS (runOps Try.prog E b q12_7 (ops [true, false, true, false, false] Try.f12) st) := GE.region_step (id := 2) (GE.reg_of (by kernel_rfl)) (by kernel_rfl)
theorem n12_8s : codeB Try.prog LL ⟨12, 83, b, ro⟩ n12_8 st = normS b ⟨[8], []⟩ .ret st := GE.ret_step (by kernel_rfl) (by kernel_rfl)
theorem n12_6s : codeB Try.prog E cx n12_6 st = thenS (codeB Try.prog E cx n12_7 st) (codeB Try.prog E cx n12_8) := GE.seq_step (by kernel_rfl)
theorem n12_9s : codeB Try.prog E cx n12_9 st = some (.normal, st) := GE.skip_step (by kernel_rfl)
theorem n12_5s : codeB Try.prog E cx n12_5 st = condS (codeB Try.prog E cx n12_6) (codeB Try.prog E cx n12_9) (lk st.σ 22) st := GE.cond_step (c := .tmp 22) (by kernel_rfl)
theorem n12_3s : codeB Try.prog E cx n12_3 st = thenS (codeB Try.prog E cx n12_4 st) (codeB Try.prog E cx n12_5) := GE.seq_step (by kernel_rfl)
theorem n12_11s : codeB Try.prog E ⟨f, 83, b, ro⟩ n12_11 st = plainS (runOps Try.prog E b q12_11 (ops [true, true, false] Try.f12) st) := GE.region_step (id := 3) (GE.reg_of (by kernel_rfl)) (by kernel_rfl)
theorem n12_13s : codeB Try.prog E ⟨f, 83, b, ro⟩ n12_13 st = plainS (runOps Try.prog E b q12_13 (ops [true, true, true, false] Try.f12) st) := GE.region_step (id := 4) (GE.reg_of (by kernel_rfl)) (by kernel_rfl)
theorem q12_15g3 : gd q12_15 3 = some 41 := by kernel_rfl
theorem q12_15g8 : gd q12_15 8 = some 46 := by kernel_rfl
theorem q12_15g13 : gd q12_15 13 = some 51 := by kernel_rfl
theorem q12_15g26 : gd q12_15 26 = some 64 := by kernel_rfl
theorem q12_15g35 : gd q12_15 35 = some 73 := by kernel_rfl
theorem q12_15g42 : gd q12_15 42 = some 80 := by kernel_rfl
theorem n12_15s : codeB Try.prog E ⟨f, 83, b, ro⟩ n12_15 st = plainS (runOps Try.prog E b q12_15 (ops [true, true, true, true, false] Try.f12) st) := GE.region_step (id := 5) (GE.reg_of (by kernel_rfl)) (by kernel_rfl)
theorem n12_16s : codeB Try.prog LL ⟨12, 83, b, ro⟩ n12_16 st = normS b ⟨[8], []⟩ .ret st := GE.ret_step (by kernel_rfl) (by kernel_rfl)
theorem n12_14s : codeB Try.prog E cx n12_14 st = thenS (codeB Try.prog E cx n12_15 st) (codeB Try.prog E cx n12_16) := GE.seq_step (by kernel_rfl)
theorem n12_12s : codeB Try.prog E cx n12_12 st = thenS (codeB Try.prog E cx n12_13 st) (codeB Try.prog E cx n12_14) := GE.seq_step (by kernel_rfl)
theorem n12_10s : codeB Try.prog E cx n12_10 st = thenS (codeB Try.prog E cx n12_11 st) (codeB Try.prog E cx n12_12) := GE.seq_step (by kernel_rfl)
theorem n12_2s : codeB Try.prog E cx n12_2 st = thenS (codeB Try.prog E cx n12_3 st) (codeB Try.prog E cx n12_10) := GE.seq_step (by kernel_rfl)
theorem n12_0s : codeB Try.prog E cx n12_0 st = thenS (codeB Try.prog E cx n12_1 st) (codeB Try.prog E cx n12_2) := GE.seq_step (by kernel_rfl)
noncomputable def n37_0 : Code := bodyOf Try.f37
noncomputable def n37_1 : Code := cl n37_0
noncomputable def q37_1 : List Oper := opsOf n37_1
noncomputable def n37_2 : Code := cr n37_0
noncomputable def n37_3 : Code := cl n37_2
noncomputable def n37_4 : Code := cl n37_3
noncomputable def q37_4 : List Oper := opsOf n37_4
noncomputable def n37_5 : Code := cr n37_3
noncomputable def n37_6 : Code := cl n37_5
noncomputable def q37_6 : List Oper := opsOf n37_6
noncomputable def n37_7 : Code := cr n37_5
noncomputable def n37_8 : Code := cl n37_7
noncomputable def n37_9 : Code := cl n37_8
noncomputable def q37_9 : List Oper := opsOf n37_9
noncomputable def n37_10 : Code := cr n37_8
noncomputable def n37_11 : Code := cr n37_7
noncomputable def n37_12 : Code := cr n37_2
noncomputable def n37_13 : Code := cl n37_12
noncomputable def n37_14 : Code := cl n37_13
noncomputable def q37_14 : List Oper := opsOf n37_14
noncomputable def n37_15 : Code := cr n37_13
noncomputable def n37_16 : Code := cl n37_15
noncomputable def q37_16 : List Oper := opsOf n37_16
noncomputable def n37_17 : Code := cr n37_15
noncomputable def n37_18 : Code := cl n37_17
noncomputable def n37_19 : Code := cl n37_18
noncomputable def q37_19 : List Oper := opsOf n37_19
noncomputable def n37_20 : Code := cr n37_18
noncomputable def n37_21 : Code := cr n37_17
noncomputable def n37_22 : Code := cr n37_12
noncomputable def n37_23 : Code := cl n37_22
noncomputable def q37_23 : List Oper := opsOf n37_23
noncomputable def n37_24 : Code := cr n37_22
theorem body37 : Try.f37.body = some n37_0 := by kernel_rfl
theorem run37 (E : Ev) (args : List Value) (h : List Blk) (hl : args.length ≤ 23) : runB Try.prog E 37 args h = endS Try.prog [.tmp 4] h.length (codeB Try.prog E ⟨37, 23, h.length, none⟩ n37_0 ⟨enumT 0 args, h, []⟩) := GE.run_step Try.func37 body37 (by kernel_rfl) (by decide) (by kernel_rfl) hl
theorem n37_1s : codeB Try.prog E ⟨f, 23, b, ro⟩ n37_1 st = plainS (runOps Try.prog E b q37_1 (ops [false] Try.f37) st) := GE.region_step (id := 0) (GE.reg_of (by kernel_rfl)) (by kernel_rfl)
theorem n37_4s : codeB Try.prog E ⟨f, 23, b, ro⟩ n37_4 st = plainS (runOps Try.prog E b q37_4 (ops [true, false, false] Try.f37) st) := GE.region_step (id := 1) (GE.reg_of (by kernel_rfl)) (by kernel_rfl)
theorem n37_6s : codeB Try.prog E ⟨f, 23, b, ro⟩ n37_6 st = plainS (runOps Try.prog E b q37_6 (ops [true, false, true, false] Try.f37) st) := GE.region_step (id := 2) (GE.reg_of (by kernel_rfl)) (by kernel_rfl)
theorem n37_9s : codeB Try.prog E ⟨f, 23, b, ro⟩ n37_9 st = plainS (runOps Try.prog E b q37_9 (ops [true, false, true, true, false, false] Try.f37) st) := GE.region_step (id := 3) (GE.reg_of (by kernel_rfl)) (by kernel_rfl)
theorem n37_10s : codeB Try.prog LL ⟨37, 23, b, ro⟩ n37_10 st = normS b ⟨[4], []⟩ .ret st := GE.ret_step (by kernel_rfl) (by kernel_rfl)
theorem n37_8s : codeB Try.prog E cx n37_8 st = thenS (codeB Try.prog E cx n37_9 st) (codeB Try.prog E cx n37_10) := GE.seq_step (by kernel_rfl)
theorem n37_11s : codeB Try.prog E cx n37_11 st = some (.normal, st) := GE.skip_step (by kernel_rfl)
theorem n37_7s : codeB Try.prog E cx n37_7 st = condS (codeB Try.prog E cx n37_8) (codeB Try.prog E cx n37_11) (lk st.σ 13) st := GE.cond_step (c := .tmp 13) (by kernel_rfl)
theorem n37_5s : codeB Try.prog E cx n37_5 st = thenS (codeB Try.prog E cx n37_6 st) (codeB Try.prog E cx n37_7) := GE.seq_step (by kernel_rfl)
theorem n37_3s : codeB Try.prog E cx n37_3 st = thenS (codeB Try.prog E cx n37_4 st) (codeB Try.prog E cx n37_5) := GE.seq_step (by kernel_rfl)
theorem n37_14s : codeB Try.prog E ⟨f, 23, b, ro⟩ n37_14 st = plainS (runOps Try.prog E b q37_14 (ops [true, true, false, false] Try.f37) st) := GE.region_step (id := 4) (GE.reg_of (by kernel_rfl)) (by kernel_rfl)
theorem n37_16s : codeB Try.prog E ⟨f, 23, b, ro⟩ n37_16 st = plainS (runOps Try.prog E b q37_16 (ops [true, true, false, true, false] Try.f37) st) := GE.region_step (id := 5) (GE.reg_of (by kernel_rfl)) (by kernel_rfl)
theorem n37_19s : codeB Try.prog E ⟨f, 23, b, ro⟩ n37_19 st = plainS (runOps Try.prog E b q37_19 (ops [true, true, false, true, true, false, false] Try.f37) st) := GE.region_step (id := 6) (GE.reg_of (by kernel_rfl)) (by kernel_rfl)
theorem n37_20s : codeB Try.prog LL ⟨37, 23, b, ro⟩ n37_20 st = normS b ⟨[4], []⟩ .ret st := GE.ret_step (by kernel_rfl) (by kernel_rfl)
theorem n37_18s : codeB Try.prog E cx n37_18 st = thenS (codeB Try.prog E cx n37_19 st) (codeB Try.prog E cx n37_20) := GE.seq_step (by kernel_rfl)
theorem n37_21s : codeB Try.prog E cx n37_21 st = some (.normal, st) := GE.skip_step (by kernel_rfl)
theorem n37_17s : codeB Try.prog E cx n37_17 st = condS (codeB Try.prog E cx n37_18) (codeB Try.prog E cx n37_21) (lk st.σ 22) st := GE.cond_step (c := .tmp 22) (by kernel_rfl)
theorem n37_15s : codeB Try.prog E cx n37_15 st = thenS (codeB Try.prog E cx n37_16 st) (codeB Try.prog E cx n37_17) := GE.seq_step (by kernel_rfl)
theorem n37_13s : codeB Try.prog E cx n37_13 st = thenS (codeB Try.prog E cx n37_14 st) (codeB Try.prog E cx n37_15) := GE.seq_step (by kernel_rfl)
theorem n37_23s : codeB Try.prog E ⟨f, 23, b, ro⟩ n37_23 st = plainS (runOps Try.prog E b q37_23 (ops [true, true, true, false] Try.f37) st) := GE.region_step (id := 7) (GE.reg_of (by kernel_rfl)) (by kernel_rfl)
theorem n37_24s : codeB Try.prog LL ⟨37, 23, b, ro⟩ n37_24 st = normS b ⟨[4], []⟩ .ret st := GE.ret_step (by kernel_rfl) (by kernel_rfl)
theorem n37_22s : codeB Try.prog E cx n37_22 st = thenS (codeB Try.prog E cx n37_23 st) (codeB Try.prog E cx n37_24) := GE.seq_step (by kernel_rfl)
theorem n37_12s : codeB Try.prog E cx n37_12 st = thenS (codeB Try.prog E cx n37_13 st) (codeB Try.prog E cx n37_22) := GE.seq_step (by kernel_rfl)
theorem n37_2s : codeB Try.prog E cx n37_2 st = thenS (codeB Try.prog E cx n37_3 st) (codeB Try.prog E cx n37_12) := GE.seq_step (by kernel_rfl)
theorem n37_0s : codeB Try.prog E cx n37_0 st = thenS (codeB Try.prog E cx n37_1 st) (codeB Try.prog E cx n37_2) := GE.seq_step (by kernel_rfl)
noncomputable def n42_0 : Code := bodyOf Try.f42
noncomputable def n42_1 : Code := cl n42_0
noncomputable def q42_1 : List Oper := opsOf n42_1
noncomputable def n42_2 : Code := cr n42_0
noncomputable def n42_3 : Code := cl n42_2
noncomputable def n42_4 : Code := cl n42_3
noncomputable def q42_4 : List Oper := opsOf n42_4
noncomputable def n42_5 : Code := cr n42_3
noncomputable def n42_6 : Code := cl n42_5
noncomputable def q42_6 : List Oper := opsOf n42_6
noncomputable def n42_7 : Code := cr n42_5
noncomputable def n42_8 : Code := cl n42_7
noncomputable def n42_9 : Code := cl n42_8
noncomputable def q42_9 : List Oper := opsOf n42_9
noncomputable def n42_10 : Code := cr n42_8
noncomputable def n42_11 : Code := cr n42_7
noncomputable def n42_12 : Code := cr n42_2
noncomputable def n42_13 : Code := cl n42_12
noncomputable def q42_13 : List Oper := opsOf n42_13
noncomputable def n42_14 : Code := cr n42_12
noncomputable def n42_15 : Code := cl n42_14
noncomputable def n42_16 : Code := cl n42_15
noncomputable def q42_16 : List Oper := opsOf n42_16
noncomputable def n42_17 : Code := cr n42_15
noncomputable def n42_18 : Code := cl n42_17
noncomputable def n42_19 : Code := cl n42_18
noncomputable def q42_19 : List Oper := opsOf n42_19
noncomputable def n42_20 : Code := cr n42_18
noncomputable def n42_21 : Code := cr n42_17
noncomputable def n42_22 : Code := cr n42_14
noncomputable def n42_23 : Code := cl n42_22
noncomputable def q42_23 : List Oper := opsOf n42_23
noncomputable def n42_24 : Code := cr n42_22
theorem body42 : Try.f42.body = some n42_0 := by kernel_rfl
theorem run42 (E : Ev) (args : List Value) (h : List Blk) (hl : args.length ≤ 26) : runB Try.prog E 42 args h = endS Try.prog [.tmp 4, .tmp 5, .tmp 6] h.length (codeB Try.prog E ⟨42, 26, h.length, none⟩ n42_0 ⟨enumT 0 args, h, []⟩) := GE.run_step Try.func42 body42 (by kernel_rfl) (by decide) (by kernel_rfl) hl
theorem n42_1s : codeB Try.prog E ⟨f, 26, b, ro⟩ n42_1 st = plainS (runOps Try.prog E b q42_1 (ops [false] Try.f42) st) := GE.region_step (id := 0) (GE.reg_of (by kernel_rfl)) (by kernel_rfl)
theorem n42_4s : codeB Try.prog E ⟨f, 26, b, ro⟩ n42_4 st = plainS (runOps Try.prog E b q42_4 (ops [true, false, false] Try.f42) st) := GE.region_step (id := 1) (GE.reg_of (by kernel_rfl)) (by kernel_rfl)
theorem n42_6s : codeB Try.prog E ⟨f, 26, b, ro⟩ n42_6 st = plainS (runOps Try.prog E b q42_6 (ops [true, false, true, false] Try.f42) st) := GE.region_step (id := 2) (GE.reg_of (by kernel_rfl)) (by kernel_rfl)
theorem n42_9s : codeB Try.prog E ⟨f, 26, b, ro⟩ n42_9 st = plainS (runOps Try.prog E b q42_9 (ops [true, false, true, true, false, false] Try.f42) st) := GE.region_step (id := 3) (GE.reg_of (by kernel_rfl)) (by kernel_rfl)
theorem n42_10s : codeB Try.prog LL ⟨42, 26, b, ro⟩ n42_10 st = normS b ⟨[4, 5, 6], []⟩ .ret st := GE.ret_step (by kernel_rfl) (by kernel_rfl)
theorem n42_8s : codeB Try.prog E cx n42_8 st = thenS (codeB Try.prog E cx n42_9 st) (codeB Try.prog E cx n42_10) := GE.seq_step (by kernel_rfl)
theorem n42_11s : codeB Try.prog E cx n42_11 st = some (.normal, st) := GE.skip_step (by kernel_rfl)
theorem n42_7s : codeB Try.prog E cx n42_7 st = condS (codeB Try.prog E cx n42_8) (codeB Try.prog E cx n42_11) (lk st.σ 13) st := GE.cond_step (c := .tmp 13) (by kernel_rfl)
theorem n42_5s : codeB Try.prog E cx n42_5 st = thenS (codeB Try.prog E cx n42_6 st) (codeB Try.prog E cx n42_7) := GE.seq_step (by kernel_rfl)
theorem n42_3s : codeB Try.prog E cx n42_3 st = thenS (codeB Try.prog E cx n42_4 st) (codeB Try.prog E cx n42_5) := GE.seq_step (by kernel_rfl)
theorem n42_13s : codeB Try.prog E ⟨f, 26, b, ro⟩ n42_13 st = plainS (runOps Try.prog E b q42_13 (ops [true, true, false] Try.f42) st) := GE.region_step (id := 4) (GE.reg_of (by kernel_rfl)) (by kernel_rfl)
theorem n42_16s : codeB Try.prog E ⟨f, 26, b, ro⟩ n42_16 st = plainS (runOps Try.prog E b q42_16 (ops [true, true, true, false, false] Try.f42) st) := GE.region_step (id := 5) (GE.reg_of (by kernel_rfl)) (by kernel_rfl)
theorem n42_19s : codeB Try.prog E ⟨f, 26, b, ro⟩ n42_19 st = plainS (runOps Try.prog E b q42_19 (ops [true, true, true, false, true, false, false] Try.f42) st) := GE.region_step (id := 6) (GE.reg_of (by kernel_rfl)) (by kernel_rfl)
theorem n42_20s : codeB Try.prog LL ⟨42, 26, b, ro⟩ n42_20 st = normS b ⟨[4, 5, 6], []⟩ .ret st := GE.ret_step (by kernel_rfl) (by kernel_rfl)
theorem n42_18s : codeB Try.prog E cx n42_18 st = thenS (codeB Try.prog E cx n42_19 st) (codeB Try.prog E cx n42_20) := GE.seq_step (by kernel_rfl)
theorem n42_21s : codeB Try.prog E cx n42_21 st = some (.normal, st) := GE.skip_step (by kernel_rfl)
theorem n42_17s : codeB Try.prog E cx n42_17 st = condS (codeB Try.prog E cx n42_18) (codeB Try.prog E cx n42_21) (lk st.σ 23) st := GE.cond_step (c := .tmp 23) (by kernel_rfl)
theorem n42_15s : codeB Try.prog E cx n42_15 st = thenS (codeB Try.prog E cx n42_16 st) (codeB Try.prog E cx n42_17) := GE.seq_step (by kernel_rfl)
theorem n42_23s : codeB Try.prog E ⟨f, 26, b, ro⟩ n42_23 st = plainS (runOps Try.prog E b q42_23 (ops [true, true, true, true, false] Try.f42) st) := GE.region_step (id := 7) (GE.reg_of (by kernel_rfl)) (by kernel_rfl)
theorem n42_24s : codeB Try.prog LL ⟨42, 26, b, ro⟩ n42_24 st = normS b ⟨[4, 5, 6], []⟩ .ret st := GE.ret_step (by kernel_rfl) (by kernel_rfl)
theorem n42_22s : codeB Try.prog E cx n42_22 st = thenS (codeB Try.prog E cx n42_23 st) (codeB Try.prog E cx n42_24) := GE.seq_step (by kernel_rfl)
theorem n42_14s : codeB Try.prog E cx n42_14 st = thenS (codeB Try.prog E cx n42_15 st) (codeB Try.prog E cx n42_22) := GE.seq_step (by kernel_rfl)
theorem n42_12s : codeB Try.prog E cx n42_12 st = thenS (codeB Try.prog E cx n42_13 st) (codeB Try.prog E cx n42_14) := GE.seq_step (by kernel_rfl)
theorem n42_2s : codeB Try.prog E cx n42_2 st = thenS (codeB Try.prog E cx n42_3 st) (codeB Try.prog E cx n42_12) := GE.seq_step (by kernel_rfl)
theorem n42_0s : codeB Try.prog E cx n42_0 st = thenS (codeB Try.prog E cx n42_1 st) (codeB Try.prog E cx n42_2) := GE.seq_step (by kernel_rfl)
noncomputable def n45_0 : Code := bodyOf Try.f45
noncomputable def n45_1 : Code := cl n45_0
noncomputable def q45_1 : List Oper := opsOf n45_1
noncomputable def n45_2 : Code := cr n45_0
noncomputable def n45_3 : Code := cl n45_2
noncomputable def n45_4 : Code := cl n45_3
noncomputable def n45_5 : Code := cl n45_4
noncomputable def q45_5 : List Oper := opsOf n45_5
noncomputable def n45_6 : Code := cr n45_4
noncomputable def n45_7 : Code := cl n45_6
noncomputable def n45_8 : Code := cl n45_7
noncomputable def q45_8 : List Oper := opsOf n45_8
noncomputable def n45_9 : Code := cr n45_7
noncomputable def n45_10 : Code := cr n45_6
noncomputable def n45_11 : Code := cl n45_10
noncomputable def q45_11 : List Oper := opsOf n45_11
noncomputable def n45_12 : Code := cr n45_10
noncomputable def n45_13 : Code := cl n45_12
noncomputable def n45_14 : Code := cl n45_13
noncomputable def q45_14 : List Oper := opsOf n45_14
noncomputable def n45_15 : Code := cr n45_13
noncomputable def n45_16 : Code := cr n45_12
noncomputable def n45_17 : Code := cl n45_16
noncomputable def q45_17 : List Oper := opsOf n45_17
noncomputable def n45_18 : Code := cr n45_16
noncomputable def n45_19 : Code := cl n45_18
noncomputable def n45_20 : Code := cl n45_19
noncomputable def q45_20 : List Oper := opsOf n45_20
noncomputable def n45_21 : Code := cr n45_19
noncomputable def n45_22 : Code := cr n45_18
noncomputable def n45_23 : Code := cr n45_2
noncomputable def n45_24 : Code := cl n45_23
noncomputable def q45_24 : List Oper := opsOf n45_24
noncomputable def n45_25 : Code := cr n45_23
theorem body45 : Try.f45.body = some n45_0 := by kernel_rfl
theorem run45 (E : Ev) (args : List Value) (h : List Blk) (hl : args.length ≤ 14) : runB Try.prog E 45 args h = endS Try.prog [.tmp 2] h.length (codeB Try.prog E ⟨45, 14, h.length, none⟩ n45_0 ⟨enumT 0 args, h, []⟩) := GE.run_step Try.func45 body45 (by kernel_rfl) (by decide) (by kernel_rfl) hl
theorem n45_1s : codeB Try.prog E ⟨f, 14, b, ro⟩ n45_1 st = plainS (runOps Try.prog E b q45_1 (ops [false] Try.f45) st) := GE.region_step (id := 0) (GE.reg_of (by kernel_rfl)) (by kernel_rfl)
theorem n45_5s : codeB Try.prog E ⟨f, 14, b, ro⟩ n45_5 st = plainS (runOps Try.prog E b q45_5 (ops [true, false, false, false] Try.f45) st) := GE.region_step (id := 1) (GE.reg_of (by kernel_rfl)) (by kernel_rfl)
theorem n45_8s : codeB Try.prog E ⟨f, 14, b, ro⟩ n45_8 st = plainS (runOps Try.prog E b q45_8 (ops [true, false, false, true, false, false] Try.f45) st) := GE.region_step (id := 2) (GE.reg_of (by kernel_rfl)) (by kernel_rfl)
theorem n45_9s : codeB Try.prog LL ⟨45, 14, b, ro⟩ n45_9 st = normS b ⟨[2], []⟩ .ret st := GE.ret_step (by kernel_rfl) (by kernel_rfl)
theorem n45_7s : codeB Try.prog E cx n45_7 st = thenS (codeB Try.prog E cx n45_8 st) (codeB Try.prog E cx n45_9) := GE.seq_step (by kernel_rfl)
theorem n45_11s : codeB Try.prog E ⟨f, 14, b, ro⟩ n45_11 st = plainS (runOps Try.prog E b q45_11 (ops [true, false, false, true, true, false] Try.f45) st) := GE.region_step (id := 3) (GE.reg_of (by kernel_rfl)) (by kernel_rfl)
theorem n45_14s : codeB Try.prog E ⟨f, 14, b, ro⟩ n45_14 st = plainS (runOps Try.prog E b q45_14 (ops [true, false, false, true, true, true, false, false] Try.f45) st) := GE.region_step (id := 4) (GE.reg_of (by kernel_rfl)) (by kernel_rfl)
theorem n45_15s : codeB Try.prog LL ⟨45, 14, b, ro⟩ n45_15 st = normS b ⟨[2], []⟩ .ret st := GE.ret_step (by kernel_rfl) (by kernel_rfl)
theorem n45_13s : codeB Try.prog E cx n45_13 st = thenS (codeB Try.prog E cx n45_14 st) (codeB Try.prog E cx n45_15) := GE.seq_step (by kernel_rfl)
theorem n45_17s : codeB Try.prog E ⟨f, 14, b, ro⟩ n45_17 st = plainS (runOps Try.prog E b q45_17 (ops [true, false, false, true, true, true, true, false] Try.f45) st) := GE.region_step (id := 5) (GE.reg_of (by kernel_rfl)) (by kernel_rfl)
theorem n45_20s : codeB Try.prog E ⟨f, 14, b, ro⟩ n45_20 st = plainS (runOps Try.prog E b q45_20 (ops [true, false, false, true, true, true, true, true, false, false] Try.f45) st) := GE.region_step (id := 6) (GE.reg_of (by kernel_rfl)) (by kernel_rfl)
theorem n45_21s : codeB Try.prog LL ⟨45, 14, b, ro⟩ n45_21 st = normS b ⟨[2], []⟩ .ret st := GE.ret_step (by kernel_rfl) (by kernel_rfl)
theorem n45_19s : codeB Try.prog E cx n45_19 st = thenS (codeB Try.prog E cx n45_20 st) (codeB Try.prog E cx n45_21) := GE.seq_step (by kernel_rfl)
theorem n45_22s : codeB Try.prog E cx n45_22 st = some (.normal, st) := GE.skip_step (by kernel_rfl)
theorem n45_18s : codeB Try.prog E cx n45_18 st = condS (codeB Try.prog E cx n45_19) (codeB Try.prog E cx n45_22) (lk st.σ 11) st := GE.cond_step (c := .tmp 11) (by kernel_rfl)
theorem n45_16s : codeB Try.prog E cx n45_16 st = thenS (codeB Try.prog E cx n45_17 st) (codeB Try.prog E cx n45_18) := GE.seq_step (by kernel_rfl)
theorem n45_12s : codeB Try.prog E cx n45_12 st = condS (codeB Try.prog E cx n45_13) (codeB Try.prog E cx n45_16) (lk st.σ 7) st := GE.cond_step (c := .tmp 7) (by kernel_rfl)
theorem n45_10s : codeB Try.prog E cx n45_10 st = thenS (codeB Try.prog E cx n45_11 st) (codeB Try.prog E cx n45_12) := GE.seq_step (by kernel_rfl)
theorem n45_6s : codeB Try.prog E cx n45_6 st = condS (codeB Try.prog E cx n45_7) (codeB Try.prog E cx n45_10) (lk st.σ 3) st := GE.cond_step (c := .tmp 3) (by kernel_rfl)
theorem n45_4s : codeB Try.prog E cx n45_4 st = thenS (codeB Try.prog E cx n45_5 st) (codeB Try.prog E cx n45_6) := GE.seq_step (by kernel_rfl)
theorem n45_3s : codeB Try.prog E cx n45_3 st = blockS 0 (codeB Try.prog E cx n45_4 st) st := GE.block_step (by kernel_rfl)
theorem n45_24s : codeB Try.prog E ⟨f, 14, b, ro⟩ n45_24 st = plainS (runOps Try.prog E b q45_24 (ops [true, true, false] Try.f45) st) := GE.region_step (id := 7) (GE.reg_of (by kernel_rfl)) (by kernel_rfl)
theorem n45_25s : codeB Try.prog LL ⟨45, 14, b, ro⟩ n45_25 st = normS b ⟨[2], []⟩ .ret st := GE.ret_step (by kernel_rfl) (by kernel_rfl)
theorem n45_23s : codeB Try.prog E cx n45_23 st = thenS (codeB Try.prog E cx n45_24 st) (codeB Try.prog E cx n45_25) := GE.seq_step (by kernel_rfl)
theorem n45_2s : codeB Try.prog E cx n45_2 st = thenS (codeB Try.prog E cx n45_3 st) (codeB Try.prog E cx n45_23) := GE.seq_step (by kernel_rfl)
theorem n45_0s : codeB Try.prog E cx n45_0 st = thenS (codeB Try.prog E cx n45_1 st) (codeB Try.prog E cx n45_2) := GE.seq_step (by kernel_rfl)
noncomputable def n46_0 : Code := bodyOf Try.f46
noncomputable def n46_1 : Code := cl n46_0
noncomputable def q46_1 : List Oper := opsOf n46_1
noncomputable def n46_2 : Code := cr n46_0
noncomputable def n46_3 : Code := cl n46_2
noncomputable def q46_3 : List Oper := opsOf n46_3
noncomputable def n46_4 : Code := cr n46_2
noncomputable def n46_5 : Code := cl n46_4
noncomputable def n46_6 : Code := cl n46_5
noncomputable def q46_6 : List Oper := opsOf n46_6
noncomputable def n46_7 : Code := cr n46_5
noncomputable def n46_8 : Code := cl n46_7
noncomputable def n46_9 : Code := cl n46_8
noncomputable def q46_9 : List Oper := opsOf n46_9
noncomputable def n46_10 : Code := cr n46_8
noncomputable def n46_11 : Code := cr n46_7
noncomputable def n46_12 : Code := cr n46_4
noncomputable def n46_13 : Code := cl n46_12
noncomputable def n46_14 : Code := cl n46_13
noncomputable def q46_14 : List Oper := opsOf n46_14
noncomputable def n46_15 : Code := cr n46_13
noncomputable def n46_16 : Code := cl n46_15
noncomputable def n46_17 : Code := cl n46_16
noncomputable def n46_18 : Code := cl n46_17
noncomputable def n46_19 : Code := cl n46_18
noncomputable def q46_19 : List Oper := opsOf n46_19
noncomputable def n46_20 : Code := cr n46_18
noncomputable def n46_21 : Code := cl n46_20
noncomputable def n46_22 : Code := cr n46_20
noncomputable def n46_23 : Code := cr n46_17
noncomputable def n46_24 : Code := cl n46_23
noncomputable def n46_25 : Code := cl n46_24
noncomputable def n46_26 : Code := cl n46_25
noncomputable def q46_26 : List Oper := opsOf n46_26
noncomputable def n46_27 : Code := cr n46_25
noncomputable def n46_28 : Code := cl n46_27
noncomputable def n46_29 : Code := cl n46_28
noncomputable def n46_30 : Code := cl n46_29
noncomputable def n46_31 : Code := cl n46_30
noncomputable def q46_31 : List Oper := opsOf n46_31
noncomputable def n46_32 : Code := cr n46_30
noncomputable def n46_33 : Code := cl n46_32
noncomputable def n46_34 : Code := cr n46_32
noncomputable def n46_35 : Code := cr n46_29
noncomputable def n46_36 : Code := cl n46_35
noncomputable def n46_37 : Code := cl n46_36
noncomputable def n46_38 : Code := cl n46_37
noncomputable def q46_38 : List Oper := opsOf n46_38
noncomputable def n46_39 : Code := cr n46_37
noncomputable def n46_40 : Code := cl n46_39
noncomputable def n46_41 : Code := cl n46_40
noncomputable def q46_41 : List Oper := opsOf n46_41
noncomputable def n46_42 : Code := cr n46_40
noncomputable def n46_43 : Code := cr n46_39
noncomputable def n46_44 : Code := cr n46_35
noncomputable def q46_44 : List Oper := opsOf n46_44
noncomputable def n46_45 : Code := cr n46_23
noncomputable def q46_45 : List Oper := opsOf n46_45
noncomputable def n46_46 : Code := cr n46_12
noncomputable def n46_47 : Code := cl n46_46
noncomputable def q46_47 : List Oper := opsOf n46_47
noncomputable def n46_48 : Code := cr n46_46
theorem body46 : Try.f46.body = some n46_0 := by kernel_rfl
theorem run46 (E : Ev) (args : List Value) (h : List Blk) (hl : args.length ≤ 42) : runB Try.prog E 46 args h = endS Try.prog [.tmp 4, .tmp 5, .tmp 6] h.length (codeB Try.prog E ⟨46, 42, h.length, none⟩ n46_0 ⟨enumT 0 args, h, []⟩) := GE.run_step Try.func46 body46 (by kernel_rfl) (by decide) (by kernel_rfl) hl
theorem n46_1s : codeB Try.prog E ⟨f, 42, b, ro⟩ n46_1 st = plainS (runOps Try.prog E b q46_1 (ops [false] Try.f46) st) := GE.region_step (id := 0) (GE.reg_of (by kernel_rfl)) (by kernel_rfl)
theorem n46_3s : codeB Try.prog E ⟨f, 42, b, ro⟩ n46_3 st = plainS (runOps Try.prog E b q46_3 (ops [true, false] Try.f46) st) := GE.region_step (id := 1) (GE.reg_of (by kernel_rfl)) (by kernel_rfl)
theorem n46_6s : codeB Try.prog E ⟨f, 42, b, ro⟩ n46_6 st = plainS (runOps Try.prog E b q46_6 (ops [true, true, false, false] Try.f46) st) := GE.region_step (id := 2) (GE.reg_of (by kernel_rfl)) (by kernel_rfl)
theorem n46_9s : codeB Try.prog E ⟨f, 42, b, ro⟩ n46_9 st = plainS (runOps Try.prog E b q46_9 (ops [true, true, false, true, false, false] Try.f46) st) := GE.region_step (id := 3) (GE.reg_of (by kernel_rfl)) (by kernel_rfl)
theorem n46_10s : codeB Try.prog LL ⟨46, 42, b, ro⟩ n46_10 st = normS b ⟨[4, 5, 6], []⟩ .ret st := GE.ret_step (by kernel_rfl) (by kernel_rfl)
theorem n46_8s : codeB Try.prog E cx n46_8 st = thenS (codeB Try.prog E cx n46_9 st) (codeB Try.prog E cx n46_10) := GE.seq_step (by kernel_rfl)
theorem n46_11s : codeB Try.prog E cx n46_11 st = some (.normal, st) := GE.skip_step (by kernel_rfl)
theorem n46_7s : codeB Try.prog E cx n46_7 st = condS (codeB Try.prog E cx n46_8) (codeB Try.prog E cx n46_11) (lk st.σ 14) st := GE.cond_step (c := .tmp 14) (by kernel_rfl)
theorem n46_5s : codeB Try.prog E cx n46_5 st = thenS (codeB Try.prog E cx n46_6 st) (codeB Try.prog E cx n46_7) := GE.seq_step (by kernel_rfl)
theorem n46_14s : codeB Try.prog E ⟨f, 42, b, ro⟩ n46_14 st = plainS (runOps Try.prog E b q46_14 (ops [true, true, true, false, false] Try.f46) st) := GE.region_step (id := 4) (GE.reg_of (by kernel_rfl)) (by kernel_rfl)
theorem n46_19s : codeB Try.prog E ⟨f, 42, b, ro⟩ n46_19 st = plainS (runOps Try.prog E b q46_19 (ops [true, true, true, false, true, false, false, false, false] Try.f46) st) := GE.region_step (id := 5) (GE.reg_of (by kernel_rfl)) (by kernel_rfl)
theorem n46_21s : codeB Try.prog E cx n46_21 st = some (.normal, st) := GE.skip_step (by kernel_rfl)
theorem n46_22s : codeB Try.prog LL ⟨46, 42, b, ro⟩ n46_22 st = normS b ⟨[], []⟩ (.exit 0) st := GE.exit_step (by kernel_rfl) (by kernel_rfl)
theorem n46_20s : codeB Try.prog E cx n46_20 st = condS (codeB Try.prog E cx n46_21) (codeB Try.prog E cx n46_22) (lk st.σ 19) st := GE.cond_step (c := .tmp 19) (by kernel_rfl)
theorem n46_18s : codeB Try.prog E cx n46_18 st = thenS (codeB Try.prog E cx n46_19 st) (codeB Try.prog E cx n46_20) := GE.seq_step (by kernel_rfl)
theorem n46_26s : codeB Try.prog E ⟨f, 42, b, ro⟩ n46_26 st = plainS (runOps Try.prog E b q46_26 (ops [true, true, true, false, true, false, false, true, false, false, false] Try.f46) st) := GE.region_step (id := 7) (GE.reg_of (by kernel_rfl)) (by kernel_rfl)
theorem n46_31s : codeB Try.prog E ⟨f, 42, b, ro⟩ n46_31 st = plainS (runOps Try.prog E b q46_31 (ops [true, true, true, false, true, false, false, true, false, false, true, false, false, false, false] Try.f46) st) := GE.region_step (id := 8) (GE.reg_of (by kernel_rfl)) (by kernel_rfl)
theorem n46_33s : codeB Try.prog E cx n46_33 st = some (.normal, st) := GE.skip_step (by kernel_rfl)
theorem n46_34s : codeB Try.prog LL ⟨46, 42, b, ro⟩ n46_34 st = normS b ⟨[0, 1, 8], [⟨0, 0, 2, true⟩, ⟨1, 0, 1, true⟩]⟩ (.exit 2) st := GE.exit_step (by kernel_rfl) (by kernel_rfl)
theorem n46_32s : codeB Try.prog E cx n46_32 st = condS (codeB Try.prog E cx n46_33) (codeB Try.prog E cx n46_34) (lk st.σ 27) st := GE.cond_step (c := .tmp 27) (by kernel_rfl)
theorem n46_30s : codeB Try.prog E cx n46_30 st = thenS (codeB Try.prog E cx n46_31 st) (codeB Try.prog E cx n46_32) := GE.seq_step (by kernel_rfl)
theorem n46_38s : codeB Try.prog E ⟨f, 42, b, ro⟩ n46_38 st = drawS [0, 0, 0, 6, 14, 0, 0, 96, 224, 511] (runOpsF Try.prog E b q46_38 (ops [true, true, true, false, true, false, false, true, false, false, true, false, false, true, false, false, false] Try.f46) st) := GE.draw_step (id := 10) (GE.reg_of (by kernel_rfl)) (by kernel_rfl) (by kernel_rfl) (by kernel_rfl)
theorem n46_41s : codeB Try.prog E ⟨f, 42, b, ro⟩ n46_41 st = plainS (runOps Try.prog E b q46_41 (ops [true, true, true, false, true, false, false, true, false, false, true, false, false, true, false, false, true, false, false] Try.f46) st) := GE.region_step (id := 11) (GE.reg_of (by kernel_rfl)) (by kernel_rfl)
theorem n46_42s : codeB Try.prog LL ⟨46, 42, b, ro⟩ n46_42 st = normS b ⟨[4, 5, 6], []⟩ .ret st := GE.ret_step (by kernel_rfl) (by kernel_rfl)
theorem n46_40s : codeB Try.prog E cx n46_40 st = thenS (codeB Try.prog E cx n46_41 st) (codeB Try.prog E cx n46_42) := GE.seq_step (by kernel_rfl)
theorem n46_43s : codeB Try.prog E cx n46_43 st = some (.normal, st) := GE.skip_step (by kernel_rfl)
theorem n46_39s : codeB Try.prog E cx n46_39 st = condS (codeB Try.prog E cx n46_40) (codeB Try.prog E cx n46_43) (lk st.σ 39) st := GE.cond_step (c := .tmp 39) (by kernel_rfl)
theorem n46_37s : codeB Try.prog E cx n46_37 st = thenS (codeB Try.prog E cx n46_38 st) (codeB Try.prog E cx n46_39) := GE.seq_step (by kernel_rfl)
theorem n46_36s : codeB Try.prog E cx n46_36 st = blockS 3 (codeB Try.prog E cx n46_37 st) st := GE.block_step (by kernel_rfl)
theorem n46_44s : codeB Try.prog E ⟨f, 42, b, ro⟩ n46_44 st = plainS (runOps Try.prog E b q46_44 (ops [true, true, true, false, true, false, false, true, false, false, true, false, false, true, true] Try.f46) st) := GE.region_step (id := 9) (GE.reg_of (by kernel_rfl)) (by kernel_rfl)
theorem n46_35s : codeB Try.prog E cx n46_35 st = thenS (codeB Try.prog E cx n46_36 st) (codeB Try.prog E cx n46_44) := GE.seq_step (by kernel_rfl)
theorem n46_29s : codeB Try.prog E cx n46_29 st = thenS (codeB Try.prog E cx n46_30 st) (codeB Try.prog E cx n46_35) := GE.seq_step (by kernel_rfl)
theorem n46_28k : LL.kp (⟨46, 42, b, ro⟩ : Cx).fn (4 * rid n46_29 + 3) = some ⟨[9, 0, 1, 8], [⟨0, 0, 2, true⟩, ⟨1, 0, 1, true⟩]⟩ := by kernel_rfl
theorem n46_28s : codeB Try.prog LL ⟨46, 42, b, ro⟩ n46_28 st = headS b ⟨[9, 0, 1, 8], [⟨0, 0, 2, true⟩, ⟨1, 0, 1, true⟩]⟩ st (lpB Try.prog LL ⟨46, 42, b, ro⟩ n46_28 n46_29) := GE.lpB_step (by kernel_rfl) (n46_28k b ro)
theorem n46_28g : LL.code ⟨46, 42, b, ro⟩ n46_28 st = headS b ⟨[9, 0, 1, 8], [⟨0, 0, 2, true⟩, ⟨1, 0, 1, true⟩]⟩ st (lpB Try.prog LL ⟨46, 42, b, ro⟩ n46_28 n46_29) := GE.lpB_again (by kernel_rfl) (n46_28k b ro)
theorem n46_27s : codeB Try.prog E cx n46_27 st = blockS 2 (codeB Try.prog E cx n46_28 st) st := GE.block_step (by kernel_rfl)
theorem n46_25s : codeB Try.prog E cx n46_25 st = thenS (codeB Try.prog E cx n46_26 st) (codeB Try.prog E cx n46_27) := GE.seq_step (by kernel_rfl)
theorem n46_24s : codeB Try.prog E cx n46_24 st = blockS 1 (codeB Try.prog E cx n46_25 st) st := GE.block_step (by kernel_rfl)
theorem n46_45s : codeB Try.prog E ⟨f, 42, b, ro⟩ n46_45 st = plainS (runOps Try.prog E b q46_45 (ops [true, true, true, false, true, false, false, true, true] Try.f46) st) := GE.region_step (id := 6) (GE.reg_of (by kernel_rfl)) (by kernel_rfl)
theorem n46_23s : codeB Try.prog E cx n46_23 st = thenS (codeB Try.prog E cx n46_24 st) (codeB Try.prog E cx n46_45) := GE.seq_step (by kernel_rfl)
theorem n46_17s : codeB Try.prog E cx n46_17 st = thenS (codeB Try.prog E cx n46_18 st) (codeB Try.prog E cx n46_23) := GE.seq_step (by kernel_rfl)
theorem n46_16k : LL.kp (⟨46, 42, b, ro⟩ : Cx).fn (4 * rid n46_17 + 3) = some ⟨[0, 1, 8], [⟨0, 0, 2, true⟩, ⟨1, 0, 1, true⟩]⟩ := by kernel_rfl
theorem n46_16s : codeB Try.prog LL ⟨46, 42, b, ro⟩ n46_16 st = headS b ⟨[0, 1, 8], [⟨0, 0, 2, true⟩, ⟨1, 0, 1, true⟩]⟩ st (lpB Try.prog LL ⟨46, 42, b, ro⟩ n46_16 n46_17) := GE.lpB_step (by kernel_rfl) (n46_16k b ro)
theorem n46_16g : LL.code ⟨46, 42, b, ro⟩ n46_16 st = headS b ⟨[0, 1, 8], [⟨0, 0, 2, true⟩, ⟨1, 0, 1, true⟩]⟩ st (lpB Try.prog LL ⟨46, 42, b, ro⟩ n46_16 n46_17) := GE.lpB_again (by kernel_rfl) (n46_16k b ro)
theorem n46_15s : codeB Try.prog E cx n46_15 st = blockS 0 (codeB Try.prog E cx n46_16 st) st := GE.block_step (by kernel_rfl)
theorem n46_13s : codeB Try.prog E cx n46_13 st = thenS (codeB Try.prog E cx n46_14 st) (codeB Try.prog E cx n46_15) := GE.seq_step (by kernel_rfl)
theorem n46_47s : codeB Try.prog E ⟨f, 42, b, ro⟩ n46_47 st = plainS (runOps Try.prog E b q46_47 (ops [true, true, true, true, false] Try.f46) st) := GE.region_step (id := 12) (GE.reg_of (by kernel_rfl)) (by kernel_rfl)
theorem n46_48s : codeB Try.prog LL ⟨46, 42, b, ro⟩ n46_48 st = normS b ⟨[4, 5, 6], []⟩ .ret st := GE.ret_step (by kernel_rfl) (by kernel_rfl)
theorem n46_46s : codeB Try.prog E cx n46_46 st = thenS (codeB Try.prog E cx n46_47 st) (codeB Try.prog E cx n46_48) := GE.seq_step (by kernel_rfl)
theorem n46_12s : codeB Try.prog E cx n46_12 st = thenS (codeB Try.prog E cx n46_13 st) (codeB Try.prog E cx n46_46) := GE.seq_step (by kernel_rfl)
theorem n46_4s : codeB Try.prog E cx n46_4 st = thenS (codeB Try.prog E cx n46_5 st) (codeB Try.prog E cx n46_12) := GE.seq_step (by kernel_rfl)
theorem n46_2s : codeB Try.prog E cx n46_2 st = thenS (codeB Try.prog E cx n46_3 st) (codeB Try.prog E cx n46_4) := GE.seq_step (by kernel_rfl)
theorem n46_0s : codeB Try.prog E cx n46_0 st = thenS (codeB Try.prog E cx n46_1 st) (codeB Try.prog E cx n46_2) := GE.seq_step (by kernel_rfl)
noncomputable def n47_0 : Code := bodyOf Try.f47
noncomputable def n47_1 : Code := cl n47_0
noncomputable def q47_1 : List Oper := opsOf n47_1
noncomputable def n47_2 : Code := cr n47_0
noncomputable def n47_3 : Code := cl n47_2
noncomputable def n47_4 : Code := cl n47_3
noncomputable def q47_4 : List Oper := opsOf n47_4
noncomputable def n47_5 : Code := cr n47_3
noncomputable def n47_6 : Code := cl n47_5
noncomputable def q47_6 : List Oper := opsOf n47_6
noncomputable def n47_7 : Code := cr n47_5
noncomputable def n47_8 : Code := cl n47_7
noncomputable def n47_9 : Code := cl n47_8
noncomputable def q47_9 : List Oper := opsOf n47_9
noncomputable def n47_10 : Code := cr n47_8
noncomputable def n47_11 : Code := cr n47_7
noncomputable def n47_12 : Code := cr n47_2
noncomputable def n47_13 : Code := cl n47_12
noncomputable def q47_13 : List Oper := opsOf n47_13
noncomputable def n47_14 : Code := cr n47_12
noncomputable def n47_15 : Code := cl n47_14
noncomputable def n47_16 : Code := cl n47_15
noncomputable def n47_17 : Code := cl n47_16
noncomputable def q47_17 : List Oper := opsOf n47_17
noncomputable def n47_18 : Code := cr n47_16
noncomputable def n47_19 : Code := cl n47_18
noncomputable def n47_20 : Code := cl n47_19
noncomputable def q47_20 : List Oper := opsOf n47_20
noncomputable def n47_21 : Code := cr n47_19
noncomputable def n47_22 : Code := cr n47_18
noncomputable def n47_23 : Code := cl n47_22
noncomputable def q47_23 : List Oper := opsOf n47_23
noncomputable def n47_24 : Code := cr n47_22
noncomputable def n47_25 : Code := cl n47_24
noncomputable def n47_26 : Code := cl n47_25
noncomputable def q47_26 : List Oper := opsOf n47_26
noncomputable def n47_27 : Code := cr n47_25
noncomputable def n47_28 : Code := cr n47_24
noncomputable def n47_29 : Code := cr n47_14
noncomputable def n47_30 : Code := cl n47_29
noncomputable def q47_30 : List Oper := opsOf n47_30
noncomputable def n47_31 : Code := cr n47_29
theorem body47 : Try.f47.body = some n47_0 := by kernel_rfl
theorem run47 (E : Ev) (args : List Value) (h : List Blk) (hl : args.length ≤ 48) : runB Try.prog E 47 args h = endS Try.prog [.tmp 8] h.length (codeB Try.prog E ⟨47, 48, h.length, none⟩ n47_0 ⟨enumT 0 args, h, []⟩) := GE.run_step Try.func47 body47 (by kernel_rfl) (by decide) (by kernel_rfl) hl
theorem n47_1s : codeB Try.prog E ⟨f, 48, b, ro⟩ n47_1 st = plainS (runOps Try.prog E b q47_1 (ops [false] Try.f47) st) := GE.region_step (id := 0) (GE.reg_of (by kernel_rfl)) (by kernel_rfl)
theorem n47_4s : codeB Try.prog E ⟨f, 48, b, ro⟩ n47_4 st = plainS (runOps Try.prog E b q47_4 (ops [true, false, false] Try.f47) st) := GE.region_step (id := 1) (GE.reg_of (by kernel_rfl)) (by kernel_rfl)
theorem n47_6s : codeB Try.prog E ⟨f, 48, b, ro⟩ n47_6 st = plainS (runOps Try.prog E b q47_6 (ops [true, false, true, false] Try.f47) st) := GE.region_step (id := 2) (GE.reg_of (by kernel_rfl)) (by kernel_rfl)
theorem n47_9s : codeB Try.prog E ⟨f, 48, b, ro⟩ n47_9 st = plainS (runOps Try.prog E b q47_9 (ops [true, false, true, true, false, false] Try.f47) st) := GE.region_step (id := 3) (GE.reg_of (by kernel_rfl)) (by kernel_rfl)
theorem n47_10s : codeB Try.prog LL ⟨47, 48, b, ro⟩ n47_10 st = normS b ⟨[8], []⟩ .ret st := GE.ret_step (by kernel_rfl) (by kernel_rfl)
theorem n47_8s : codeB Try.prog E cx n47_8 st = thenS (codeB Try.prog E cx n47_9 st) (codeB Try.prog E cx n47_10) := GE.seq_step (by kernel_rfl)
theorem n47_11s : codeB Try.prog E cx n47_11 st = some (.normal, st) := GE.skip_step (by kernel_rfl)
theorem n47_7s : codeB Try.prog E cx n47_7 st = condS (codeB Try.prog E cx n47_8) (codeB Try.prog E cx n47_11) (lk st.σ 15) st := GE.cond_step (c := .tmp 15) (by kernel_rfl)
theorem n47_5s : codeB Try.prog E cx n47_5 st = thenS (codeB Try.prog E cx n47_6 st) (codeB Try.prog E cx n47_7) := GE.seq_step (by kernel_rfl)
theorem n47_3s : codeB Try.prog E cx n47_3 st = thenS (codeB Try.prog E cx n47_4 st) (codeB Try.prog E cx n47_5) := GE.seq_step (by kernel_rfl)
theorem n47_13s : codeB Try.prog E ⟨f, 48, b, ro⟩ n47_13 st = plainS (runOps Try.prog E b q47_13 (ops [true, true, false] Try.f47) st) := GE.region_step (id := 4) (GE.reg_of (by kernel_rfl)) (by kernel_rfl)
theorem q47_17g4 : gd q47_17 4 = some 25 := by kernel_rfl
theorem n47_17s : codeB Try.prog E ⟨f, 48, b, ro⟩ n47_17 st = plainS (runOps Try.prog E b q47_17 (ops [true, true, true, false, false, false] Try.f47) st) := GE.region_step (id := 5) (GE.reg_of (by kernel_rfl)) (by kernel_rfl)
theorem n47_20s : codeB Try.prog E ⟨f, 48, b, ro⟩ n47_20 st = plainS (runOps Try.prog E b q47_20 (ops [true, true, true, false, false, true, false, false] Try.f47) st) := GE.region_step (id := 6) (GE.reg_of (by kernel_rfl)) (by kernel_rfl)
theorem n47_21s : codeB Try.prog LL ⟨47, 48, b, ro⟩ n47_21 st = normS b ⟨[8], []⟩ .ret st := GE.ret_step (by kernel_rfl) (by kernel_rfl)
theorem n47_19s : codeB Try.prog E cx n47_19 st = thenS (codeB Try.prog E cx n47_20 st) (codeB Try.prog E cx n47_21) := GE.seq_step (by kernel_rfl)
theorem q47_23g3 : gd q47_23 3 = some 35 := by kernel_rfl
theorem n47_23s : codeB Try.prog E ⟨f, 48, b, ro⟩ n47_23 st = drawS [0, 0, 3, 7, 15, 15, 15, 111, 239, 15, 15, 1551, 3599, 8191, 16383, 32767, 65535] (runOpsF Try.prog E b q47_23 (ops [true, true, true, false, false, true, true, false] Try.f47) st) := GE.draw_step (id := 7) (GE.reg_of (by kernel_rfl)) (by kernel_rfl) (by kernel_rfl) (by kernel_rfl)
theorem n47_26s : codeB Try.prog E ⟨f, 48, b, ro⟩ n47_26 st = plainS (runOps Try.prog E b q47_26 (ops [true, true, true, false, false, true, true, true, false, false] Try.f47) st) := GE.region_step (id := 8) (GE.reg_of (by kernel_rfl)) (by kernel_rfl)
theorem n47_27s : codeB Try.prog LL ⟨47, 48, b, ro⟩ n47_27 st = normS b ⟨[8], []⟩ .ret st := GE.ret_step (by kernel_rfl) (by kernel_rfl)
theorem n47_25s : codeB Try.prog E cx n47_25 st = thenS (codeB Try.prog E cx n47_26 st) (codeB Try.prog E cx n47_27) := GE.seq_step (by kernel_rfl)
theorem n47_28s : codeB Try.prog E cx n47_28 st = some (.normal, st) := GE.skip_step (by kernel_rfl)
theorem n47_24s : codeB Try.prog E cx n47_24 st = condS (codeB Try.prog E cx n47_25) (codeB Try.prog E cx n47_28) (lk st.σ 31) st := GE.cond_step (c := .tmp 31) (by kernel_rfl)
theorem n47_22s : codeB Try.prog E cx n47_22 st = thenS (codeB Try.prog E cx n47_23 st) (codeB Try.prog E cx n47_24) := GE.seq_step (by kernel_rfl)
theorem n47_18s : codeB Try.prog E cx n47_18 st = condS (codeB Try.prog E cx n47_19) (codeB Try.prog E cx n47_22) (lk st.σ 20) st := GE.cond_step (c := .tmp 20) (by kernel_rfl)
theorem n47_16s : codeB Try.prog E cx n47_16 st = thenS (codeB Try.prog E cx n47_17 st) (codeB Try.prog E cx n47_18) := GE.seq_step (by kernel_rfl)
theorem n47_15s : codeB Try.prog E cx n47_15 st = blockS 0 (codeB Try.prog E cx n47_16 st) st := GE.block_step (by kernel_rfl)
theorem n47_30s : codeB Try.prog E ⟨f, 48, b, ro⟩ n47_30 st = plainS (runOps Try.prog E b q47_30 (ops [true, true, true, true, false] Try.f47) st) := GE.region_step (id := 9) (GE.reg_of (by kernel_rfl)) (by kernel_rfl)
theorem n47_31s : codeB Try.prog LL ⟨47, 48, b, ro⟩ n47_31 st = normS b ⟨[8], []⟩ .ret st := GE.ret_step (by kernel_rfl) (by kernel_rfl)
theorem n47_29s : codeB Try.prog E cx n47_29 st = thenS (codeB Try.prog E cx n47_30 st) (codeB Try.prog E cx n47_31) := GE.seq_step (by kernel_rfl)
theorem n47_14s : codeB Try.prog E cx n47_14 st = thenS (codeB Try.prog E cx n47_15 st) (codeB Try.prog E cx n47_29) := GE.seq_step (by kernel_rfl)
theorem n47_12s : codeB Try.prog E cx n47_12 st = thenS (codeB Try.prog E cx n47_13 st) (codeB Try.prog E cx n47_14) := GE.seq_step (by kernel_rfl)
theorem n47_2s : codeB Try.prog E cx n47_2 st = thenS (codeB Try.prog E cx n47_3 st) (codeB Try.prog E cx n47_12) := GE.seq_step (by kernel_rfl)
theorem n47_0s : codeB Try.prog E cx n47_0 st = thenS (codeB Try.prog E cx n47_1 st) (codeB Try.prog E cx n47_2) := GE.seq_step (by kernel_rfl)
noncomputable def n48_0 : Code := bodyOf Try.f48
noncomputable def n48_1 : Code := cl n48_0
noncomputable def q48_1 : List Oper := opsOf n48_1
noncomputable def n48_2 : Code := cr n48_0
noncomputable def n48_3 : Code := cl n48_2
noncomputable def q48_3 : List Oper := opsOf n48_3
noncomputable def n48_4 : Code := cr n48_2
noncomputable def n48_5 : Code := cl n48_4
noncomputable def n48_6 : Code := cl n48_5
noncomputable def q48_6 : List Oper := opsOf n48_6
noncomputable def n48_7 : Code := cr n48_5
noncomputable def n48_8 : Code := cl n48_7
noncomputable def n48_9 : Code := cl n48_8
noncomputable def q48_9 : List Oper := opsOf n48_9
noncomputable def n48_10 : Code := cr n48_8
noncomputable def n48_11 : Code := cr n48_7
noncomputable def n48_12 : Code := cr n48_4
noncomputable def n48_13 : Code := cl n48_12
noncomputable def n48_14 : Code := cl n48_13
noncomputable def q48_14 : List Oper := opsOf n48_14
noncomputable def n48_15 : Code := cr n48_13
noncomputable def n48_16 : Code := cl n48_15
noncomputable def n48_17 : Code := cl n48_16
noncomputable def q48_17 : List Oper := opsOf n48_17
noncomputable def n48_18 : Code := cr n48_16
noncomputable def n48_19 : Code := cr n48_15
noncomputable def n48_20 : Code := cr n48_12
noncomputable def n48_21 : Code := cl n48_20
noncomputable def n48_22 : Code := cl n48_21
noncomputable def q48_22 : List Oper := opsOf n48_22
noncomputable def n48_23 : Code := cr n48_21
noncomputable def n48_24 : Code := cl n48_23
noncomputable def n48_25 : Code := cl n48_24
noncomputable def q48_25 : List Oper := opsOf n48_25
noncomputable def n48_26 : Code := cr n48_24
noncomputable def n48_27 : Code := cr n48_23
noncomputable def n48_28 : Code := cr n48_20
noncomputable def n48_29 : Code := cl n48_28
noncomputable def q48_29 : List Oper := opsOf n48_29
noncomputable def n48_30 : Code := cr n48_28
theorem body48 : Try.f48.body = some n48_0 := by kernel_rfl
theorem run48 (E : Ev) (args : List Value) (h : List Blk) (hl : args.length ≤ 46) : runB Try.prog E 48 args h = endS Try.prog [.tmp 8] h.length (codeB Try.prog E ⟨48, 46, h.length, none⟩ n48_0 ⟨enumT 0 args, h, []⟩) := GE.run_step Try.func48 body48 (by kernel_rfl) (by decide) (by kernel_rfl) hl
theorem n48_1s : codeB Try.prog E ⟨f, 46, b, ro⟩ n48_1 st = plainS (runOps Try.prog E b q48_1 (ops [false] Try.f48) st) := GE.region_step (id := 0) (GE.reg_of (by kernel_rfl)) (by kernel_rfl)
theorem n48_3s : codeB Try.prog E ⟨f, 46, b, ro⟩ n48_3 st = plainS (runOps Try.prog E b q48_3 (ops [true, false] Try.f48) st) := GE.region_step (id := 1) (GE.reg_of (by kernel_rfl)) (by kernel_rfl)
theorem n48_6s : codeB Try.prog E ⟨f, 46, b, ro⟩ n48_6 st = plainS (runOps Try.prog E b q48_6 (ops [true, true, false, false] Try.f48) st) := GE.region_step (id := 2) (GE.reg_of (by kernel_rfl)) (by kernel_rfl)
theorem n48_9s : codeB Try.prog E ⟨f, 46, b, ro⟩ n48_9 st = plainS (runOps Try.prog E b q48_9 (ops [true, true, false, true, false, false] Try.f48) st) := GE.region_step (id := 3) (GE.reg_of (by kernel_rfl)) (by kernel_rfl)
theorem n48_10s : codeB Try.prog LL ⟨48, 46, b, ro⟩ n48_10 st = normS b ⟨[8], []⟩ .ret st := GE.ret_step (by kernel_rfl) (by kernel_rfl)
theorem n48_8s : codeB Try.prog E cx n48_8 st = thenS (codeB Try.prog E cx n48_9 st) (codeB Try.prog E cx n48_10) := GE.seq_step (by kernel_rfl)
theorem n48_11s : codeB Try.prog E cx n48_11 st = some (.normal, st) := GE.skip_step (by kernel_rfl)
theorem n48_7s : codeB Try.prog E cx n48_7 st = condS (codeB Try.prog E cx n48_8) (codeB Try.prog E cx n48_11) (lk st.σ 14) st := GE.cond_step (c := .tmp 14) (by kernel_rfl)
theorem n48_5s : codeB Try.prog E cx n48_5 st = thenS (codeB Try.prog E cx n48_6 st) (codeB Try.prog E cx n48_7) := GE.seq_step (by kernel_rfl)
theorem q48_14g6 : gd q48_14 6 = some 22 := by kernel_rfl
theorem n48_14s : codeB Try.prog E ⟨f, 46, b, ro⟩ n48_14 st = plainS (runOps Try.prog E b q48_14 (ops [true, true, true, false, false] Try.f48) st) := GE.region_step (id := 4) (GE.reg_of (by kernel_rfl)) (by kernel_rfl)
theorem n48_17s : codeB Try.prog E ⟨f, 46, b, ro⟩ n48_17 st = plainS (runOps Try.prog E b q48_17 (ops [true, true, true, false, true, false, false] Try.f48) st) := GE.region_step (id := 5) (GE.reg_of (by kernel_rfl)) (by kernel_rfl)
theorem n48_18s : codeB Try.prog LL ⟨48, 46, b, ro⟩ n48_18 st = normS b ⟨[8], []⟩ .ret st := GE.ret_step (by kernel_rfl) (by kernel_rfl)
theorem n48_16s : codeB Try.prog E cx n48_16 st = thenS (codeB Try.prog E cx n48_17 st) (codeB Try.prog E cx n48_18) := GE.seq_step (by kernel_rfl)
theorem n48_19s : codeB Try.prog E cx n48_19 st = some (.normal, st) := GE.skip_step (by kernel_rfl)
theorem n48_15s : codeB Try.prog E cx n48_15 st = condS (codeB Try.prog E cx n48_16) (codeB Try.prog E cx n48_19) (lk st.σ 29) st := GE.cond_step (c := .tmp 29) (by kernel_rfl)
theorem n48_13s : codeB Try.prog E cx n48_13 st = thenS (codeB Try.prog E cx n48_14 st) (codeB Try.prog E cx n48_15) := GE.seq_step (by kernel_rfl)
theorem q48_22g3 : gd q48_22 3 = some 33 := by kernel_rfl
theorem n48_22s : codeB Try.prog E ⟨f, 46, b, ro⟩ n48_22 st = drawS [0, 0, 3, 7, 15, 15, 15, 111, 239, 15, 15, 1551, 3599, 8191, 16383, 32767] (runOpsF Try.prog E b q48_22 (ops [true, true, true, true, false, false] Try.f48) st) := GE.draw_step (id := 6) (GE.reg_of (by kernel_rfl)) (by kernel_rfl) (by kernel_rfl) (by kernel_rfl)
theorem n48_25s : codeB Try.prog E ⟨f, 46, b, ro⟩ n48_25 st = plainS (runOps Try.prog E b q48_25 (ops [true, true, true, true, false, true, false, false] Try.f48) st) := GE.region_step (id := 7) (GE.reg_of (by kernel_rfl)) (by kernel_rfl)
theorem n48_26s : codeB Try.prog LL ⟨48, 46, b, ro⟩ n48_26 st = normS b ⟨[8], []⟩ .ret st := GE.ret_step (by kernel_rfl) (by kernel_rfl)
theorem n48_24s : codeB Try.prog E cx n48_24 st = thenS (codeB Try.prog E cx n48_25 st) (codeB Try.prog E cx n48_26) := GE.seq_step (by kernel_rfl)
theorem n48_27s : codeB Try.prog E cx n48_27 st = some (.normal, st) := GE.skip_step (by kernel_rfl)
theorem n48_23s : codeB Try.prog E cx n48_23 st = condS (codeB Try.prog E cx n48_24) (codeB Try.prog E cx n48_27) (lk st.σ 45) st := GE.cond_step (c := .tmp 45) (by kernel_rfl)
theorem n48_21s : codeB Try.prog E cx n48_21 st = thenS (codeB Try.prog E cx n48_22 st) (codeB Try.prog E cx n48_23) := GE.seq_step (by kernel_rfl)
theorem n48_29s : codeB Try.prog E ⟨f, 46, b, ro⟩ n48_29 st = plainS (runOps Try.prog E b q48_29 (ops [true, true, true, true, true, false] Try.f48) st) := GE.region_step (id := 8) (GE.reg_of (by kernel_rfl)) (by kernel_rfl)
theorem n48_30s : codeB Try.prog LL ⟨48, 46, b, ro⟩ n48_30 st = normS b ⟨[8], []⟩ .ret st := GE.ret_step (by kernel_rfl) (by kernel_rfl)
theorem n48_28s : codeB Try.prog E cx n48_28 st = thenS (codeB Try.prog E cx n48_29 st) (codeB Try.prog E cx n48_30) := GE.seq_step (by kernel_rfl)
theorem n48_20s : codeB Try.prog E cx n48_20 st = thenS (codeB Try.prog E cx n48_21 st) (codeB Try.prog E cx n48_28) := GE.seq_step (by kernel_rfl)
theorem n48_12s : codeB Try.prog E cx n48_12 st = thenS (codeB Try.prog E cx n48_13 st) (codeB Try.prog E cx n48_20) := GE.seq_step (by kernel_rfl)
theorem n48_4s : codeB Try.prog E cx n48_4 st = thenS (codeB Try.prog E cx n48_5 st) (codeB Try.prog E cx n48_12) := GE.seq_step (by kernel_rfl)
theorem n48_2s : codeB Try.prog E cx n48_2 st = thenS (codeB Try.prog E cx n48_3 st) (codeB Try.prog E cx n48_4) := GE.seq_step (by kernel_rfl)
theorem n48_0s : codeB Try.prog E cx n48_0 st = thenS (codeB Try.prog E cx n48_1 st) (codeB Try.prog E cx n48_2) := GE.seq_step (by kernel_rfl)
noncomputable def n49_0 : Code := bodyOf Try.f49
noncomputable def n49_1 : Code := cl n49_0
noncomputable def q49_1 : List Oper := opsOf n49_1
noncomputable def n49_2 : Code := cr n49_0
noncomputable def n49_3 : Code := cl n49_2
noncomputable def q49_3 : List Oper := opsOf n49_3
noncomputable def n49_4 : Code := cr n49_2
noncomputable def n49_5 : Code := cl n49_4
noncomputable def n49_6 : Code := cl n49_5
noncomputable def q49_6 : List Oper := opsOf n49_6
noncomputable def n49_7 : Code := cr n49_5
noncomputable def n49_8 : Code := cl n49_7
noncomputable def n49_9 : Code := cl n49_8
noncomputable def q49_9 : List Oper := opsOf n49_9
noncomputable def n49_10 : Code := cr n49_8
noncomputable def n49_11 : Code := cr n49_7
noncomputable def n49_12 : Code := cr n49_4
noncomputable def n49_13 : Code := cl n49_12
noncomputable def n49_14 : Code := cl n49_13
noncomputable def q49_14 : List Oper := opsOf n49_14
noncomputable def n49_15 : Code := cr n49_13
noncomputable def n49_16 : Code := cl n49_15
noncomputable def n49_17 : Code := cl n49_16
noncomputable def q49_17 : List Oper := opsOf n49_17
noncomputable def n49_18 : Code := cr n49_16
noncomputable def n49_19 : Code := cr n49_15
noncomputable def n49_20 : Code := cr n49_12
noncomputable def n49_21 : Code := cl n49_20
noncomputable def q49_21 : List Oper := opsOf n49_21
noncomputable def n49_22 : Code := cr n49_20
theorem body49 : Try.f49.body = some n49_0 := by kernel_rfl
theorem run49 (E : Ev) (args : List Value) (h : List Blk) (hl : args.length ≤ 26) : runB Try.prog E 49 args h = endS Try.prog [.tmp 4] h.length (codeB Try.prog E ⟨49, 26, h.length, none⟩ n49_0 ⟨enumT 0 args, h, []⟩) := GE.run_step Try.func49 body49 (by kernel_rfl) (by decide) (by kernel_rfl) hl
theorem n49_1s : codeB Try.prog E ⟨f, 26, b, ro⟩ n49_1 st = plainS (runOps Try.prog E b q49_1 (ops [false] Try.f49) st) := GE.region_step (id := 0) (GE.reg_of (by kernel_rfl)) (by kernel_rfl)
theorem n49_3s : codeB Try.prog E ⟨f, 26, b, ro⟩ n49_3 st = plainS (runOps Try.prog E b q49_3 (ops [true, false] Try.f49) st) := GE.region_step (id := 1) (GE.reg_of (by kernel_rfl)) (by kernel_rfl)
theorem n49_6s : codeB Try.prog E ⟨f, 26, b, ro⟩ n49_6 st = plainS (runOps Try.prog E b q49_6 (ops [true, true, false, false] Try.f49) st) := GE.region_step (id := 2) (GE.reg_of (by kernel_rfl)) (by kernel_rfl)
theorem n49_9s : codeB Try.prog E ⟨f, 26, b, ro⟩ n49_9 st = plainS (runOps Try.prog E b q49_9 (ops [true, true, false, true, false, false] Try.f49) st) := GE.region_step (id := 3) (GE.reg_of (by kernel_rfl)) (by kernel_rfl)
theorem n49_10s : codeB Try.prog LL ⟨49, 26, b, ro⟩ n49_10 st = normS b ⟨[4], []⟩ .ret st := GE.ret_step (by kernel_rfl) (by kernel_rfl)
theorem n49_8s : codeB Try.prog E cx n49_8 st = thenS (codeB Try.prog E cx n49_9 st) (codeB Try.prog E cx n49_10) := GE.seq_step (by kernel_rfl)
theorem n49_11s : codeB Try.prog E cx n49_11 st = some (.normal, st) := GE.skip_step (by kernel_rfl)
theorem n49_7s : codeB Try.prog E cx n49_7 st = condS (codeB Try.prog E cx n49_8) (codeB Try.prog E cx n49_11) (lk st.σ 16) st := GE.cond_step (c := .tmp 16) (by kernel_rfl)
theorem n49_5s : codeB Try.prog E cx n49_5 st = thenS (codeB Try.prog E cx n49_6 st) (codeB Try.prog E cx n49_7) := GE.seq_step (by kernel_rfl)
theorem q49_14g2 : gd q49_14 2 = some 19 := by kernel_rfl
theorem n49_14s : codeB Try.prog E ⟨f, 26, b, ro⟩ n49_14 st = plainS (runOps Try.prog E b q49_14 (ops [true, true, true, false, false] Try.f49) st) := GE.region_step (id := 4) (GE.reg_of (by kernel_rfl)) (by kernel_rfl)
theorem n49_17s : codeB Try.prog E ⟨f, 26, b, ro⟩ n49_17 st = plainS (runOps Try.prog E b q49_17 (ops [true, true, true, false, true, false, false] Try.f49) st) := GE.region_step (id := 5) (GE.reg_of (by kernel_rfl)) (by kernel_rfl)
theorem n49_18s : codeB Try.prog LL ⟨49, 26, b, ro⟩ n49_18 st = normS b ⟨[4], []⟩ .ret st := GE.ret_step (by kernel_rfl) (by kernel_rfl)
theorem n49_16s : codeB Try.prog E cx n49_16 st = thenS (codeB Try.prog E cx n49_17 st) (codeB Try.prog E cx n49_18) := GE.seq_step (by kernel_rfl)
theorem n49_19s : codeB Try.prog E cx n49_19 st = some (.normal, st) := GE.skip_step (by kernel_rfl)
theorem n49_15s : codeB Try.prog E cx n49_15 st = condS (codeB Try.prog E cx n49_16) (codeB Try.prog E cx n49_19) (lk st.σ 24) st := GE.cond_step (c := .tmp 24) (by kernel_rfl)
theorem n49_13s : codeB Try.prog E cx n49_13 st = thenS (codeB Try.prog E cx n49_14 st) (codeB Try.prog E cx n49_15) := GE.seq_step (by kernel_rfl)
theorem n49_21s : codeB Try.prog E ⟨f, 26, b, ro⟩ n49_21 st = plainS (runOps Try.prog E b q49_21 (ops [true, true, true, true, false] Try.f49) st) := GE.region_step (id := 6) (GE.reg_of (by kernel_rfl)) (by kernel_rfl)
theorem n49_22s : codeB Try.prog LL ⟨49, 26, b, ro⟩ n49_22 st = normS b ⟨[4], []⟩ .ret st := GE.ret_step (by kernel_rfl) (by kernel_rfl)
theorem n49_20s : codeB Try.prog E cx n49_20 st = thenS (codeB Try.prog E cx n49_21 st) (codeB Try.prog E cx n49_22) := GE.seq_step (by kernel_rfl)
theorem n49_12s : codeB Try.prog E cx n49_12 st = thenS (codeB Try.prog E cx n49_13 st) (codeB Try.prog E cx n49_20) := GE.seq_step (by kernel_rfl)
theorem n49_4s : codeB Try.prog E cx n49_4 st = thenS (codeB Try.prog E cx n49_5 st) (codeB Try.prog E cx n49_12) := GE.seq_step (by kernel_rfl)
theorem n49_2s : codeB Try.prog E cx n49_2 st = thenS (codeB Try.prog E cx n49_3 st) (codeB Try.prog E cx n49_4) := GE.seq_step (by kernel_rfl)
theorem n49_0s : codeB Try.prog E cx n49_0 st = thenS (codeB Try.prog E cx n49_1 st) (codeB Try.prog E cx n49_2) := GE.seq_step (by kernel_rfl)
noncomputable def n50_0 : Code := bodyOf Try.f50
noncomputable def n50_1 : Code := cl n50_0
noncomputable def q50_1 : List Oper := opsOf n50_1
noncomputable def n50_2 : Code := cr n50_0
noncomputable def n50_3 : Code := cl n50_2
noncomputable def n50_4 : Code := cl n50_3
noncomputable def q50_4 : List Oper := opsOf n50_4
noncomputable def n50_5 : Code := cr n50_3
noncomputable def n50_6 : Code := cl n50_5
noncomputable def n50_7 : Code := cl n50_6
noncomputable def q50_7 : List Oper := opsOf n50_7
noncomputable def n50_8 : Code := cr n50_6
noncomputable def n50_9 : Code := cr n50_5
noncomputable def n50_10 : Code := cr n50_2
noncomputable def n50_11 : Code := cl n50_10
noncomputable def n50_12 : Code := cl n50_11
noncomputable def q50_12 : List Oper := opsOf n50_12
noncomputable def n50_13 : Code := cr n50_11
noncomputable def n50_14 : Code := cl n50_13
noncomputable def n50_15 : Code := cl n50_14
noncomputable def q50_15 : List Oper := opsOf n50_15
noncomputable def n50_16 : Code := cr n50_14
noncomputable def n50_17 : Code := cr n50_13
noncomputable def n50_18 : Code := cr n50_10
noncomputable def n50_19 : Code := cl n50_18
noncomputable def n50_20 : Code := cl n50_19
noncomputable def q50_20 : List Oper := opsOf n50_20
noncomputable def n50_21 : Code := cr n50_19
noncomputable def n50_22 : Code := cl n50_21
noncomputable def n50_23 : Code := cl n50_22
noncomputable def n50_24 : Code := cl n50_23
noncomputable def n50_25 : Code := cl n50_24
noncomputable def q50_25 : List Oper := opsOf n50_25
noncomputable def n50_26 : Code := cr n50_24
noncomputable def n50_27 : Code := cl n50_26
noncomputable def n50_28 : Code := cr n50_26
noncomputable def n50_29 : Code := cr n50_23
noncomputable def n50_30 : Code := cl n50_29
noncomputable def n50_31 : Code := cl n50_30
noncomputable def n50_32 : Code := cl n50_31
noncomputable def q50_32 : List Oper := opsOf n50_32
noncomputable def n50_33 : Code := cr n50_31
noncomputable def n50_34 : Code := cl n50_33
noncomputable def n50_35 : Code := cl n50_34
noncomputable def q50_35 : List Oper := opsOf n50_35
noncomputable def n50_36 : Code := cr n50_34
noncomputable def n50_37 : Code := cr n50_33
noncomputable def n50_38 : Code := cr n50_29
noncomputable def q50_38 : List Oper := opsOf n50_38
noncomputable def n50_39 : Code := cr n50_18
noncomputable def n50_40 : Code := cl n50_39
noncomputable def q50_40 : List Oper := opsOf n50_40
noncomputable def n50_41 : Code := cr n50_39
theorem body50 : Try.f50.body = some n50_0 := by kernel_rfl
theorem run50 (E : Ev) (args : List Value) (h : List Blk) (hl : args.length ≤ 36) : runB Try.prog E 50 args h = endS Try.prog [.tmp 2] h.length (codeB Try.prog E ⟨50, 36, h.length, none⟩ n50_0 ⟨enumT 0 args, h, []⟩) := GE.run_step Try.func50 body50 (by kernel_rfl) (by decide) (by kernel_rfl) hl
theorem n50_1s : codeB Try.prog E ⟨f, 36, b, ro⟩ n50_1 st = plainS (runOps Try.prog E b q50_1 (ops [false] Try.f50) st) := GE.region_step (id := 0) (GE.reg_of (by kernel_rfl)) (by kernel_rfl)
theorem n50_4s : codeB Try.prog E ⟨f, 36, b, ro⟩ n50_4 st = plainS (runOps Try.prog E b q50_4 (ops [true, false, false] Try.f50) st) := GE.region_step (id := 1) (GE.reg_of (by kernel_rfl)) (by kernel_rfl)
theorem n50_7s : codeB Try.prog E ⟨f, 36, b, ro⟩ n50_7 st = plainS (runOps Try.prog E b q50_7 (ops [true, false, true, false, false] Try.f50) st) := GE.region_step (id := 2) (GE.reg_of (by kernel_rfl)) (by kernel_rfl)
theorem n50_8s : codeB Try.prog LL ⟨50, 36, b, ro⟩ n50_8 st = normS b ⟨[2], []⟩ .ret st := GE.ret_step (by kernel_rfl) (by kernel_rfl)
theorem n50_6s : codeB Try.prog E cx n50_6 st = thenS (codeB Try.prog E cx n50_7 st) (codeB Try.prog E cx n50_8) := GE.seq_step (by kernel_rfl)
theorem n50_9s : codeB Try.prog E cx n50_9 st = some (.normal, st) := GE.skip_step (by kernel_rfl)
theorem n50_5s : codeB Try.prog E cx n50_5 st = condS (codeB Try.prog E cx n50_6) (codeB Try.prog E cx n50_9) (lk st.σ 6) st := GE.cond_step (c := .tmp 6) (by kernel_rfl)
theorem n50_3s : codeB Try.prog E cx n50_3 st = thenS (codeB Try.prog E cx n50_4 st) (codeB Try.prog E cx n50_5) := GE.seq_step (by kernel_rfl)
theorem n50_12s : codeB Try.prog E ⟨f, 36, b, ro⟩ n50_12 st = plainS (runOps Try.prog E b q50_12 (ops [true, true, false, false] Try.f50) st) := GE.region_step (id := 3) (GE.reg_of (by kernel_rfl)) (by kernel_rfl)
theorem n50_15s : codeB Try.prog E ⟨f, 36, b, ro⟩ n50_15 st = plainS (runOps Try.prog E b q50_15 (ops [true, true, false, true, false, false] Try.f50) st) := GE.region_step (id := 4) (GE.reg_of (by kernel_rfl)) (by kernel_rfl)
theorem n50_16s : codeB Try.prog LL ⟨50, 36, b, ro⟩ n50_16 st = normS b ⟨[2], []⟩ .ret st := GE.ret_step (by kernel_rfl) (by kernel_rfl)
theorem n50_14s : codeB Try.prog E cx n50_14 st = thenS (codeB Try.prog E cx n50_15 st) (codeB Try.prog E cx n50_16) := GE.seq_step (by kernel_rfl)
theorem n50_17s : codeB Try.prog E cx n50_17 st = some (.normal, st) := GE.skip_step (by kernel_rfl)
theorem n50_13s : codeB Try.prog E cx n50_13 st = condS (codeB Try.prog E cx n50_14) (codeB Try.prog E cx n50_17) (lk st.σ 9) st := GE.cond_step (c := .tmp 9) (by kernel_rfl)
theorem n50_11s : codeB Try.prog E cx n50_11 st = thenS (codeB Try.prog E cx n50_12 st) (codeB Try.prog E cx n50_13) := GE.seq_step (by kernel_rfl)
theorem n50_20s : codeB Try.prog E ⟨f, 36, b, ro⟩ n50_20 st = plainS (runOps Try.prog E b q50_20 (ops [true, true, true, false, false] Try.f50) st) := GE.region_step (id := 5) (GE.reg_of (by kernel_rfl)) (by kernel_rfl)
theorem n50_25s : codeB Try.prog E ⟨f, 36, b, ro⟩ n50_25 st = plainS (runOps Try.prog E b q50_25 (ops [true, true, true, false, true, false, false, false, false] Try.f50) st) := GE.region_step (id := 6) (GE.reg_of (by kernel_rfl)) (by kernel_rfl)
theorem n50_27s : codeB Try.prog E cx n50_27 st = some (.normal, st) := GE.skip_step (by kernel_rfl)
theorem n50_28s : codeB Try.prog LL ⟨50, 36, b, ro⟩ n50_28 st = normS b ⟨[], []⟩ (.exit 0) st := GE.exit_step (by kernel_rfl) (by kernel_rfl)
theorem n50_26s : codeB Try.prog E cx n50_26 st = condS (codeB Try.prog E cx n50_27) (codeB Try.prog E cx n50_28) (lk st.σ 13) st := GE.cond_step (c := .tmp 13) (by kernel_rfl)
theorem n50_24s : codeB Try.prog E cx n50_24 st = thenS (codeB Try.prog E cx n50_25 st) (codeB Try.prog E cx n50_26) := GE.seq_step (by kernel_rfl)
theorem q50_32g12 : gd q50_32 12 = some 28 := by kernel_rfl
theorem n50_32s : codeB Try.prog E ⟨f, 36, b, ro⟩ n50_32 st = drawS [0, 0, 3, 7, 15, 0, 0, 96, 224, 480, 1023, 2047, 4095, 8191, 8191, 32767, 65535, 131071, 262143, 524287] (runOpsF Try.prog E b q50_32 (ops [true, true, true, false, true, false, false, true, false, false, false] Try.f50) st) := GE.draw_step (id := 8) (GE.reg_of (by kernel_rfl)) (by kernel_rfl) (by kernel_rfl) (by kernel_rfl)
theorem n50_35s : codeB Try.prog E ⟨f, 36, b, ro⟩ n50_35 st = plainS (runOps Try.prog E b q50_35 (ops [true, true, true, false, true, false, false, true, false, false, true, false, false] Try.f50) st) := GE.region_step (id := 9) (GE.reg_of (by kernel_rfl)) (by kernel_rfl)
theorem n50_36s : codeB Try.prog LL ⟨50, 36, b, ro⟩ n50_36 st = normS b ⟨[2], []⟩ .ret st := GE.ret_step (by kernel_rfl) (by kernel_rfl)
theorem n50_34s : codeB Try.prog E cx n50_34 st = thenS (codeB Try.prog E cx n50_35 st) (codeB Try.prog E cx n50_36) := GE.seq_step (by kernel_rfl)
theorem n50_37s : codeB Try.prog E cx n50_37 st = some (.normal, st) := GE.skip_step (by kernel_rfl)
theorem n50_33s : codeB Try.prog E cx n50_33 st = condS (codeB Try.prog E cx n50_34) (codeB Try.prog E cx n50_37) (lk st.σ 35) st := GE.cond_step (c := .tmp 35) (by kernel_rfl)
theorem n50_31s : codeB Try.prog E cx n50_31 st = thenS (codeB Try.prog E cx n50_32 st) (codeB Try.prog E cx n50_33) := GE.seq_step (by kernel_rfl)
theorem n50_30s : codeB Try.prog E cx n50_30 st = blockS 1 (codeB Try.prog E cx n50_31 st) st := GE.block_step (by kernel_rfl)
theorem n50_38s : codeB Try.prog E ⟨f, 36, b, ro⟩ n50_38 st = plainS (runOps Try.prog E b q50_38 (ops [true, true, true, false, true, false, false, true, true] Try.f50) st) := GE.region_step (id := 7) (GE.reg_of (by kernel_rfl)) (by kernel_rfl)
theorem n50_29s : codeB Try.prog E cx n50_29 st = thenS (codeB Try.prog E cx n50_30 st) (codeB Try.prog E cx n50_38) := GE.seq_step (by kernel_rfl)
theorem n50_23s : codeB Try.prog E cx n50_23 st = thenS (codeB Try.prog E cx n50_24 st) (codeB Try.prog E cx n50_29) := GE.seq_step (by kernel_rfl)
theorem n50_22k : LL.kp (⟨50, 36, b, ro⟩ : Cx).fn (4 * rid n50_23 + 3) = some ⟨[0, 3], [⟨0, 0, 2, true⟩]⟩ := by kernel_rfl
theorem n50_22s : codeB Try.prog LL ⟨50, 36, b, ro⟩ n50_22 st = headS b ⟨[0, 3], [⟨0, 0, 2, true⟩]⟩ st (lpB Try.prog LL ⟨50, 36, b, ro⟩ n50_22 n50_23) := GE.lpB_step (by kernel_rfl) (n50_22k b ro)
theorem n50_22g : LL.code ⟨50, 36, b, ro⟩ n50_22 st = headS b ⟨[0, 3], [⟨0, 0, 2, true⟩]⟩ st (lpB Try.prog LL ⟨50, 36, b, ro⟩ n50_22 n50_23) := GE.lpB_again (by kernel_rfl) (n50_22k b ro)
theorem n50_21s : codeB Try.prog E cx n50_21 st = blockS 0 (codeB Try.prog E cx n50_22 st) st := GE.block_step (by kernel_rfl)
theorem n50_19s : codeB Try.prog E cx n50_19 st = thenS (codeB Try.prog E cx n50_20 st) (codeB Try.prog E cx n50_21) := GE.seq_step (by kernel_rfl)
theorem n50_40s : codeB Try.prog E ⟨f, 36, b, ro⟩ n50_40 st = plainS (runOps Try.prog E b q50_40 (ops [true, true, true, true, false] Try.f50) st) := GE.region_step (id := 10) (GE.reg_of (by kernel_rfl)) (by kernel_rfl)
theorem n50_41s : codeB Try.prog LL ⟨50, 36, b, ro⟩ n50_41 st = normS b ⟨[2], []⟩ .ret st := GE.ret_step (by kernel_rfl) (by kernel_rfl)
theorem n50_39s : codeB Try.prog E cx n50_39 st = thenS (codeB Try.prog E cx n50_40 st) (codeB Try.prog E cx n50_41) := GE.seq_step (by kernel_rfl)
theorem n50_18s : codeB Try.prog E cx n50_18 st = thenS (codeB Try.prog E cx n50_19 st) (codeB Try.prog E cx n50_39) := GE.seq_step (by kernel_rfl)
theorem n50_10s : codeB Try.prog E cx n50_10 st = thenS (codeB Try.prog E cx n50_11 st) (codeB Try.prog E cx n50_18) := GE.seq_step (by kernel_rfl)
theorem n50_2s : codeB Try.prog E cx n50_2 st = thenS (codeB Try.prog E cx n50_3 st) (codeB Try.prog E cx n50_10) := GE.seq_step (by kernel_rfl)
theorem n50_0s : codeB Try.prog E cx n50_0 st = thenS (codeB Try.prog E cx n50_1 st) (codeB Try.prog E cx n50_2) := GE.seq_step (by kernel_rfl)
noncomputable def n55_0 : Code := bodyOf Try.f55
noncomputable def n55_1 : Code := cl n55_0
noncomputable def q55_1 : List Oper := opsOf n55_1
noncomputable def n55_2 : Code := cr n55_0
noncomputable def n55_3 : Code := cl n55_2
noncomputable def q55_3 : List Oper := opsOf n55_3
noncomputable def n55_4 : Code := cr n55_2
theorem body55 : Try.f55.body = some n55_0 := by kernel_rfl
theorem run55 (E : Ev) (args : List Value) (h : List Blk) (hl : args.length ≤ 18) : runB Try.prog E 55 args h = endS Try.prog [.tmp 6] h.length (codeB Try.prog E ⟨55, 18, h.length, none⟩ n55_0 ⟨enumT 0 args, h, []⟩) := GE.run_step Try.func55 body55 (by kernel_rfl) (by decide) (by kernel_rfl) hl
theorem n55_1s : codeB Try.prog E ⟨f, 18, b, ro⟩ n55_1 st = plainS (runOps Try.prog E b q55_1 (ops [false] Try.f55) st) := GE.region_step (id := 0) (GE.reg_of (by kernel_rfl)) (by kernel_rfl)
theorem n55_3s : codeB Try.prog E ⟨f, 18, b, ro⟩ n55_3 st = drawS [0, 0, 3, 7, 15, 0, 0, 96, 224, 480, 1023, 2047] (runOpsF Try.prog E b q55_3 (ops [true, false] Try.f55) st) := GE.draw_step (id := 1) (GE.reg_of (by kernel_rfl)) (by kernel_rfl) (by kernel_rfl) (by kernel_rfl)
theorem n55_4s : codeB Try.prog LL ⟨55, 18, b, ro⟩ n55_4 st = normS b ⟨[6], []⟩ .ret st := GE.ret_step (by kernel_rfl) (by kernel_rfl)
theorem n55_2s : codeB Try.prog E cx n55_2 st = thenS (codeB Try.prog E cx n55_3 st) (codeB Try.prog E cx n55_4) := GE.seq_step (by kernel_rfl)
theorem n55_0s : codeB Try.prog E cx n55_0 st = thenS (codeB Try.prog E cx n55_1 st) (codeB Try.prog E cx n55_2) := GE.seq_step (by kernel_rfl)
noncomputable def n57_0 : Code := bodyOf Try.f57
noncomputable def n57_1 : Code := cl n57_0
noncomputable def q57_1 : List Oper := opsOf n57_1
noncomputable def n57_2 : Code := cr n57_0
noncomputable def n57_3 : Code := cl n57_2
noncomputable def q57_3 : List Oper := opsOf n57_3
noncomputable def n57_4 : Code := cr n57_2
theorem body57 : Try.f57.body = some n57_0 := by kernel_rfl
theorem run57 (E : Ev) (args : List Value) (h : List Blk) (hl : args.length ≤ 15) : runB Try.prog E 57 args h = endS Try.prog [.tmp 6] h.length (codeB Try.prog E ⟨57, 15, h.length, none⟩ n57_0 ⟨enumT 0 args, h, []⟩) := GE.run_step Try.func57 body57 (by kernel_rfl) (by decide) (by kernel_rfl) hl
theorem n57_1s : codeB Try.prog E ⟨f, 15, b, ro⟩ n57_1 st = plainS (runOps Try.prog E b q57_1 (ops [false] Try.f57) st) := GE.region_step (id := 0) (GE.reg_of (by kernel_rfl)) (by kernel_rfl)
theorem q57_3g3 : gd q57_3 3 = some 10 := by kernel_rfl
theorem n57_3s : codeB Try.prog E ⟨f, 15, b, ro⟩ n57_3 st = plainS (runOps Try.prog E b q57_3 (ops [true, false] Try.f57) st) := GE.region_step (id := 1) (GE.reg_of (by kernel_rfl)) (by kernel_rfl)
theorem n57_4s : codeB Try.prog LL ⟨57, 15, b, ro⟩ n57_4 st = normS b ⟨[6], []⟩ .ret st := GE.ret_step (by kernel_rfl) (by kernel_rfl)
theorem n57_2s : codeB Try.prog E cx n57_2 st = thenS (codeB Try.prog E cx n57_3 st) (codeB Try.prog E cx n57_4) := GE.seq_step (by kernel_rfl)
theorem n57_0s : codeB Try.prog E cx n57_0 st = thenS (codeB Try.prog E cx n57_1 st) (codeB Try.prog E cx n57_2) := GE.seq_step (by kernel_rfl)
noncomputable def n58_0 : Code := bodyOf Try.f58
noncomputable def n58_1 : Code := cl n58_0
noncomputable def q58_1 : List Oper := opsOf n58_1
noncomputable def n58_2 : Code := cr n58_0
noncomputable def n58_3 : Code := cl n58_2
noncomputable def q58_3 : List Oper := opsOf n58_3
noncomputable def n58_4 : Code := cr n58_2
theorem body58 : Try.f58.body = some n58_0 := by kernel_rfl
theorem run58 (E : Ev) (args : List Value) (h : List Blk) (hl : args.length ≤ 15) : runB Try.prog E 58 args h = endS Try.prog [.tmp 6] h.length (codeB Try.prog E ⟨58, 15, h.length, none⟩ n58_0 ⟨enumT 0 args, h, []⟩) := GE.run_step Try.func58 body58 (by kernel_rfl) (by decide) (by kernel_rfl) hl
theorem n58_1s : codeB Try.prog E ⟨f, 15, b, ro⟩ n58_1 st = plainS (runOps Try.prog E b q58_1 (ops [false] Try.f58) st) := GE.region_step (id := 0) (GE.reg_of (by kernel_rfl)) (by kernel_rfl)
theorem q58_3g3 : gd q58_3 3 = some 10 := by kernel_rfl
theorem n58_3s : codeB Try.prog E ⟨f, 15, b, ro⟩ n58_3 st = plainS (runOps Try.prog E b q58_3 (ops [true, false] Try.f58) st) := GE.region_step (id := 1) (GE.reg_of (by kernel_rfl)) (by kernel_rfl)
theorem n58_4s : codeB Try.prog LL ⟨58, 15, b, ro⟩ n58_4 st = normS b ⟨[6], []⟩ .ret st := GE.ret_step (by kernel_rfl) (by kernel_rfl)
theorem n58_2s : codeB Try.prog E cx n58_2 st = thenS (codeB Try.prog E cx n58_3 st) (codeB Try.prog E cx n58_4) := GE.seq_step (by kernel_rfl)
theorem n58_0s : codeB Try.prog E cx n58_0 st = thenS (codeB Try.prog E cx n58_1 st) (codeB Try.prog E cx n58_2) := GE.seq_step (by kernel_rfl)
noncomputable def n72_0 : Code := bodyOf Try.f72
noncomputable def n72_1 : Code := cl n72_0
noncomputable def q72_1 : List Oper := opsOf n72_1
noncomputable def n72_2 : Code := cr n72_0
noncomputable def n72_3 : Code := cl n72_2
noncomputable def n72_4 : Code := cl n72_3
noncomputable def q72_4 : List Oper := opsOf n72_4
noncomputable def n72_5 : Code := cr n72_3
noncomputable def n72_6 : Code := cl n72_5
noncomputable def q72_6 : List Oper := opsOf n72_6
noncomputable def n72_7 : Code := cr n72_5
noncomputable def n72_8 : Code := cl n72_7
noncomputable def n72_9 : Code := cl n72_8
noncomputable def q72_9 : List Oper := opsOf n72_9
noncomputable def n72_10 : Code := cr n72_8
noncomputable def n72_11 : Code := cr n72_7
noncomputable def n72_12 : Code := cr n72_2
noncomputable def n72_13 : Code := cl n72_12
noncomputable def n72_14 : Code := cl n72_13
noncomputable def q72_14 : List Oper := opsOf n72_14
noncomputable def n72_15 : Code := cr n72_13
noncomputable def n72_16 : Code := cl n72_15
noncomputable def n72_17 : Code := cl n72_16
noncomputable def q72_17 : List Oper := opsOf n72_17
noncomputable def n72_18 : Code := cr n72_16
noncomputable def n72_19 : Code := cr n72_15
noncomputable def n72_20 : Code := cr n72_12
noncomputable def n72_21 : Code := cl n72_20
noncomputable def q72_21 : List Oper := opsOf n72_21
noncomputable def n72_22 : Code := cr n72_20
noncomputable def n72_23 : Code := cl n72_22
noncomputable def n72_24 : Code := cl n72_23
noncomputable def q72_24 : List Oper := opsOf n72_24
noncomputable def n72_25 : Code := cr n72_23
noncomputable def n72_26 : Code := cl n72_25
noncomputable def n72_27 : Code := cl n72_26
noncomputable def n72_28 : Code := cl n72_27
noncomputable def q72_28 : List Oper := opsOf n72_28
noncomputable def n72_29 : Code := cr n72_27
noncomputable def n72_30 : Code := cl n72_29
noncomputable def n72_31 : Code := cl n72_30
noncomputable def n72_32 : Code := cr n72_30
noncomputable def n72_33 : Code := cr n72_29
noncomputable def n72_34 : Code := cl n72_33
noncomputable def n72_35 : Code := cl n72_34
noncomputable def n72_36 : Code := cl n72_35
noncomputable def q72_36 : List Oper := opsOf n72_36
noncomputable def n72_37 : Code := cr n72_35
noncomputable def n72_38 : Code := cl n72_37
noncomputable def n72_39 : Code := cl n72_38
noncomputable def n72_40 : Code := cl n72_39
noncomputable def q72_40 : List Oper := opsOf n72_40
noncomputable def n72_41 : Code := cr n72_39
noncomputable def n72_42 : Code := cl n72_41
noncomputable def n72_43 : Code := cl n72_42
noncomputable def q72_43 : List Oper := opsOf n72_43
noncomputable def n72_44 : Code := cr n72_42
noncomputable def n72_45 : Code := cr n72_41
noncomputable def n72_46 : Code := cl n72_45
noncomputable def q72_46 : List Oper := opsOf n72_46
noncomputable def n72_47 : Code := cr n72_45
noncomputable def n72_48 : Code := cl n72_47
noncomputable def n72_49 : Code := cl n72_48
noncomputable def q72_49 : List Oper := opsOf n72_49
noncomputable def n72_50 : Code := cr n72_48
noncomputable def n72_51 : Code := cr n72_47
noncomputable def n72_52 : Code := cr n72_37
noncomputable def q72_52 : List Oper := opsOf n72_52
noncomputable def n72_53 : Code := cr n72_33
noncomputable def q72_53 : List Oper := opsOf n72_53
noncomputable def n72_54 : Code := cr n72_22
noncomputable def n72_55 : Code := cl n72_54
noncomputable def q72_55 : List Oper := opsOf n72_55
noncomputable def n72_56 : Code := cr n72_54
theorem body72 : Try.f72.body = some n72_0 := by kernel_rfl
theorem run72 (E : Ev) (args : List Value) (h : List Blk) (hl : args.length ≤ 43) : runB Try.prog E 72 args h = endS Try.prog [.tmp 4] h.length (codeB Try.prog E ⟨72, 43, h.length, none⟩ n72_0 ⟨enumT 0 args, h, []⟩) := GE.run_step Try.func72 body72 (by kernel_rfl) (by decide) (by kernel_rfl) hl
theorem n72_1s : codeB Try.prog E ⟨f, 43, b, ro⟩ n72_1 st = plainS (runOps Try.prog E b q72_1 (ops [false] Try.f72) st) := GE.region_step (id := 0) (GE.reg_of (by kernel_rfl)) (by kernel_rfl)
theorem n72_4s : codeB Try.prog E ⟨f, 43, b, ro⟩ n72_4 st = plainS (runOps Try.prog E b q72_4 (ops [true, false, false] Try.f72) st) := GE.region_step (id := 1) (GE.reg_of (by kernel_rfl)) (by kernel_rfl)
theorem n72_6s : codeB Try.prog E ⟨f, 43, b, ro⟩ n72_6 st = plainS (runOps Try.prog E b q72_6 (ops [true, false, true, false] Try.f72) st) := GE.region_step (id := 2) (GE.reg_of (by kernel_rfl)) (by kernel_rfl)
theorem n72_9s : codeB Try.prog E ⟨f, 43, b, ro⟩ n72_9 st = plainS (runOps Try.prog E b q72_9 (ops [true, false, true, true, false, false] Try.f72) st) := GE.region_step (id := 3) (GE.reg_of (by kernel_rfl)) (by kernel_rfl)
theorem n72_10s : codeB Try.prog LL ⟨72, 43, b, ro⟩ n72_10 st = normS b ⟨[4], []⟩ .ret st := GE.ret_step (by kernel_rfl) (by kernel_rfl)
theorem n72_8s : codeB Try.prog E cx n72_8 st = thenS (codeB Try.prog E cx n72_9 st) (codeB Try.prog E cx n72_10) := GE.seq_step (by kernel_rfl)
theorem n72_11s : codeB Try.prog E cx n72_11 st = some (.normal, st) := GE.skip_step (by kernel_rfl)
theorem n72_7s : codeB Try.prog E cx n72_7 st = condS (codeB Try.prog E cx n72_8) (codeB Try.prog E cx n72_11) (lk st.σ 12) st := GE.cond_step (c := .tmp 12) (by kernel_rfl)
theorem n72_5s : codeB Try.prog E cx n72_5 st = thenS (codeB Try.prog E cx n72_6 st) (codeB Try.prog E cx n72_7) := GE.seq_step (by kernel_rfl)
theorem n72_3s : codeB Try.prog E cx n72_3 st = thenS (codeB Try.prog E cx n72_4 st) (codeB Try.prog E cx n72_5) := GE.seq_step (by kernel_rfl)
theorem n72_14s : codeB Try.prog E ⟨f, 43, b, ro⟩ n72_14 st = plainS (runOps Try.prog E b q72_14 (ops [true, true, false, false] Try.f72) st) := GE.region_step (id := 4) (GE.reg_of (by kernel_rfl)) (by kernel_rfl)
theorem n72_17s : codeB Try.prog E ⟨f, 43, b, ro⟩ n72_17 st = plainS (runOps Try.prog E b q72_17 (ops [true, true, false, true, false, false] Try.f72) st) := GE.region_step (id := 5) (GE.reg_of (by kernel_rfl)) (by kernel_rfl)
theorem n72_18s : codeB Try.prog LL ⟨72, 43, b, ro⟩ n72_18 st = normS b ⟨[4], []⟩ .ret st := GE.ret_step (by kernel_rfl) (by kernel_rfl)
theorem n72_16s : codeB Try.prog E cx n72_16 st = thenS (codeB Try.prog E cx n72_17 st) (codeB Try.prog E cx n72_18) := GE.seq_step (by kernel_rfl)
theorem n72_19s : codeB Try.prog E cx n72_19 st = some (.normal, st) := GE.skip_step (by kernel_rfl)
theorem n72_15s : codeB Try.prog E cx n72_15 st = condS (codeB Try.prog E cx n72_16) (codeB Try.prog E cx n72_19) (lk st.σ 18) st := GE.cond_step (c := .tmp 18) (by kernel_rfl)
theorem n72_13s : codeB Try.prog E cx n72_13 st = thenS (codeB Try.prog E cx n72_14 st) (codeB Try.prog E cx n72_15) := GE.seq_step (by kernel_rfl)
theorem n72_21s : codeB Try.prog E ⟨f, 43, b, ro⟩ n72_21 st = plainS (runOps Try.prog E b q72_21 (ops [true, true, true, false] Try.f72) st) := GE.region_step (id := 6) (GE.reg_of (by kernel_rfl)) (by kernel_rfl)
theorem n72_24s : codeB Try.prog E ⟨f, 43, b, ro⟩ n72_24 st = plainS (runOps Try.prog E b q72_24 (ops [true, true, true, true, false, false] Try.f72) st) := GE.region_step (id := 7) (GE.reg_of (by kernel_rfl)) (by kernel_rfl)
theorem n72_28s : codeB Try.prog E ⟨f, 43, b, ro⟩ n72_28 st = plainS (runOps Try.prog E b q72_28 (ops [true, true, true, true, false, true, false, false, false] Try.f72) st) := GE.region_step (id := 8) (GE.reg_of (by kernel_rfl)) (by kernel_rfl)
theorem n72_31s : codeB Try.prog E cx n72_31 st = some (.normal, st) := GE.skip_step (by kernel_rfl)
theorem n72_32s : codeB Try.prog LL ⟨72, 43, b, ro⟩ n72_32 st = normS b ⟨[], []⟩ (.exit 0) st := GE.exit_step (by kernel_rfl) (by kernel_rfl)
theorem n72_30s : codeB Try.prog E cx n72_30 st = condS (codeB Try.prog E cx n72_31) (codeB Try.prog E cx n72_32) (lk st.σ 22) st := GE.cond_step (c := .tmp 22) (by kernel_rfl)
theorem n72_36s : codeB Try.prog E ⟨f, 43, b, ro⟩ n72_36 st = plainS (runOps Try.prog E b q72_36 (ops [true, true, true, true, false, true, false, false, true, true, false, false, false] Try.f72) st) := GE.region_step (id := 9) (GE.reg_of (by kernel_rfl)) (by kernel_rfl)
theorem n72_40s : codeB Try.prog E ⟨f, 43, b, ro⟩ n72_40 st = plainS (runOps Try.prog E b q72_40 (ops [true, true, true, true, false, true, false, false, true, true, false, false, true, false, false, false] Try.f72) st) := GE.region_step (id := 10) (GE.reg_of (by kernel_rfl)) (by kernel_rfl)
theorem n72_43s : codeB Try.prog E ⟨f, 43, b, ro⟩ n72_43 st = plainS (runOps Try.prog E b q72_43 (ops [true, true, true, true, false, true, false, false, true, true, false, false, true, false, false, true, false, false] Try.f72) st) := GE.region_step (id := 11) (GE.reg_of (by kernel_rfl)) (by kernel_rfl)
theorem n72_44s : codeB Try.prog LL ⟨72, 43, b, ro⟩ n72_44 st = normS b ⟨[4], []⟩ .ret st := GE.ret_step (by kernel_rfl) (by kernel_rfl)
theorem n72_42s : codeB Try.prog E cx n72_42 st = thenS (codeB Try.prog E cx n72_43 st) (codeB Try.prog E cx n72_44) := GE.seq_step (by kernel_rfl)
theorem n72_46s : codeB Try.prog E ⟨f, 43, b, ro⟩ n72_46 st = plainS (runOps Try.prog E b q72_46 (ops [true, true, true, true, false, true, false, false, true, true, false, false, true, false, false, true, true, false] Try.f72) st) := GE.region_step (id := 12) (GE.reg_of (by kernel_rfl)) (by kernel_rfl)
theorem n72_49s : codeB Try.prog E ⟨f, 43, b, ro⟩ n72_49 st = plainS (runOps Try.prog E b q72_49 (ops [true, true, true, true, false, true, false, false, true, true, false, false, true, false, false, true, true, true, false, false] Try.f72) st) := GE.region_step (id := 13) (GE.reg_of (by kernel_rfl)) (by kernel_rfl)
theorem n72_50s : codeB Try.prog LL ⟨72, 43, b, ro⟩ n72_50 st = normS b ⟨[4], []⟩ .ret st := GE.ret_step (by kernel_rfl) (by kernel_rfl)
theorem n72_48s : codeB Try.prog E cx n72_48 st = thenS (codeB Try.prog E cx n72_49 st) (codeB Try.prog E cx n72_50) := GE.seq_step (by kernel_rfl)
theorem n72_51s : codeB Try.prog E cx n72_51 st = some (.normal, st) := GE.skip_step (by kernel_rfl)
theorem n72_47s : codeB Try.prog E cx n72_47 st = condS (codeB Try.prog E cx n72_48) (codeB Try.prog E cx n72_51) (lk st.σ 32) st := GE.cond_step (c := .tmp 32) (by kernel_rfl)
theorem n72_45s : codeB Try.prog E cx n72_45 st = thenS (codeB Try.prog E cx n72_46 st) (codeB Try.prog E cx n72_47) := GE.seq_step (by kernel_rfl)
theorem n72_41s : codeB Try.prog E cx n72_41 st = condS (codeB Try.prog E cx n72_42) (codeB Try.prog E cx n72_45) (lk st.σ 25) st := GE.cond_step (c := .tmp 25) (by kernel_rfl)
theorem n72_39s : codeB Try.prog E cx n72_39 st = thenS (codeB Try.prog E cx n72_40 st) (codeB Try.prog E cx n72_41) := GE.seq_step (by kernel_rfl)
theorem n72_38s : codeB Try.prog E cx n72_38 st = blockS 2 (codeB Try.prog E cx n72_39 st) st := GE.block_step (by kernel_rfl)
theorem n72_52s : codeB Try.prog E ⟨f, 43, b, ro⟩ n72_52 st = plainS (runOps Try.prog E b q72_52 (ops [true, true, true, true, false, true, false, false, true, true, false, false, true, true] Try.f72) st) := GE.region_step (id := 14) (GE.reg_of (by kernel_rfl)) (by kernel_rfl)
theorem n72_37s : codeB Try.prog E cx n72_37 st = thenS (codeB Try.prog E cx n72_38 st) (codeB Try.prog E cx n72_52) := GE.seq_step (by kernel_rfl)
theorem n72_35s : codeB Try.prog E cx n72_35 st = thenS (codeB Try.prog E cx n72_36 st) (codeB Try.prog E cx n72_37) := GE.seq_step (by kernel_rfl)
theorem n72_34s : codeB Try.prog E cx n72_34 st = blockS 1 (codeB Try.prog E cx n72_35 st) st := GE.block_step (by kernel_rfl)
theorem n72_53s : codeB Try.prog E ⟨f, 43, b, ro⟩ n72_53 st = plainS (runOps Try.prog E b q72_53 (ops [true, true, true, true, false, true, false, false, true, true, true] Try.f72) st) := GE.region_step (id := 15) (GE.reg_of (by kernel_rfl)) (by kernel_rfl)
theorem n72_33s : codeB Try.prog E cx n72_33 st = thenS (codeB Try.prog E cx n72_34 st) (codeB Try.prog E cx n72_53) := GE.seq_step (by kernel_rfl)
theorem n72_29s : codeB Try.prog E cx n72_29 st = thenS (codeB Try.prog E cx n72_30 st) (codeB Try.prog E cx n72_33) := GE.seq_step (by kernel_rfl)
theorem n72_27s : codeB Try.prog E cx n72_27 st = thenS (codeB Try.prog E cx n72_28 st) (codeB Try.prog E cx n72_29) := GE.seq_step (by kernel_rfl)
theorem n72_26k : LL.kp (⟨72, 43, b, ro⟩ : Cx).fn (4 * rid n72_27 + 3) = some ⟨[0, 6, 19, 20, 21], [⟨0, 0, 2, true⟩, ⟨19, 0, 1, true⟩]⟩ := by kernel_rfl
theorem n72_26s : codeB Try.prog LL ⟨72, 43, b, ro⟩ n72_26 st = headS b ⟨[0, 6, 19, 20, 21], [⟨0, 0, 2, true⟩, ⟨19, 0, 1, true⟩]⟩ st (lpB Try.prog LL ⟨72, 43, b, ro⟩ n72_26 n72_27) := GE.lpB_step (by kernel_rfl) (n72_26k b ro)
theorem n72_26g : LL.code ⟨72, 43, b, ro⟩ n72_26 st = headS b ⟨[0, 6, 19, 20, 21], [⟨0, 0, 2, true⟩, ⟨19, 0, 1, true⟩]⟩ st (lpB Try.prog LL ⟨72, 43, b, ro⟩ n72_26 n72_27) := GE.lpB_again (by kernel_rfl) (n72_26k b ro)
theorem n72_25s : codeB Try.prog E cx n72_25 st = blockS 0 (codeB Try.prog E cx n72_26 st) st := GE.block_step (by kernel_rfl)
theorem n72_23s : codeB Try.prog E cx n72_23 st = thenS (codeB Try.prog E cx n72_24 st) (codeB Try.prog E cx n72_25) := GE.seq_step (by kernel_rfl)
theorem n72_55s : codeB Try.prog E ⟨f, 43, b, ro⟩ n72_55 st = plainS (runOps Try.prog E b q72_55 (ops [true, true, true, true, true, false] Try.f72) st) := GE.region_step (id := 16) (GE.reg_of (by kernel_rfl)) (by kernel_rfl)
theorem n72_56s : codeB Try.prog LL ⟨72, 43, b, ro⟩ n72_56 st = normS b ⟨[4], []⟩ .ret st := GE.ret_step (by kernel_rfl) (by kernel_rfl)
theorem n72_54s : codeB Try.prog E cx n72_54 st = thenS (codeB Try.prog E cx n72_55 st) (codeB Try.prog E cx n72_56) := GE.seq_step (by kernel_rfl)
theorem n72_22s : codeB Try.prog E cx n72_22 st = thenS (codeB Try.prog E cx n72_23 st) (codeB Try.prog E cx n72_54) := GE.seq_step (by kernel_rfl)
theorem n72_20s : codeB Try.prog E cx n72_20 st = thenS (codeB Try.prog E cx n72_21 st) (codeB Try.prog E cx n72_22) := GE.seq_step (by kernel_rfl)
theorem n72_12s : codeB Try.prog E cx n72_12 st = thenS (codeB Try.prog E cx n72_13 st) (codeB Try.prog E cx n72_20) := GE.seq_step (by kernel_rfl)
theorem n72_2s : codeB Try.prog E cx n72_2 st = thenS (codeB Try.prog E cx n72_3 st) (codeB Try.prog E cx n72_12) := GE.seq_step (by kernel_rfl)
theorem n72_0s : codeB Try.prog E cx n72_0 st = thenS (codeB Try.prog E cx n72_1 st) (codeB Try.prog E cx n72_2) := GE.seq_step (by kernel_rfl)
noncomputable def n73_0 : Code := bodyOf Try.f73
noncomputable def n73_1 : Code := cl n73_0
noncomputable def q73_1 : List Oper := opsOf n73_1
noncomputable def n73_2 : Code := cr n73_0
noncomputable def n73_3 : Code := cl n73_2
noncomputable def n73_4 : Code := cl n73_3
noncomputable def q73_4 : List Oper := opsOf n73_4
noncomputable def n73_5 : Code := cr n73_3
noncomputable def n73_6 : Code := cl n73_5
noncomputable def n73_7 : Code := cl n73_6
noncomputable def n73_8 : Code := cl n73_7
noncomputable def q73_8 : List Oper := opsOf n73_8
noncomputable def n73_9 : Code := cr n73_7
noncomputable def n73_10 : Code := cl n73_9
noncomputable def n73_11 : Code := cl n73_10
noncomputable def n73_12 : Code := cr n73_10
noncomputable def n73_13 : Code := cr n73_9
noncomputable def n73_14 : Code := cl n73_13
noncomputable def n73_15 : Code := cl n73_14
noncomputable def n73_16 : Code := cl n73_15
noncomputable def q73_16 : List Oper := opsOf n73_16
noncomputable def n73_17 : Code := cr n73_15
noncomputable def n73_18 : Code := cl n73_17
noncomputable def q73_18 : List Oper := opsOf n73_18
noncomputable def n73_19 : Code := cr n73_17
noncomputable def n73_20 : Code := cl n73_19
noncomputable def n73_21 : Code := cl n73_20
noncomputable def n73_22 : Code := cl n73_21
noncomputable def n73_23 : Code := cl n73_22
noncomputable def q73_23 : List Oper := opsOf n73_23
noncomputable def n73_24 : Code := cr n73_22
noncomputable def n73_25 : Code := cl n73_24
noncomputable def n73_26 : Code := cr n73_24
noncomputable def n73_27 : Code := cr n73_21
noncomputable def n73_28 : Code := cl n73_27
noncomputable def n73_29 : Code := cl n73_28
noncomputable def n73_30 : Code := cl n73_29
noncomputable def q73_30 : List Oper := opsOf n73_30
noncomputable def n73_31 : Code := cr n73_29
noncomputable def n73_32 : Code := cl n73_31
noncomputable def n73_33 : Code := cl n73_32
noncomputable def q73_33 : List Oper := opsOf n73_33
noncomputable def n73_34 : Code := cr n73_32
noncomputable def n73_35 : Code := cr n73_31
noncomputable def n73_36 : Code := cr n73_27
noncomputable def q73_36 : List Oper := opsOf n73_36
noncomputable def n73_37 : Code := cr n73_13
noncomputable def q73_37 : List Oper := opsOf n73_37
noncomputable def n73_38 : Code := cr n73_2
noncomputable def n73_39 : Code := cl n73_38
noncomputable def q73_39 : List Oper := opsOf n73_39
noncomputable def n73_40 : Code := cr n73_38
theorem body73 : Try.f73.body = some n73_0 := by kernel_rfl
theorem run73 (E : Ev) (args : List Value) (h : List Blk) (hl : args.length ≤ 35) : runB Try.prog E 73 args h = endS Try.prog [.tmp 4, .tmp 5, .tmp 6] h.length (codeB Try.prog E ⟨73, 35, h.length, none⟩ n73_0 ⟨enumT 0 args, h, []⟩) := GE.run_step Try.func73 body73 (by kernel_rfl) (by decide) (by kernel_rfl) hl
theorem n73_1s : codeB Try.prog E ⟨f, 35, b, ro⟩ n73_1 st = plainS (runOps Try.prog E b q73_1 (ops [false] Try.f73) st) := GE.region_step (id := 0) (GE.reg_of (by kernel_rfl)) (by kernel_rfl)
theorem n73_4s : codeB Try.prog E ⟨f, 35, b, ro⟩ n73_4 st = plainS (runOps Try.prog E b q73_4 (ops [true, false, false] Try.f73) st) := GE.region_step (id := 1) (GE.reg_of (by kernel_rfl)) (by kernel_rfl)
theorem n73_8s : codeB Try.prog E ⟨f, 35, b, ro⟩ n73_8 st = plainS (runOps Try.prog E b q73_8 (ops [true, false, true, false, false, false] Try.f73) st) := GE.region_step (id := 2) (GE.reg_of (by kernel_rfl)) (by kernel_rfl)
theorem n73_11s : codeB Try.prog E cx n73_11 st = some (.normal, st) := GE.skip_step (by kernel_rfl)
theorem n73_12s : codeB Try.prog LL ⟨73, 35, b, ro⟩ n73_12 st = normS b ⟨[], []⟩ (.exit 0) st := GE.exit_step (by kernel_rfl) (by kernel_rfl)
theorem n73_10s : codeB Try.prog E cx n73_10 st = condS (codeB Try.prog E cx n73_11) (codeB Try.prog E cx n73_12) (lk st.σ 12) st := GE.cond_step (c := .tmp 12) (by kernel_rfl)
theorem n73_16s : codeB Try.prog E ⟨f, 35, b, ro⟩ n73_16 st = plainS (runOps Try.prog E b q73_16 (ops [true, false, true, false, false, true, true, false, false, false] Try.f73) st) := GE.region_step (id := 3) (GE.reg_of (by kernel_rfl)) (by kernel_rfl)
theorem n73_18s : codeB Try.prog E ⟨f, 35, b, ro⟩ n73_18 st = plainS (runOps Try.prog E b q73_18 (ops [true, false, true, false, false, true, true, false, false, true, false] Try.f73) st) := GE.region_step (id := 4) (GE.reg_of (by kernel_rfl)) (by kernel_rfl)
theorem n73_23s : codeB Try.prog E ⟨f, 35, b, ro⟩ n73_23 st = plainS (runOps Try.prog E b q73_23 (ops [true, false, true, false, false, true, true, false, false, true, true, false, false, false, false] Try.f73) st) := GE.region_step (id := 5) (GE.reg_of (by kernel_rfl)) (by kernel_rfl)
theorem n73_25s : codeB Try.prog E cx n73_25 st = some (.normal, st) := GE.skip_step (by kernel_rfl)
theorem n73_26s : codeB Try.prog LL ⟨73, 35, b, ro⟩ n73_26 st = normS b ⟨[0, 1, 10, 11], [⟨0, 0, 2, true⟩, ⟨1, 0, 1, true⟩]⟩ (.exit 2) st := GE.exit_step (by kernel_rfl) (by kernel_rfl)
theorem n73_24s : codeB Try.prog E cx n73_24 st = condS (codeB Try.prog E cx n73_25) (codeB Try.prog E cx n73_26) (lk st.σ 19) st := GE.cond_step (c := .tmp 19) (by kernel_rfl)
theorem n73_22s : codeB Try.prog E cx n73_22 st = thenS (codeB Try.prog E cx n73_23 st) (codeB Try.prog E cx n73_24) := GE.seq_step (by kernel_rfl)
theorem n73_30s : codeB Try.prog E ⟨f, 35, b, ro⟩ n73_30 st = drawS [0, 0, 0, 6, 14, 0, 0, 96, 224, 511] (runOpsF Try.prog E b q73_30 (ops [true, false, true, false, false, true, true, false, false, true, true, false, false, true, false, false, false] Try.f73) st) := GE.draw_step (id := 7) (GE.reg_of (by kernel_rfl)) (by kernel_rfl) (by kernel_rfl) (by kernel_rfl)
theorem n73_33s : codeB Try.prog E ⟨f, 35, b, ro⟩ n73_33 st = plainS (runOps Try.prog E b q73_33 (ops [true, false, true, false, false, true, true, false, false, true, true, false, false, true, false, false, true, false, false] Try.f73) st) := GE.region_step (id := 8) (GE.reg_of (by kernel_rfl)) (by kernel_rfl)
theorem n73_34s : codeB Try.prog LL ⟨73, 35, b, ro⟩ n73_34 st = normS b ⟨[4, 5, 6], []⟩ .ret st := GE.ret_step (by kernel_rfl) (by kernel_rfl)
theorem n73_32s : codeB Try.prog E cx n73_32 st = thenS (codeB Try.prog E cx n73_33 st) (codeB Try.prog E cx n73_34) := GE.seq_step (by kernel_rfl)
theorem n73_35s : codeB Try.prog E cx n73_35 st = some (.normal, st) := GE.skip_step (by kernel_rfl)
theorem n73_31s : codeB Try.prog E cx n73_31 st = condS (codeB Try.prog E cx n73_32) (codeB Try.prog E cx n73_35) (lk st.σ 31) st := GE.cond_step (c := .tmp 31) (by kernel_rfl)
theorem n73_29s : codeB Try.prog E cx n73_29 st = thenS (codeB Try.prog E cx n73_30 st) (codeB Try.prog E cx n73_31) := GE.seq_step (by kernel_rfl)
theorem n73_28s : codeB Try.prog E cx n73_28 st = blockS 3 (codeB Try.prog E cx n73_29 st) st := GE.block_step (by kernel_rfl)
theorem n73_36s : codeB Try.prog E ⟨f, 35, b, ro⟩ n73_36 st = plainS (runOps Try.prog E b q73_36 (ops [true, false, true, false, false, true, true, false, false, true, true, false, false, true, true] Try.f73) st) := GE.region_step (id := 6) (GE.reg_of (by kernel_rfl)) (by kernel_rfl)
theorem n73_27s : codeB Try.prog E cx n73_27 st = thenS (codeB Try.prog E cx n73_28 st) (codeB Try.prog E cx n73_36) := GE.seq_step (by kernel_rfl)
theorem n73_21s : codeB Try.prog E cx n73_21 st = thenS (codeB Try.prog E cx n73_22 st) (codeB Try.prog E cx n73_27) := GE.seq_step (by kernel_rfl)
theorem n73_20k : LL.kp (⟨73, 35, b, ro⟩ : Cx).fn (4 * rid n73_21 + 3) = some ⟨[7, 8, 0, 1, 10, 11], [⟨0, 0, 2, true⟩, ⟨1, 0, 1, true⟩]⟩ := by kernel_rfl
theorem n73_20s : codeB Try.prog LL ⟨73, 35, b, ro⟩ n73_20 st = headS b ⟨[7, 8, 0, 1, 10, 11], [⟨0, 0, 2, true⟩, ⟨1, 0, 1, true⟩]⟩ st (lpB Try.prog LL ⟨73, 35, b, ro⟩ n73_20 n73_21) := GE.lpB_step (by kernel_rfl) (n73_20k b ro)
theorem n73_20g : LL.code ⟨73, 35, b, ro⟩ n73_20 st = headS b ⟨[7, 8, 0, 1, 10, 11], [⟨0, 0, 2, true⟩, ⟨1, 0, 1, true⟩]⟩ st (lpB Try.prog LL ⟨73, 35, b, ro⟩ n73_20 n73_21) := GE.lpB_again (by kernel_rfl) (n73_20k b ro)
theorem n73_19s : codeB Try.prog E cx n73_19 st = blockS 2 (codeB Try.prog E cx n73_20 st) st := GE.block_step (by kernel_rfl)
theorem n73_17s : codeB Try.prog E cx n73_17 st = thenS (codeB Try.prog E cx n73_18 st) (codeB Try.prog E cx n73_19) := GE.seq_step (by kernel_rfl)
theorem n73_15s : codeB Try.prog E cx n73_15 st = thenS (codeB Try.prog E cx n73_16 st) (codeB Try.prog E cx n73_17) := GE.seq_step (by kernel_rfl)
theorem n73_14s : codeB Try.prog E cx n73_14 st = blockS 1 (codeB Try.prog E cx n73_15 st) st := GE.block_step (by kernel_rfl)
theorem n73_37s : codeB Try.prog E ⟨f, 35, b, ro⟩ n73_37 st = plainS (runOps Try.prog E b q73_37 (ops [true, false, true, false, false, true, true, true] Try.f73) st) := GE.region_step (id := 9) (GE.reg_of (by kernel_rfl)) (by kernel_rfl)
theorem n73_13s : codeB Try.prog E cx n73_13 st = thenS (codeB Try.prog E cx n73_14 st) (codeB Try.prog E cx n73_37) := GE.seq_step (by kernel_rfl)
theorem n73_9s : codeB Try.prog E cx n73_9 st = thenS (codeB Try.prog E cx n73_10 st) (codeB Try.prog E cx n73_13) := GE.seq_step (by kernel_rfl)
theorem n73_7s : codeB Try.prog E cx n73_7 st = thenS (codeB Try.prog E cx n73_8 st) (codeB Try.prog E cx n73_9) := GE.seq_step (by kernel_rfl)
theorem n73_6k : LL.kp (⟨73, 35, b, ro⟩ : Cx).fn (4 * rid n73_7 + 3) = some ⟨[0, 1, 10, 11], [⟨0, 0, 2, true⟩, ⟨1, 0, 1, true⟩]⟩ := by kernel_rfl
theorem n73_6s : codeB Try.prog LL ⟨73, 35, b, ro⟩ n73_6 st = headS b ⟨[0, 1, 10, 11], [⟨0, 0, 2, true⟩, ⟨1, 0, 1, true⟩]⟩ st (lpB Try.prog LL ⟨73, 35, b, ro⟩ n73_6 n73_7) := GE.lpB_step (by kernel_rfl) (n73_6k b ro)
theorem n73_6g : LL.code ⟨73, 35, b, ro⟩ n73_6 st = headS b ⟨[0, 1, 10, 11], [⟨0, 0, 2, true⟩, ⟨1, 0, 1, true⟩]⟩ st (lpB Try.prog LL ⟨73, 35, b, ro⟩ n73_6 n73_7) := GE.lpB_again (by kernel_rfl) (n73_6k b ro)
theorem n73_5s : codeB Try.prog E cx n73_5 st = blockS 0 (codeB Try.prog E cx n73_6 st) st := GE.block_step (by kernel_rfl)
theorem n73_3s : codeB Try.prog E cx n73_3 st = thenS (codeB Try.prog E cx n73_4 st) (codeB Try.prog E cx n73_5) := GE.seq_step (by kernel_rfl)
theorem n73_39s : codeB Try.prog E ⟨f, 35, b, ro⟩ n73_39 st = plainS (runOps Try.prog E b q73_39 (ops [true, true, false] Try.f73) st) := GE.region_step (id := 10) (GE.reg_of (by kernel_rfl)) (by kernel_rfl)
theorem n73_40s : codeB Try.prog LL ⟨73, 35, b, ro⟩ n73_40 st = normS b ⟨[4, 5, 6], []⟩ .ret st := GE.ret_step (by kernel_rfl) (by kernel_rfl)
theorem n73_38s : codeB Try.prog E cx n73_38 st = thenS (codeB Try.prog E cx n73_39 st) (codeB Try.prog E cx n73_40) := GE.seq_step (by kernel_rfl)
theorem n73_2s : codeB Try.prog E cx n73_2 st = thenS (codeB Try.prog E cx n73_3 st) (codeB Try.prog E cx n73_38) := GE.seq_step (by kernel_rfl)
theorem n73_0s : codeB Try.prog E cx n73_0 st = thenS (codeB Try.prog E cx n73_1 st) (codeB Try.prog E cx n73_2) := GE.seq_step (by kernel_rfl)
noncomputable def n74_0 : Code := bodyOf Try.f74
noncomputable def n74_1 : Code := cl n74_0
noncomputable def q74_1 : List Oper := opsOf n74_1
noncomputable def n74_2 : Code := cr n74_0
noncomputable def n74_3 : Code := cl n74_2
noncomputable def q74_3 : List Oper := opsOf n74_3
noncomputable def n74_4 : Code := cr n74_2
theorem body74 : Try.f74.body = some n74_0 := by kernel_rfl
theorem run74 (E : Ev) (args : List Value) (h : List Blk) (hl : args.length ≤ 9) : runB Try.prog E 74 args h = endS Try.prog [.tmp 4] h.length (codeB Try.prog E ⟨74, 9, h.length, none⟩ n74_0 ⟨enumT 0 args, h, []⟩) := GE.run_step Try.func74 body74 (by kernel_rfl) (by decide) (by kernel_rfl) hl
theorem n74_1s : codeB Try.prog E ⟨f, 9, b, ro⟩ n74_1 st = plainS (runOps Try.prog E b q74_1 (ops [false] Try.f74) st) := GE.region_step (id := 0) (GE.reg_of (by kernel_rfl)) (by kernel_rfl)
theorem n74_3s : codeB Try.prog E ⟨f, 9, b, ro⟩ n74_3 st = plainS (runOps Try.prog E b q74_3 (ops [true, false] Try.f74) st) := GE.region_step (id := 1) (GE.reg_of (by kernel_rfl)) (by kernel_rfl)
theorem n74_4s : codeB Try.prog LL ⟨74, 9, b, ro⟩ n74_4 st = normS b ⟨[4], []⟩ .ret st := GE.ret_step (by kernel_rfl) (by kernel_rfl)
theorem n74_2s : codeB Try.prog E cx n74_2 st = thenS (codeB Try.prog E cx n74_3 st) (codeB Try.prog E cx n74_4) := GE.seq_step (by kernel_rfl)
theorem n74_0s : codeB Try.prog E cx n74_0 st = thenS (codeB Try.prog E cx n74_1 st) (codeB Try.prog E cx n74_2) := GE.seq_step (by kernel_rfl)
noncomputable def n75_0 : Code := bodyOf Try.f75
noncomputable def n75_1 : Code := cl n75_0
noncomputable def q75_1 : List Oper := opsOf n75_1
noncomputable def n75_2 : Code := cr n75_0
noncomputable def n75_3 : Code := cl n75_2
noncomputable def q75_3 : List Oper := opsOf n75_3
noncomputable def n75_4 : Code := cr n75_2
theorem body75 : Try.f75.body = some n75_0 := by kernel_rfl
theorem run75 (E : Ev) (args : List Value) (h : List Blk) (hl : args.length ≤ 14) : runB Try.prog E 75 args h = endS Try.prog [.tmp 2] h.length (codeB Try.prog E ⟨75, 14, h.length, none⟩ n75_0 ⟨enumT 0 args, h, []⟩) := GE.run_step Try.func75 body75 (by kernel_rfl) (by decide) (by kernel_rfl) hl
theorem n75_1s : codeB Try.prog E ⟨f, 14, b, ro⟩ n75_1 st = plainS (runOps Try.prog E b q75_1 (ops [false] Try.f75) st) := GE.region_step (id := 0) (GE.reg_of (by kernel_rfl)) (by kernel_rfl)
theorem q75_3g6 : gd q75_3 6 = some 9 := by kernel_rfl
theorem n75_3s : codeB Try.prog E ⟨f, 14, b, ro⟩ n75_3 st = plainS (runOps Try.prog E b q75_3 (ops [true, false] Try.f75) st) := GE.region_step (id := 1) (GE.reg_of (by kernel_rfl)) (by kernel_rfl)
theorem n75_4s : codeB Try.prog LL ⟨75, 14, b, ro⟩ n75_4 st = normS b ⟨[2], []⟩ .ret st := GE.ret_step (by kernel_rfl) (by kernel_rfl)
theorem n75_2s : codeB Try.prog E cx n75_2 st = thenS (codeB Try.prog E cx n75_3 st) (codeB Try.prog E cx n75_4) := GE.seq_step (by kernel_rfl)
theorem n75_0s : codeB Try.prog E cx n75_0 st = thenS (codeB Try.prog E cx n75_1 st) (codeB Try.prog E cx n75_2) := GE.seq_step (by kernel_rfl)
noncomputable def n76_0 : Code := bodyOf Try.f76
noncomputable def n76_1 : Code := cl n76_0
noncomputable def q76_1 : List Oper := opsOf n76_1
noncomputable def n76_2 : Code := cr n76_0
noncomputable def n76_3 : Code := cl n76_2
noncomputable def q76_3 : List Oper := opsOf n76_3
noncomputable def n76_4 : Code := cr n76_2
noncomputable def n76_5 : Code := cl n76_4
noncomputable def n76_6 : Code := cl n76_5
noncomputable def q76_6 : List Oper := opsOf n76_6
noncomputable def n76_7 : Code := cr n76_5
noncomputable def n76_8 : Code := cl n76_7
noncomputable def n76_9 : Code := cl n76_8
noncomputable def q76_9 : List Oper := opsOf n76_9
noncomputable def n76_10 : Code := cr n76_8
noncomputable def n76_11 : Code := cr n76_7
noncomputable def n76_12 : Code := cr n76_4
noncomputable def n76_13 : Code := cl n76_12
noncomputable def n76_14 : Code := cl n76_13
noncomputable def q76_14 : List Oper := opsOf n76_14
noncomputable def n76_15 : Code := cr n76_13
noncomputable def n76_16 : Code := cl n76_15
noncomputable def n76_17 : Code := cl n76_16
noncomputable def q76_17 : List Oper := opsOf n76_17
noncomputable def n76_18 : Code := cr n76_16
noncomputable def n76_19 : Code := cr n76_15
noncomputable def n76_20 : Code := cr n76_12
noncomputable def n76_21 : Code := cl n76_20
noncomputable def n76_22 : Code := cl n76_21
noncomputable def q76_22 : List Oper := opsOf n76_22
noncomputable def n76_23 : Code := cr n76_21
noncomputable def n76_24 : Code := cl n76_23
noncomputable def n76_25 : Code := cl n76_24
noncomputable def n76_26 : Code := cl n76_25
noncomputable def n76_27 : Code := cl n76_26
noncomputable def q76_27 : List Oper := opsOf n76_27
noncomputable def n76_28 : Code := cr n76_26
noncomputable def n76_29 : Code := cl n76_28
noncomputable def n76_30 : Code := cr n76_28
noncomputable def n76_31 : Code := cr n76_25
noncomputable def n76_32 : Code := cl n76_31
noncomputable def n76_33 : Code := cl n76_32
noncomputable def n76_34 : Code := cl n76_33
noncomputable def n76_35 : Code := cl n76_34
noncomputable def q76_35 : List Oper := opsOf n76_35
noncomputable def n76_36 : Code := cr n76_34
noncomputable def n76_37 : Code := cl n76_36
noncomputable def n76_38 : Code := cl n76_37
noncomputable def q76_38 : List Oper := opsOf n76_38
noncomputable def n76_39 : Code := cr n76_37
noncomputable def n76_40 : Code := cr n76_36
noncomputable def n76_41 : Code := cr n76_33
noncomputable def n76_42 : Code := cl n76_41
noncomputable def q76_42 : List Oper := opsOf n76_42
noncomputable def n76_43 : Code := cr n76_41
noncomputable def n76_44 : Code := cl n76_43
noncomputable def n76_45 : Code := cl n76_44
noncomputable def n76_46 : Code := cl n76_45
noncomputable def n76_47 : Code := cl n76_46
noncomputable def q76_47 : List Oper := opsOf n76_47
noncomputable def n76_48 : Code := cr n76_46
noncomputable def n76_49 : Code := cl n76_48
noncomputable def n76_50 : Code := cr n76_48
noncomputable def n76_51 : Code := cr n76_45
noncomputable def n76_52 : Code := cl n76_51
noncomputable def n76_53 : Code := cl n76_52
noncomputable def n76_54 : Code := cl n76_53
noncomputable def q76_54 : List Oper := opsOf n76_54
noncomputable def n76_55 : Code := cr n76_53
noncomputable def n76_56 : Code := cl n76_55
noncomputable def n76_57 : Code := cl n76_56
noncomputable def q76_57 : List Oper := opsOf n76_57
noncomputable def n76_58 : Code := cr n76_56
noncomputable def n76_59 : Code := cr n76_55
noncomputable def n76_60 : Code := cr n76_51
noncomputable def q76_60 : List Oper := opsOf n76_60
noncomputable def n76_61 : Code := cr n76_31
noncomputable def q76_61 : List Oper := opsOf n76_61
noncomputable def n76_62 : Code := cr n76_20
noncomputable def n76_63 : Code := cl n76_62
noncomputable def q76_63 : List Oper := opsOf n76_63
noncomputable def n76_64 : Code := cr n76_62
theorem body76 : Try.f76.body = some n76_0 := by kernel_rfl
theorem run76 (E : Ev) (args : List Value) (h : List Blk) (hl : args.length ≤ 47) : runB Try.prog E 76 args h = endS Try.prog [.tmp 4] h.length (codeB Try.prog E ⟨76, 47, h.length, none⟩ n76_0 ⟨enumT 0 args, h, []⟩) := GE.run_step Try.func76 body76 (by kernel_rfl) (by decide) (by kernel_rfl) hl
theorem n76_1s : codeB Try.prog E ⟨f, 47, b, ro⟩ n76_1 st = plainS (runOps Try.prog E b q76_1 (ops [false] Try.f76) st) := GE.region_step (id := 0) (GE.reg_of (by kernel_rfl)) (by kernel_rfl)
theorem n76_3s : codeB Try.prog E ⟨f, 47, b, ro⟩ n76_3 st = plainS (runOps Try.prog E b q76_3 (ops [true, false] Try.f76) st) := GE.region_step (id := 1) (GE.reg_of (by kernel_rfl)) (by kernel_rfl)
theorem n76_6s : codeB Try.prog E ⟨f, 47, b, ro⟩ n76_6 st = plainS (runOps Try.prog E b q76_6 (ops [true, true, false, false] Try.f76) st) := GE.region_step (id := 2) (GE.reg_of (by kernel_rfl)) (by kernel_rfl)
theorem n76_9s : codeB Try.prog E ⟨f, 47, b, ro⟩ n76_9 st = plainS (runOps Try.prog E b q76_9 (ops [true, true, false, true, false, false] Try.f76) st) := GE.region_step (id := 3) (GE.reg_of (by kernel_rfl)) (by kernel_rfl)
theorem n76_10s : codeB Try.prog LL ⟨76, 47, b, ro⟩ n76_10 st = normS b ⟨[4], []⟩ .ret st := GE.ret_step (by kernel_rfl) (by kernel_rfl)
theorem n76_8s : codeB Try.prog E cx n76_8 st = thenS (codeB Try.prog E cx n76_9 st) (codeB Try.prog E cx n76_10) := GE.seq_step (by kernel_rfl)
theorem n76_11s : codeB Try.prog E cx n76_11 st = some (.normal, st) := GE.skip_step (by kernel_rfl)
theorem n76_7s : codeB Try.prog E cx n76_7 st = condS (codeB Try.prog E cx n76_8) (codeB Try.prog E cx n76_11) (lk st.σ 11) st := GE.cond_step (c := .tmp 11) (by kernel_rfl)
theorem n76_5s : codeB Try.prog E cx n76_5 st = thenS (codeB Try.prog E cx n76_6 st) (codeB Try.prog E cx n76_7) := GE.seq_step (by kernel_rfl)
theorem n76_14s : codeB Try.prog E ⟨f, 47, b, ro⟩ n76_14 st = plainS (runOps Try.prog E b q76_14 (ops [true, true, true, false, false] Try.f76) st) := GE.region_step (id := 4) (GE.reg_of (by kernel_rfl)) (by kernel_rfl)
theorem n76_17s : codeB Try.prog E ⟨f, 47, b, ro⟩ n76_17 st = plainS (runOps Try.prog E b q76_17 (ops [true, true, true, false, true, false, false] Try.f76) st) := GE.region_step (id := 5) (GE.reg_of (by kernel_rfl)) (by kernel_rfl)
theorem n76_18s : codeB Try.prog LL ⟨76, 47, b, ro⟩ n76_18 st = normS b ⟨[4], []⟩ .ret st := GE.ret_step (by kernel_rfl) (by kernel_rfl)
theorem n76_16s : codeB Try.prog E cx n76_16 st = thenS (codeB Try.prog E cx n76_17 st) (codeB Try.prog E cx n76_18) := GE.seq_step (by kernel_rfl)
theorem n76_19s : codeB Try.prog E cx n76_19 st = some (.normal, st) := GE.skip_step (by kernel_rfl)
theorem n76_15s : codeB Try.prog E cx n76_15 st = condS (codeB Try.prog E cx n76_16) (codeB Try.prog E cx n76_19) (lk st.σ 17) st := GE.cond_step (c := .tmp 17) (by kernel_rfl)
theorem n76_13s : codeB Try.prog E cx n76_13 st = thenS (codeB Try.prog E cx n76_14 st) (codeB Try.prog E cx n76_15) := GE.seq_step (by kernel_rfl)
theorem n76_22s : codeB Try.prog E ⟨f, 47, b, ro⟩ n76_22 st = plainS (runOps Try.prog E b q76_22 (ops [true, true, true, true, false, false] Try.f76) st) := GE.region_step (id := 6) (GE.reg_of (by kernel_rfl)) (by kernel_rfl)
theorem n76_27s : codeB Try.prog E ⟨f, 47, b, ro⟩ n76_27 st = plainS (runOps Try.prog E b q76_27 (ops [true, true, true, true, false, true, false, false, false, false] Try.f76) st) := GE.region_step (id := 7) (GE.reg_of (by kernel_rfl)) (by kernel_rfl)
theorem n76_29s : codeB Try.prog E cx n76_29 st = some (.normal, st) := GE.skip_step (by kernel_rfl)
theorem n76_30s : codeB Try.prog LL ⟨76, 47, b, ro⟩ n76_30 st = normS b ⟨[], []⟩ (.exit 0) st := GE.exit_step (by kernel_rfl) (by kernel_rfl)
theorem n76_28s : codeB Try.prog E cx n76_28 st = condS (codeB Try.prog E cx n76_29) (codeB Try.prog E cx n76_30) (lk st.σ 21) st := GE.cond_step (c := .tmp 21) (by kernel_rfl)
theorem n76_26s : codeB Try.prog E cx n76_26 st = thenS (codeB Try.prog E cx n76_27 st) (codeB Try.prog E cx n76_28) := GE.seq_step (by kernel_rfl)
theorem n76_35s : codeB Try.prog E ⟨f, 47, b, ro⟩ n76_35 st = plainS (runOps Try.prog E b q76_35 (ops [true, true, true, true, false, true, false, false, true, false, false, false, false] Try.f76) st) := GE.region_step (id := 9) (GE.reg_of (by kernel_rfl)) (by kernel_rfl)
theorem n76_38s : codeB Try.prog E ⟨f, 47, b, ro⟩ n76_38 st = plainS (runOps Try.prog E b q76_38 (ops [true, true, true, true, false, true, false, false, true, false, false, false, true, false, false] Try.f76) st) := GE.region_step (id := 10) (GE.reg_of (by kernel_rfl)) (by kernel_rfl)
theorem n76_39s : codeB Try.prog LL ⟨76, 47, b, ro⟩ n76_39 st = normS b ⟨[4], []⟩ .ret st := GE.ret_step (by kernel_rfl) (by kernel_rfl)
theorem n76_37s : codeB Try.prog E cx n76_37 st = thenS (codeB Try.prog E cx n76_38 st) (codeB Try.prog E cx n76_39) := GE.seq_step (by kernel_rfl)
theorem n76_40s : codeB Try.prog E cx n76_40 st = some (.normal, st) := GE.skip_step (by kernel_rfl)
theorem n76_36s : codeB Try.prog E cx n76_36 st = condS (codeB Try.prog E cx n76_37) (codeB Try.prog E cx n76_40) (lk st.σ 32) st := GE.cond_step (c := .tmp 32) (by kernel_rfl)
theorem n76_34s : codeB Try.prog E cx n76_34 st = thenS (codeB Try.prog E cx n76_35 st) (codeB Try.prog E cx n76_36) := GE.seq_step (by kernel_rfl)
theorem n76_42s : codeB Try.prog E ⟨f, 47, b, ro⟩ n76_42 st = plainS (runOps Try.prog E b q76_42 (ops [true, true, true, true, false, true, false, false, true, false, false, true, false] Try.f76) st) := GE.region_step (id := 11) (GE.reg_of (by kernel_rfl)) (by kernel_rfl)
theorem n76_47s : codeB Try.prog E ⟨f, 47, b, ro⟩ n76_47 st = plainS (runOps Try.prog E b q76_47 (ops [true, true, true, true, false, true, false, false, true, false, false, true, true, false, false, false, false] Try.f76) st) := GE.region_step (id := 12) (GE.reg_of (by kernel_rfl)) (by kernel_rfl)
theorem n76_49s : codeB Try.prog E cx n76_49 st = some (.normal, st) := GE.skip_step (by kernel_rfl)
theorem n76_50s : codeB Try.prog LL ⟨76, 47, b, ro⟩ n76_50 st = normS b ⟨[0, 1, 6], [⟨0, 0, 2, true⟩, ⟨1, 0, 1, true⟩]⟩ (.exit 2) st := GE.exit_step (by kernel_rfl) (by kernel_rfl)
theorem n76_48s : codeB Try.prog E cx n76_48 st = condS (codeB Try.prog E cx n76_49) (codeB Try.prog E cx n76_50) (lk st.σ 35) st := GE.cond_step (c := .tmp 35) (by kernel_rfl)
theorem n76_46s : codeB Try.prog E cx n76_46 st = thenS (codeB Try.prog E cx n76_47 st) (codeB Try.prog E cx n76_48) := GE.seq_step (by kernel_rfl)
theorem n76_54s : codeB Try.prog E ⟨f, 47, b, ro⟩ n76_54 st = drawS [0, 0, 3, 7, 0, 0, 48, 112, 255] (runOpsF Try.prog E b q76_54 (ops [true, true, true, true, false, true, false, false, true, false, false, true, true, false, false, true, false, false, false] Try.f76) st) := GE.draw_step (id := 14) (GE.reg_of (by kernel_rfl)) (by kernel_rfl) (by kernel_rfl) (by kernel_rfl)
theorem n76_57s : codeB Try.prog E ⟨f, 47, b, ro⟩ n76_57 st = plainS (runOps Try.prog E b q76_57 (ops [true, true, true, true, false, true, false, false, true, false, false, true, true, false, false, true, false, false, true, false, false] Try.f76) st) := GE.region_step (id := 15) (GE.reg_of (by kernel_rfl)) (by kernel_rfl)
theorem n76_58s : codeB Try.prog LL ⟨76, 47, b, ro⟩ n76_58 st = normS b ⟨[4], []⟩ .ret st := GE.ret_step (by kernel_rfl) (by kernel_rfl)
theorem n76_56s : codeB Try.prog E cx n76_56 st = thenS (codeB Try.prog E cx n76_57 st) (codeB Try.prog E cx n76_58) := GE.seq_step (by kernel_rfl)
theorem n76_59s : codeB Try.prog E cx n76_59 st = some (.normal, st) := GE.skip_step (by kernel_rfl)
theorem n76_55s : codeB Try.prog E cx n76_55 st = condS (codeB Try.prog E cx n76_56) (codeB Try.prog E cx n76_59) (lk st.σ 46) st := GE.cond_step (c := .tmp 46) (by kernel_rfl)
theorem n76_53s : codeB Try.prog E cx n76_53 st = thenS (codeB Try.prog E cx n76_54 st) (codeB Try.prog E cx n76_55) := GE.seq_step (by kernel_rfl)
theorem n76_52s : codeB Try.prog E cx n76_52 st = blockS 3 (codeB Try.prog E cx n76_53 st) st := GE.block_step (by kernel_rfl)
theorem n76_60s : codeB Try.prog E ⟨f, 47, b, ro⟩ n76_60 st = plainS (runOps Try.prog E b q76_60 (ops [true, true, true, true, false, true, false, false, true, false, false, true, true, false, false, true, true] Try.f76) st) := GE.region_step (id := 13) (GE.reg_of (by kernel_rfl)) (by kernel_rfl)
theorem n76_51s : codeB Try.prog E cx n76_51 st = thenS (codeB Try.prog E cx n76_52 st) (codeB Try.prog E cx n76_60) := GE.seq_step (by kernel_rfl)
theorem n76_45s : codeB Try.prog E cx n76_45 st = thenS (codeB Try.prog E cx n76_46 st) (codeB Try.prog E cx n76_51) := GE.seq_step (by kernel_rfl)
theorem n76_44k : LL.kp (⟨76, 47, b, ro⟩ : Cx).fn (4 * rid n76_45 + 3) = some ⟨[7, 0, 1, 6], [⟨0, 0, 2, true⟩, ⟨1, 0, 1, true⟩]⟩ := by kernel_rfl
theorem n76_44s : codeB Try.prog LL ⟨76, 47, b, ro⟩ n76_44 st = headS b ⟨[7, 0, 1, 6], [⟨0, 0, 2, true⟩, ⟨1, 0, 1, true⟩]⟩ st (lpB Try.prog LL ⟨76, 47, b, ro⟩ n76_44 n76_45) := GE.lpB_step (by kernel_rfl) (n76_44k b ro)
theorem n76_44g : LL.code ⟨76, 47, b, ro⟩ n76_44 st = headS b ⟨[7, 0, 1, 6], [⟨0, 0, 2, true⟩, ⟨1, 0, 1, true⟩]⟩ st (lpB Try.prog LL ⟨76, 47, b, ro⟩ n76_44 n76_45) := GE.lpB_again (by kernel_rfl) (n76_44k b ro)
theorem n76_43s : codeB Try.prog E cx n76_43 st = blockS 2 (codeB Try.prog E cx n76_44 st) st := GE.block_step (by kernel_rfl)
theorem n76_41s : codeB Try.prog E cx n76_41 st = thenS (codeB Try.prog E cx n76_42 st) (codeB Try.prog E cx n76_43) := GE.seq_step (by kernel_rfl)
theorem n76_33s : codeB Try.prog E cx n76_33 st = thenS (codeB Try.prog E cx n76_34 st) (codeB Try.prog E cx n76_41) := GE.seq_step (by kernel_rfl)
theorem n76_32s : codeB Try.prog E cx n76_32 st = blockS 1 (codeB Try.prog E cx n76_33 st) st := GE.block_step (by kernel_rfl)
theorem n76_61s : codeB Try.prog E ⟨f, 47, b, ro⟩ n76_61 st = plainS (runOps Try.prog E b q76_61 (ops [true, true, true, true, false, true, false, false, true, true] Try.f76) st) := GE.region_step (id := 8) (GE.reg_of (by kernel_rfl)) (by kernel_rfl)
theorem n76_31s : codeB Try.prog E cx n76_31 st = thenS (codeB Try.prog E cx n76_32 st) (codeB Try.prog E cx n76_61) := GE.seq_step (by kernel_rfl)
theorem n76_25s : codeB Try.prog E cx n76_25 st = thenS (codeB Try.prog E cx n76_26 st) (codeB Try.prog E cx n76_31) := GE.seq_step (by kernel_rfl)
theorem n76_24k : LL.kp (⟨76, 47, b, ro⟩ : Cx).fn (4 * rid n76_25 + 3) = some ⟨[0, 1, 6], [⟨0, 0, 2, true⟩, ⟨1, 0, 1, true⟩]⟩ := by kernel_rfl
theorem n76_24s : codeB Try.prog LL ⟨76, 47, b, ro⟩ n76_24 st = headS b ⟨[0, 1, 6], [⟨0, 0, 2, true⟩, ⟨1, 0, 1, true⟩]⟩ st (lpB Try.prog LL ⟨76, 47, b, ro⟩ n76_24 n76_25) := GE.lpB_step (by kernel_rfl) (n76_24k b ro)
theorem n76_24g : LL.code ⟨76, 47, b, ro⟩ n76_24 st = headS b ⟨[0, 1, 6], [⟨0, 0, 2, true⟩, ⟨1, 0, 1, true⟩]⟩ st (lpB Try.prog LL ⟨76, 47, b, ro⟩ n76_24 n76_25) := GE.lpB_again (by kernel_rfl) (n76_24k b ro)
theorem n76_23s : codeB Try.prog E cx n76_23 st = blockS 0 (codeB Try.prog E cx n76_24 st) st := GE.block_step (by kernel_rfl)
theorem n76_21s : codeB Try.prog E cx n76_21 st = thenS (codeB Try.prog E cx n76_22 st) (codeB Try.prog E cx n76_23) := GE.seq_step (by kernel_rfl)
theorem n76_63s : codeB Try.prog E ⟨f, 47, b, ro⟩ n76_63 st = plainS (runOps Try.prog E b q76_63 (ops [true, true, true, true, true, false] Try.f76) st) := GE.region_step (id := 16) (GE.reg_of (by kernel_rfl)) (by kernel_rfl)
theorem n76_64s : codeB Try.prog LL ⟨76, 47, b, ro⟩ n76_64 st = normS b ⟨[4], []⟩ .ret st := GE.ret_step (by kernel_rfl) (by kernel_rfl)
theorem n76_62s : codeB Try.prog E cx n76_62 st = thenS (codeB Try.prog E cx n76_63 st) (codeB Try.prog E cx n76_64) := GE.seq_step (by kernel_rfl)
theorem n76_20s : codeB Try.prog E cx n76_20 st = thenS (codeB Try.prog E cx n76_21 st) (codeB Try.prog E cx n76_62) := GE.seq_step (by kernel_rfl)
theorem n76_12s : codeB Try.prog E cx n76_12 st = thenS (codeB Try.prog E cx n76_13 st) (codeB Try.prog E cx n76_20) := GE.seq_step (by kernel_rfl)
theorem n76_4s : codeB Try.prog E cx n76_4 st = thenS (codeB Try.prog E cx n76_5 st) (codeB Try.prog E cx n76_12) := GE.seq_step (by kernel_rfl)
theorem n76_2s : codeB Try.prog E cx n76_2 st = thenS (codeB Try.prog E cx n76_3 st) (codeB Try.prog E cx n76_4) := GE.seq_step (by kernel_rfl)
theorem n76_0s : codeB Try.prog E cx n76_0 st = thenS (codeB Try.prog E cx n76_1 st) (codeB Try.prog E cx n76_2) := GE.seq_step (by kernel_rfl)
noncomputable def n77_0 : Code := bodyOf Try.f77
noncomputable def n77_1 : Code := cl n77_0
noncomputable def q77_1 : List Oper := opsOf n77_1
noncomputable def n77_2 : Code := cr n77_0
noncomputable def n77_3 : Code := cl n77_2
noncomputable def q77_3 : List Oper := opsOf n77_3
noncomputable def n77_4 : Code := cr n77_2
theorem body77 : Try.f77.body = some n77_0 := by kernel_rfl
theorem run77 (E : Ev) (args : List Value) (h : List Blk) (hl : args.length ≤ 18) : runB Try.prog E 77 args h = endS Try.prog [.tmp 6] h.length (codeB Try.prog E ⟨77, 18, h.length, none⟩ n77_0 ⟨enumT 0 args, h, []⟩) := GE.run_step Try.func77 body77 (by kernel_rfl) (by decide) (by kernel_rfl) hl
theorem n77_1s : codeB Try.prog E ⟨f, 18, b, ro⟩ n77_1 st = plainS (runOps Try.prog E b q77_1 (ops [false] Try.f77) st) := GE.region_step (id := 0) (GE.reg_of (by kernel_rfl)) (by kernel_rfl)
theorem n77_3s : codeB Try.prog E ⟨f, 18, b, ro⟩ n77_3 st = drawS [0, 0, 3, 7, 15, 0, 0, 96, 224, 480, 1023, 2047] (runOpsF Try.prog E b q77_3 (ops [true, false] Try.f77) st) := GE.draw_step (id := 1) (GE.reg_of (by kernel_rfl)) (by kernel_rfl) (by kernel_rfl) (by kernel_rfl)
theorem n77_4s : codeB Try.prog LL ⟨77, 18, b, ro⟩ n77_4 st = normS b ⟨[6], []⟩ .ret st := GE.ret_step (by kernel_rfl) (by kernel_rfl)
theorem n77_2s : codeB Try.prog E cx n77_2 st = thenS (codeB Try.prog E cx n77_3 st) (codeB Try.prog E cx n77_4) := GE.seq_step (by kernel_rfl)
theorem n77_0s : codeB Try.prog E cx n77_0 st = thenS (codeB Try.prog E cx n77_1 st) (codeB Try.prog E cx n77_2) := GE.seq_step (by kernel_rfl)
noncomputable def n82_0 : Code := bodyOf Try.f82
noncomputable def n82_1 : Code := cl n82_0
noncomputable def q82_1 : List Oper := opsOf n82_1
noncomputable def n82_2 : Code := cr n82_0
noncomputable def n82_3 : Code := cl n82_2
noncomputable def n82_4 : Code := cl n82_3
noncomputable def q82_4 : List Oper := opsOf n82_4
noncomputable def n82_5 : Code := cr n82_3
noncomputable def n82_6 : Code := cl n82_5
noncomputable def n82_7 : Code := cl n82_6
noncomputable def n82_8 : Code := cl n82_7
noncomputable def q82_8 : List Oper := opsOf n82_8
noncomputable def n82_9 : Code := cr n82_7
noncomputable def n82_10 : Code := cl n82_9
noncomputable def n82_11 : Code := cl n82_10
noncomputable def n82_12 : Code := cr n82_10
noncomputable def n82_13 : Code := cr n82_9
noncomputable def n82_14 : Code := cl n82_13
noncomputable def n82_15 : Code := cl n82_14
noncomputable def n82_16 : Code := cl n82_15
noncomputable def q82_16 : List Oper := opsOf n82_16
noncomputable def n82_17 : Code := cr n82_15
noncomputable def n82_18 : Code := cl n82_17
noncomputable def q82_18 : List Oper := opsOf n82_18
noncomputable def n82_19 : Code := cr n82_17
noncomputable def n82_20 : Code := cl n82_19
noncomputable def n82_21 : Code := cl n82_20
noncomputable def q82_21 : List Oper := opsOf n82_21
noncomputable def n82_22 : Code := cr n82_20
noncomputable def n82_23 : Code := cr n82_19
noncomputable def n82_24 : Code := cr n82_13
noncomputable def q82_24 : List Oper := opsOf n82_24
noncomputable def n82_25 : Code := cr n82_2
noncomputable def n82_26 : Code := cl n82_25
noncomputable def q82_26 : List Oper := opsOf n82_26
noncomputable def n82_27 : Code := cr n82_25
theorem body82 : Try.f82.body = some n82_0 := by kernel_rfl
theorem run82 (E : Ev) (args : List Value) (h : List Blk) (hl : args.length ≤ 19) : runB Try.prog E 82 args h = endS Try.prog [.tmp 4] h.length (codeB Try.prog E ⟨82, 19, h.length, none⟩ n82_0 ⟨enumT 0 args, h, []⟩) := GE.run_step Try.func82 body82 (by kernel_rfl) (by decide) (by kernel_rfl) hl
theorem n82_1s : codeB Try.prog E ⟨f, 19, b, ro⟩ n82_1 st = plainS (runOps Try.prog E b q82_1 (ops [false] Try.f82) st) := GE.region_step (id := 0) (GE.reg_of (by kernel_rfl)) (by kernel_rfl)
theorem n82_4s : codeB Try.prog E ⟨f, 19, b, ro⟩ n82_4 st = plainS (runOps Try.prog E b q82_4 (ops [true, false, false] Try.f82) st) := GE.region_step (id := 1) (GE.reg_of (by kernel_rfl)) (by kernel_rfl)
theorem n82_8s : codeB Try.prog E ⟨f, 19, b, ro⟩ n82_8 st = plainS (runOps Try.prog E b q82_8 (ops [true, false, true, false, false, false] Try.f82) st) := GE.region_step (id := 2) (GE.reg_of (by kernel_rfl)) (by kernel_rfl)
theorem n82_11s : codeB Try.prog E cx n82_11 st = some (.normal, st) := GE.skip_step (by kernel_rfl)
theorem n82_12s : codeB Try.prog LL ⟨82, 19, b, ro⟩ n82_12 st = normS b ⟨[], []⟩ (.exit 0) st := GE.exit_step (by kernel_rfl) (by kernel_rfl)
theorem n82_10s : codeB Try.prog E cx n82_10 st = condS (codeB Try.prog E cx n82_11) (codeB Try.prog E cx n82_12) (lk st.σ 9) st := GE.cond_step (c := .tmp 9) (by kernel_rfl)
theorem n82_16s : codeB Try.prog E ⟨f, 19, b, ro⟩ n82_16 st = plainS (runOps Try.prog E b q82_16 (ops [true, false, true, false, false, true, true, false, false, false] Try.f82) st) := GE.region_step (id := 3) (GE.reg_of (by kernel_rfl)) (by kernel_rfl)
theorem n82_18s : codeB Try.prog E ⟨f, 19, b, ro⟩ n82_18 st = plainS (runOps Try.prog E b q82_18 (ops [true, false, true, false, false, true, true, false, false, true, false] Try.f82) st) := GE.region_step (id := 4) (GE.reg_of (by kernel_rfl)) (by kernel_rfl)
theorem n82_21s : codeB Try.prog E ⟨f, 19, b, ro⟩ n82_21 st = plainS (runOps Try.prog E b q82_21 (ops [true, false, true, false, false, true, true, false, false, true, true, false, false] Try.f82) st) := GE.region_step (id := 5) (GE.reg_of (by kernel_rfl)) (by kernel_rfl)
theorem n82_22s : codeB Try.prog LL ⟨82, 19, b, ro⟩ n82_22 st = normS b ⟨[4], []⟩ .ret st := GE.ret_step (by kernel_rfl) (by kernel_rfl)
theorem n82_20s : codeB Try.prog E cx n82_20 st = thenS (codeB Try.prog E cx n82_21 st) (codeB Try.prog E cx n82_22) := GE.seq_step (by kernel_rfl)
theorem n82_23s : codeB Try.prog E cx n82_23 st = some (.normal, st) := GE.skip_step (by kernel_rfl)
theorem n82_19s : codeB Try.prog E cx n82_19 st = condS (codeB Try.prog E cx n82_20) (codeB Try.prog E cx n82_23) (lk st.σ 16) st := GE.cond_step (c := .tmp 16) (by kernel_rfl)
theorem n82_17s : codeB Try.prog E cx n82_17 st = thenS (codeB Try.prog E cx n82_18 st) (codeB Try.prog E cx n82_19) := GE.seq_step (by kernel_rfl)
theorem n82_15s : codeB Try.prog E cx n82_15 st = thenS (codeB Try.prog E cx n82_16 st) (codeB Try.prog E cx n82_17) := GE.seq_step (by kernel_rfl)
theorem n82_14s : codeB Try.prog E cx n82_14 st = blockS 1 (codeB Try.prog E cx n82_15 st) st := GE.block_step (by kernel_rfl)
theorem n82_24s : codeB Try.prog E ⟨f, 19, b, ro⟩ n82_24 st = plainS (runOps Try.prog E b q82_24 (ops [true, false, true, false, false, true, true, true] Try.f82) st) := GE.region_step (id := 6) (GE.reg_of (by kernel_rfl)) (by kernel_rfl)
theorem n82_13s : codeB Try.prog E cx n82_13 st = thenS (codeB Try.prog E cx n82_14 st) (codeB Try.prog E cx n82_24) := GE.seq_step (by kernel_rfl)
theorem n82_9s : codeB Try.prog E cx n82_9 st = thenS (codeB Try.prog E cx n82_10 st) (codeB Try.prog E cx n82_13) := GE.seq_step (by kernel_rfl)
theorem n82_7s : codeB Try.prog E cx n82_7 st = thenS (codeB Try.prog E cx n82_8 st) (codeB Try.prog E cx n82_9) := GE.seq_step (by kernel_rfl)
theorem n82_6k : LL.kp (⟨82, 19, b, ro⟩ : Cx).fn (4 * rid n82_7 + 3) = some ⟨[0, 1, 7, 8], [⟨0, 0, 2, true⟩]⟩ := by kernel_rfl
theorem n82_6s : codeB Try.prog LL ⟨82, 19, b, ro⟩ n82_6 st = headS b ⟨[0, 1, 7, 8], [⟨0, 0, 2, true⟩]⟩ st (lpB Try.prog LL ⟨82, 19, b, ro⟩ n82_6 n82_7) := GE.lpB_step (by kernel_rfl) (n82_6k b ro)
theorem n82_6g : LL.code ⟨82, 19, b, ro⟩ n82_6 st = headS b ⟨[0, 1, 7, 8], [⟨0, 0, 2, true⟩]⟩ st (lpB Try.prog LL ⟨82, 19, b, ro⟩ n82_6 n82_7) := GE.lpB_again (by kernel_rfl) (n82_6k b ro)
theorem n82_5s : codeB Try.prog E cx n82_5 st = blockS 0 (codeB Try.prog E cx n82_6 st) st := GE.block_step (by kernel_rfl)
theorem n82_3s : codeB Try.prog E cx n82_3 st = thenS (codeB Try.prog E cx n82_4 st) (codeB Try.prog E cx n82_5) := GE.seq_step (by kernel_rfl)
theorem n82_26s : codeB Try.prog E ⟨f, 19, b, ro⟩ n82_26 st = plainS (runOps Try.prog E b q82_26 (ops [true, true, false] Try.f82) st) := GE.region_step (id := 7) (GE.reg_of (by kernel_rfl)) (by kernel_rfl)
theorem n82_27s : codeB Try.prog LL ⟨82, 19, b, ro⟩ n82_27 st = normS b ⟨[4], []⟩ .ret st := GE.ret_step (by kernel_rfl) (by kernel_rfl)
theorem n82_25s : codeB Try.prog E cx n82_25 st = thenS (codeB Try.prog E cx n82_26 st) (codeB Try.prog E cx n82_27) := GE.seq_step (by kernel_rfl)
theorem n82_2s : codeB Try.prog E cx n82_2 st = thenS (codeB Try.prog E cx n82_3 st) (codeB Try.prog E cx n82_25) := GE.seq_step (by kernel_rfl)
theorem n82_0s : codeB Try.prog E cx n82_0 st = thenS (codeB Try.prog E cx n82_1 st) (codeB Try.prog E cx n82_2) := GE.seq_step (by kernel_rfl)
theorem lk_22 : lenK Try.prog 22 = some .sl := by kernel_rfl
theorem lk_24 : lenK Try.prog 24 = some .sl := by kernel_rfl
theorem es_24 : elemK Try.prog 24 = some (none, 1) := by kernel_rfl
theorem ia_3 : aggK Try.prog 3 = some (false, 1) := by kernel_rfl
theorem es_22 : elemK Try.prog 22 = some (none, 2) := by kernel_rfl
theorem fa_55_0 : fieldAt Try.prog 55 0 = some (0, 1) := by kernel_rfl
theorem fa_55_1 : fieldAt Try.prog 55 1 = some (1, 1) := by kernel_rfl
theorem lk_78 : lenK Try.prog 78 = some .sl := by kernel_rfl
theorem es_78 : elemK Try.prog 78 = some (none, 2) := by kernel_rfl
theorem ia_55 : aggK Try.prog 55 = some (true, 2) := by kernel_rfl

end Go.Proofs.Ytfccmddkblbeoaa.rk
