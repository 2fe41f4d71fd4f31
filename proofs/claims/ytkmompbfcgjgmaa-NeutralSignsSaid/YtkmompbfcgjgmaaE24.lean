/-
  GE, part 24: steps of code by names of its nodes (projections of a function's body), for symbolic runs at the limit evaluator.
-/
import Derived.Test.YtkmompbfcgjgmaaE23
import Derived.KernelRfl
set_option autoImplicit false
set_option linter.unusedVariables false
set_option linter.unusedSimpArgs false
namespace Go.GE
variable {P : Program}

def cl : Code → Code
  | .seq a _ => a | .cond _ a _ => a | .block _ a => a | .loop a => a | .scope a => a | .rangeFunc _ _ a _ => a | c => c
def cr : Code → Code
  | .seq _ b => b | .cond _ _ b => b | .rangeFunc _ _ _ b => b | c => c
def co : Code → Array Oper
  | .region _ ops _ => ops | _ => #[]
def cc : Code → Operand
  | .cond c _ _ => c | .rangeFunc f _ _ _ => f | _ => .const .nilFunc
def bodyOf (f : Func) : Code := f.body.getD .skip
/-- the node that a path leads to -/
def sub : List Bool → Code → Code
  | [], c => c
  | false :: r, c => sub r (cl c)
  | true :: r, c => sub r (cr c)
def ops (p : List Bool) (f : Func) : List Oper := (co (sub p (bodyOf f))).toList

abbrev Res := Option (Ex × St)
def thenS (r : Res) (f : St → Res) : Res :=
  match r with
  | some (.normal, st') => f st'
  | r => r
def afterN (n : Nat) (r : Res) : Res :=
  match r with
  | some (.normal, st') => some (.normal, ⟨dropTo n st'.σ, st'.h, st'.wr⟩)
  | r => r
def condS (a b : St → Res) (c : Option Value) (st : St) : Res :=
  match c with
  | some (.bool true) => afterN st.σ.length (a st)
  | some (.bool false) => afterN st.σ.length (b st)
  | _ => none
def blockS (id : Nat) (r : Res) (st : St) : Res :=
  match r with
  | some (.normal, st') => some (.normal, ⟨dropTo st.σ.length st'.σ, st'.h, st'.wr⟩)
  | some (.exit id', st') => if id' = id then some (.normal, ⟨dropTo st.σ.length st'.σ, st'.h, st'.wr⟩) else some (.exit id', st')
  | r => r
def loopS (go : St → Res) (base : Nat) (r : Res) (st : St) : Res :=
  match r with
  | some (.normal, st') =>
    match (if st'.h.length = st.h.length then some { st' with σ := dropTo st.σ.length st'.σ } else sweep base { st' with σ := dropTo st.σ.length st'.σ }) with
    | some st'' => go st''
    | none => none
  | r => r
/-- a loop at whose head just some temporaries are kept -/
def roundS (go : St → Res) (r : Res) : Res :=
  match r with
  | some (.normal, st') => go st'
  | r => r
def headS (base : Nat) (l : Kp) (st : St) (body : St → Res) : Res :=
  match normK base l st with
  | some st0 => body st0
  | none => none
def normS (base : Nat) (l : Kp) (e : Ex) (st : St) : Res :=
  match normK base l st with
  | some st0 => some (e, st0)
  | none => none
def plainS (r : Option St) : Res := r.map fun st' => (.normal, st')
def drawS (ms : List Nat) (r : Option (St × List Fp)) : Res :=
  match r with
  | some (st', fps) => cond (fpsOk ms fps) (some (.normal, st')) none
  | none => none

def opsOf (c : Code) : List Oper := (co c).toList
def isReg (id : Nat) (d : Bool) : Code → Bool
  | .region i _ e => Nat.beq i id && (d == e)
  | _ => false
theorem reg_of {id : Nat} {d : Bool} {c : Code} (h : isReg id d c = true) : c = .region id ⟨(co c).toList⟩ d := by
  cases c with
  | region i os e =>
    simp only [isReg, Bool.and_eq_true, beq_iff_eq] at h
    have := Nat.eq_of_beq_eq_true h.1
    subst this
    rw [h.2]; rfl
  | _ => simp [isReg] at h
theorem seq_step {E : Ev} {cx : Cx} {x a b : Code} {st : St} (h : x = .seq a b) : codeB P E cx x st = thenS (codeB P E cx a st) (codeB P E cx b) := by subst h; rfl
theorem cond_step {E : Ev} {cx : Cx} {x a b : Code} {c : Operand} {st : St} (h : x = .cond c a b) : codeB P E cx x st = condS (codeB P E cx a) (codeB P E cx b) (opd st.σ c) st := by subst h; rfl
theorem block_step {E : Ev} {cx : Cx} {x a : Code} {id : Nat} {st : St} (h : x = .block id a) : codeB P E cx x st = blockS id (codeB P E cx a st) st := by subst h; rfl
theorem loop_step {E : Ev} {cx : Cx} {x a : Code} {st : St} (h : x = .loop a) (hk : E.kp cx.fn (4 * rid a + 3) = none) : codeB P E cx x st = loopS (fun st' => E.code cx x st') cx.base (codeB P E cx a st) st := by
  subst h; simp only [codeB, hk]; rfl
theorem loopK_step {E : Ev} {cx : Cx} {x a : Code} {l : Kp} {st : St} (h : x = .loop a) (hk : E.kp cx.fn (4 * rid a + 3) = some l) :
    codeB P E cx x st = headS cx.base l st fun st0 => roundS (fun st' => E.code cx x st') (codeB P E cx a st0) := by
  subst h; simp only [codeB, hk]; rfl
theorem region_step {E : Ev} {f : FuncId} {nt b : Nat} {ro : Option Nat} {x : Code} {id : Nat} {l : List Oper} {st : St} (h : x = .region id ⟨l⟩ false) (hd : dstOk nt l = true) :
    codeB P E ⟨f, nt, b, ro⟩ x st = plainS (runOps P E b l l st) := by subst h; simp only [codeB, region, hd, cond_true]; rfl
theorem draw_step {E : Ev} {f : FuncId} {nt b : Nat} {ro : Option Nat} {x : Code} {id : Nat} {l : List Oper} {ms : List Nat} {st : St} (h : x = .region id ⟨l⟩ true) (hd : dstOk nt l = true) (hs : staticOk l = true) (hm : masks l [] = ms) :
    codeB P E ⟨f, nt, b, ro⟩ x st = drawS ms (runOpsF P E b l l st) := by
  subst h; subst hm; simp only [codeB, region, hd, hs, cond_true, drawS]
  cases runOpsF P E b l l st with
  | none => rfl
  | some x => cases hf : fpsOk (masks l []) x.2 <;> simp [hf]
theorem exit_step {E : Ev} {cx : Cx} {x : Code} {n : Nat} {l : Kp} {st : St} (h : x = .exit n) (hk : E.kp cx.fn (4 * n + 2) = some l) : codeB P E cx x st = normS cx.base l (.exit n) st := by
  subst h; simp only [codeB, normX, hk, normS]
  cases GE.normK cx.base l st <;> rfl
theorem goto_step {E : Ev} {cx : Cx} {x : Code} {n : Nat} {st : St} (h : x = .goto n) : codeB P E cx x st = some (.goto n, st) := by subst h; rfl
theorem ret_step {E : Ev} {cx : Cx} {x : Code} {l : Kp} {st : St} (h : x = .ret) (hk : E.kp cx.fn 1 = some l) : codeB P E cx x st = normS cx.base l .ret st := by
  subst h; simp only [codeB, normX, hk, normS]
  cases GE.normK cx.base l st <;> rfl
theorem skip_step {E : Ev} {cx : Cx} {x : Code} {st : St} (h : x = .skip) : codeB P E cx x st = some (.normal, st) := by subst h; rfl
theorem label_step {E : Ev} {cx : Cx} {x : Code} {n : Nat} {l : Kp} {st : St} (h : x = .label n) (hk : E.kp cx.fn (4 * n + 4) = some l) : codeB P E cx x st = normS cx.base l .normal st := by
  subst h; simp only [codeB, normX, hk, normS]
  cases GE.normK cx.base l st <;> rfl

/-! ### the shapes of states, by 'rfl' -/
theorem thenS_normal {st : St} {f : St → Res} : thenS (some (.normal, st)) f = f st := rfl
theorem thenS_ret {st : St} {f : St → Res} : thenS (some (.ret, st)) f = some (.ret, st) := rfl
theorem thenS_exit {st : St} {i : Nat} {f : St → Res} : thenS (some (.exit i, st)) f = some (.exit i, st) := rfl
theorem thenS_goto {st : St} {i : Nat} {f : St → Res} : thenS (some (.goto i, st)) f = some (.goto i, st) := rfl
theorem afterN_normal {n : Nat} {st : St} : afterN n (some (.normal, st)) = some (.normal, ⟨dropTo n st.σ, st.h, st.wr⟩) := rfl
theorem afterN_ret {n : Nat} {st : St} : afterN n (some (.ret, st)) = some (.ret, st) := rfl
theorem afterN_exit {n i : Nat} {st : St} : afterN n (some (.exit i, st)) = some (.exit i, st) := rfl
theorem afterN_goto {n i : Nat} {st : St} : afterN n (some (.goto i, st)) = some (.goto i, st) := rfl
theorem condS_true {a b : St → Res} {st : St} : condS a b (some (.bool true)) st = afterN st.σ.length (a st) := rfl
theorem condS_false {a b : St → Res} {st : St} : condS a b (some (.bool false)) st = afterN st.σ.length (b st) := rfl
theorem blockS_normal {id : Nat} {st st' : St} : blockS id (some (.normal, st')) st = some (.normal, ⟨dropTo st.σ.length st'.σ, st'.h, st'.wr⟩) := rfl
theorem blockS_ret {id : Nat} {st st' : St} : blockS id (some (.ret, st')) st = some (.ret, st') := rfl
theorem blockS_goto {id i : Nat} {st st' : St} : blockS id (some (.goto i, st')) st = some (.goto i, st') := rfl
theorem blockS_exit {id i : Nat} {st st' : St} : blockS id (some (.exit i, st')) st = if i = id then some (.normal, ⟨dropTo st.σ.length st'.σ, st'.h, st'.wr⟩) else some (.exit i, st') := rfl
theorem loopS_exit {go : St → Res} {b i : Nat} {st st' : St} : loopS go b (some (.exit i, st')) st = some (.exit i, st') := rfl
theorem loopS_ret {go : St → Res} {b : Nat} {st st' : St} : loopS go b (some (.ret, st')) st = some (.ret, st') := rfl
theorem loopS_same {go : St → Res} {b : Nat} {st : St} {σ : Tm} {h : List Blk} {wr : List Nat} (hl : h.length = st.h.length) : loopS go b (some (.normal, ⟨σ, h, wr⟩)) st = go ⟨dropTo st.σ.length σ, h, wr⟩ := by
  simp only [loopS, hl, if_true]
theorem roundS_normal {go : St → Res} {st : St} : roundS go (some (.normal, st)) = go st := rfl
theorem roundS_exit {go : St → Res} {i : Nat} {st : St} : roundS go (some (.exit i, st)) = some (.exit i, st) := rfl
theorem roundS_goto {go : St → Res} {i : Nat} {st : St} : roundS go (some (.goto i, st)) = some (.goto i, st) := rfl
theorem roundS_ret {go : St → Res} {st : St} : roundS go (some (.ret, st)) = some (.ret, st) := rfl
theorem headS_some {base : Nat} {l : Kp} {st st0 : St} {body : St → Res} (h : normK base l st = some st0) : headS base l st body = body st0 := by simp only [headS, h]
theorem plainS_some {st : St} : plainS (some st) = some (.normal, st) := rfl
theorem drawS_some {ms : List Nat} {st : St} {fps : List Fp} (h : fpsOk ms fps = true) : drawS ms (some (st, fps)) = some (.normal, st) := by simp only [drawS, h, cond_true]
/-- a function's run, from its body's -/
def endS (P : Program) (rs : List ResultVar) (base : Nat) (r : Res) : Option RR :=
  match r with
  | some (.normal, st) | some (.ret, st) => match resultsA P rs st with
    | some vs => finish base (tupV vs) st.h st.wr
    | none => none
  | _ => none
theorem endS_ret {rs : List ResultVar} {base : Nat} {st : St} : endS P rs base (some (.ret, st)) = (match resultsA P rs st with
    | some vs => finish base (tupV vs) st.h st.wr
    | none => none) := rfl
theorem run_step {E : Ev} {f : FuncId} {fn : Func} {c : Code} {args : List Value} {h : List Blk} {nt : Nat} {rs : List ResultVar} (h1 : P.funcs[f]? = some fn) (h2 : fn.body = some c) (h3 : fn.ntmps = nt) (h4 : fn.name ≠ "runtime.NumGoroutine") (h5 : fn.results = ⟨rs⟩) (h6 : args.length ≤ nt) :
    runB P E f args h = endS P rs h.length (codeB P E ⟨f, nt, h.length, none⟩ c ⟨enumT 0 args, h, []⟩) := by
  subst h3
  simp only [runB, h1, h2]
  rw [if_pos ⟨h6, h4⟩, h5]
  rfl
end Go.GE
