/-
  GE, part 0: a deterministic evaluator of the model's code over small abstract heaps; definitions alone. (What it says of the machine is proved in the later parts.)
-/
import Derived.Calls
set_option autoImplicit false
set_option linter.unusedVariables false
namespace Go.GE

/-! ### temporaries -/
abbrev Tm := List (Nat × Value)
def lk : Tm → Nat → Option Value
  | [], _ => none
  | (a, v) :: r, t => cond (Nat.beq a t) (some v) (lk r t)
def has : Tm → Nat → Bool
  | [], _ => false
  | (a, _) :: r, t => cond (Nat.beq a t) true (has r t)
def rep : Tm → Nat → Value → Tm
  | [], _, _ => []
  | (a, u) :: r, t, v => cond (Nat.beq a t) ((a, v) :: r) ((a, u) :: rep r t v)
def put (σ : Tm) (t : Nat) (v : Value) : Tm := cond (has σ t) (rep σ t v) ((t, v) :: σ)
def putO (σ : Tm) : Option Nat → Value → Tm
  | none, _ => σ
  | some t, v => put σ t v
def mem (l : List Nat) (n : Nat) : Bool :=
  match l with
  | [] => false
  | a :: r => cond (Nat.beq a n) true (mem r n)
def ins (l : List Nat) (n : Nat) : List Nat := cond (mem l n) l (l ++ [n])
def idx : List Nat → Nat → Option Nat
  | [], _ => none
  | a :: r, n => cond (Nat.beq a n) (some 0) ((idx r n).map (· + 1))
def ndk : Tm → Bool
  | [] => true
  | (t, _) :: r => cond (has r t) false (ndk r)
def disj (a b : List Nat) : Bool := a.all fun x => !mem b x
def optAll {α β : Type} (f : α → Option β) : List α → Option (List β)
  | [] => some []
  | a :: r => match f a with
    | none => none
    | some b => match optAll f r with
      | none => none
      | some l => some (b :: l)

/-! ### abstract heaps -/
structure ALoop where
  state : LoopState
  pending : Option Code
  fn : FuncId
  σ : Tm
  size : Nat
  params : Array Tmp
  assign : Code
  body : Code
inductive Blk where
  | cells (cs : List Value) (esz : Nat) (flat own : Bool)
  | map (es : List (Value × Value))
  | siter (s : ByteArray) (pos : Nat)
  | loop (l : ALoop)
  | dead

def scal : Value → Bool
  | .bool _ | .int _ _ | .string _ => true
  | _ => false
def mkCells (cs : List Value) (esz : Nat) : Blk := .cells cs esz (cs.all scal) true

/-! ### renaming of blocks -/
def renFn (f : Nat → Option Nat) : Fn → Option Fn
  | .func g => some (.func g)
  | .yield l => (f l).map .yield
  | _ => none
def renV (f : Nat → Option Nat) : Nat → Value → Option Value
  | 0, _ => none
  | d + 1, v => match v with
    | .bool b => some (.bool b)
    | .int k n => some (.int k n)
    | .string s => some (.string s)
    | .nilFunc => some .nilFunc
    | .nilIface => some .nilIface
    | .pointer none => some (.pointer none)
    | .map none => some (.map none)
    | .slice none 0 0 => some (.slice none 0 0)
    | .pointer (some ⟨b, o, none⟩) => (f b).map fun b' => .pointer (some ⟨b', o, none⟩)
    | .slice (some ⟨b, o, none⟩) l c => (f b).map fun b' => .slice (some ⟨b', o, none⟩) l c
    | .map (some b) => (f b).map fun b' => .map (some b')
    | .func fn xs ys => match renFn f fn, optAll (renV f d) xs.toList, optAll (renV f d) ys.toList with
      | some fn', some xs', some ys' => some (.func fn' xs'.toArray ys'.toArray)
      | _, _, _ => none
    | .iface t x => (renV f d x).map (.iface t)
    | .agg cs => (optAll (renV f d) cs.toList).map fun l => .agg l.toArray
    | .tuple cs => (optAll (renV f d) cs.toList).map fun l => .tuple l.toArray
    | _ => none
def dep : Nat := 6
def renT (f : Nat → Option Nat) : Tm → Option Tm
  | [] => some []
  | (t, v) :: r => match renV f dep v, renT f r with
    | some v', some r' => some ((t, v') :: r')
    | _, _ => none
def renP (f : Nat → Option Nat) : List (Value × Value) → Option (List (Value × Value))
  | [] => some []
  | (k, v) :: r => match renV f dep v, renP f r with
    | some v', some r' => some ((k, v') :: r')
    | _, _ => none
def renB (f : Nat → Option Nat) : Blk → Option Blk
  | .cells cs e true own => some (.cells cs e true own)
  | .cells cs e false own => (optAll (renV f dep) cs).map fun l => .cells l e false own
  | .map es => (renP f es).map .map
  | .siter s p => some (.siter s p)
  | .loop l => (renT f l.σ).map fun s => .loop { l with σ := s }
  | .dead => some .dead

/-! ### what is reached (untrusted: a hint) -/
def ptrFn : Fn → List Nat
  | .yield l => [l]
  | _ => []
def ptrV : Nat → Value → List Nat
  | 0, _ => []
  | d + 1, v => match v with
    | .pointer (some a) => [a.block]
    | .slice (some a) _ _ => [a.block]
    | .map (some b) => [b]
    | .func fn xs ys => ptrFn fn ++ (xs.toList.flatMap (ptrV d) ++ ys.toList.flatMap (ptrV d))
    | .iface _ x => ptrV d x
    | .agg cs => cs.toList.flatMap (ptrV d)
    | .tuple cs => cs.toList.flatMap (ptrV d)
    | _ => []
def ptrT (σ : Tm) : List Nat := σ.flatMap fun p => ptrV dep p.2
def ptrB : Blk → List Nat
  | .cells _ _ true _ => []
  | .cells cs _ false _ => cs.flatMap (ptrV dep)
  | .map es => es.flatMap fun p => ptrV dep p.2
  | .loop l => ptrT l.σ
  | _ => []
/-- ids from 'base' on that are reached, in the order in which they are met -/
def reach (h : List Blk) (base : Nat) : Nat → List Nat → List Nat → List Nat
  | 0, _, acc => acc
  | _ + 1, [], acc => acc
  | n + 1, b :: r, acc =>
    cond (Nat.blt b base || mem acc b) (reach h base n r acc)
      (reach h base n ((match h[b]? with | some blk => ptrB blk | none => []) ++ r) (acc ++ [b]))
def reachN : Nat := 100000

/-! ### code: what is read (untrusted: a hint) -/
def opdT : Operand → List Nat
  | .tmp t => [t]
  | _ => []
def opsUse (ops : List Oper) : List Nat := ops.flatMap fun o => o.op.operands.toList.flatMap opdT
def uses : Code → List Nat
  | .region _ ops _ => opsUse ops.toList
  | .seq a b => uses a ++ uses b
  | .cond c a b => opdT c ++ (uses a ++ uses b)
  | .block _ b | .loop b | .scope b => uses b
  | .rangeFunc f _ a b => opdT f ++ (uses a ++ uses b)
  | _ => []
/-- temporaries that are read before they are written, and those that are written on every way -/
def ueOps : List Oper → List Nat → List Nat → List Nat × List Nat
  | [], u, d => (u, d)
  | o :: r, u, d =>
    ueOps r ((o.op.operands.toList.flatMap opdT).foldl (fun u t => cond (mem d t) u (ins u t)) u) (match o.dst with | some t => ins d t | none => d)
def ue : Code → List Nat × List Nat
  | .region _ ops _ => ueOps ops.toList [] []
  | .seq a b => let x := ue a; let y := ue b; (y.1.foldl (fun u t => cond (mem x.2 t) u (ins u t)) x.1, y.2.foldl ins x.2)
  | .cond c a b => let x := ue a; let y := ue b; (y.1.foldl ins (x.1.foldl ins (opdT c)), x.2.filter (mem y.2))
  | .block _ b | .loop b | .scope b => ((ue b).1, [])
  | .rangeFunc f ps a b => (((ue b).1.foldl ins (ue a).1).foldl ins (opdT f), [])
  | _ => ([], [])
def keepT (l : List Nat) (σ : Tm) : Tm := σ.filter fun p => mem l p.1
/-- just these, in this order -/
def keepO : List Nat → Tm → Tm
  | [], _ => []
  | t :: r, σ => match lk σ t with
    | some v => put (keepO r σ) t v
    | none => keepO r σ
/-- the first region of a code: by it loops are told -/
def rid : Code → Nat
  | .region id _ _ => id
  | .seq a b => match rid a with
    | 0 => rid b
    | n + 1 => n + 1
  | .block _ a => rid a
  | .loop a => rid a
  | .scope a => rid a
  | _ => 0

/-! ### operands, memory -/
def constOk : Value → Bool
  | .bool _ | .int _ _ | .string _ | .nilFunc | .nilIface | .pointer none | .map none | .slice none 0 0 => true
  | .tuple cs => cs.isEmpty
  | .agg cs => cs.toList.all fun
    | .bool _ | .int _ _ | .string _ | .nilFunc | .nilIface | .pointer none | .map none | .slice none 0 0 => true
    | _ => false
  | _ => false
def opd (σ : Tm) : Operand → Option Value
  | .tmp t => lk σ t
  | .const v => cond (constOk v) (some v) none
  | .global _ => none
  | .func f => some (.func (.func f) #[] #[])
def opds (σ : Tm) (l : List Operand) : Option (List Value) := optAll (opd σ) l

structure OR where
  v : Value
  h : List Blk
  rd : List Nat
  wr : List Nat
def pureR (h : List Blk) (v : Value) : Option OR := some ⟨v, h, [], []⟩
def allocR (h : List Blk) (blk : Blk) (mk : Nat → Value) : Option OR := some ⟨mk h.length, h ++ [blk], [], []⟩
def ptrTo (b : Nat) : Value := .pointer (some ⟨b, 0, none⟩)

def cellsAt (h : List Blk) (b : Nat) : Option (List Value) :=
  match h[b]? with
  | some (.cells cs _ _ _) => some cs
  | _ => none
def rdN (cs : List Value) : Nat → Nat → Option (List Value)
  | _, 0 => some []
  | o, n + 1 => match cs[o]? with
    | none => none
    | some v => match rdN cs (o + 1) n with
      | none => none
      | some l => some (v :: l)
def cellV : Value → Bool
  | .agg _ | .tuple _ => false
  | _ => true
def wrN (cs : List Value) : Nat → List Value → Option (List Value)
  | _, [] => some cs
  | o, v :: r => cond (Nat.blt o cs.length && cellV v) (wrN (cs.set o v) (o + 1) r) none
def loadA (P : Program) (h : List Blk) (t : TypeId) (b o : Nat) : Option Value :=
  match P.underlying t, P.info? t, cellsAt h b with
  | some d, some i, some cs => match d with
    | .struct _ | .array _ _ => (rdN cs o i.size).map fun l => .agg l.toArray
    | _ => cs[o]?
  | _, _, _ => none
def storeB (h : List Blk) (b o : Nat) (vs : List Value) : Option (List Blk) :=
  match h[b]? with
  | some (.cells cs e flat true) => match wrN cs o vs with
    | some cs' => cond (!flat || vs.all scal) (some (h.set b (.cells cs' e flat true))) none
    | none => none
  | _ => none

/-! ### integers, strings, comparisons -/
def pureOf : Sem Value → Option Value
  | .pure v => some v
  | _ => none
def partA (P : Program) (t : TypeId) (cs : Array Value) (off : Nat) : Option Value :=
  match P.underlying t, P.info? t with
  | some d, some i => match d with
    | .struct _ | .array _ _ => some (.agg (cs.extract off (off + i.size)))
    | _ => cs[off]?
  | _, _ => none
def eqFs (P : Program) (eq : TypeId → Value → Value → Option Bool) : List Field → Array Value → Array Value → Option Bool
  | [], _, _ => some true
  | f :: r, xs, ys =>
    if f.name ≠ "_" then
      match partA P f.type xs f.offset, partA P f.type ys f.offset with
      | some a, some b => match eq f.type a b with
        | some true => eqFs P eq r xs ys
        | some false => some false
        | none => none
      | _, _ => none
    else eqFs P eq r xs ys
def eqA (P : Program) : Nat → TypeId → Value → Value → Option Bool
  | 0, _, _, _ => none
  | d + 1, t, x, y => match P.underlying t, x, y with
    | some .bool, .bool a, .bool b => some (a == b)
    | some (.int _), .int k a, .int k' b => if k = k' then some (a == b) else none
    | some .string, .string a, .string b => some (a == b)
    | some (.pointer _), .pointer none, .pointer b => some b.isNone
    | some (.pointer _), .pointer (some _), .pointer none => some false
    | some (.interface _), .nilIface, .iface _ _ => some false
    | some (.interface _), .iface _ _, .nilIface => some false
    | some (.interface _), .nilIface, .nilIface => some true
    | some (.slice _), .slice none _ _, .slice b _ c => cond (b.isSome && Nat.beq c 0) none (some b.isNone)
    | some (.slice _), .slice (some _) _ c, .slice none _ _ => cond (Nat.beq c 0) none (some false)
    | some (.map _ _), .map none, .map b => some b.isNone
    | some (.map _ _), .map (some _), .map none => some false
    | some (.func _ _ _), .nilFunc, .nilFunc => some true
    | some (.func _ _ _), .nilFunc, .func _ _ _ => some false
    | some (.func _ _ _), .func _ _ _, .nilFunc => some false
    | some (.struct fs), .agg xs, .agg ys => cond (P.stoodInHeld t) none (eqFs P (eqA P d) fs.toList xs ys)
    | _, _, _ => none
/-- is an operand a constant? -/
def isC : Operand → Bool
  | .const _ => true
  | _ => false
def binA (P : Program) (op : BinOp) (t : TypeId) (cs : Bool) (x y : Value) : Option Value :=
  match x, y with
  | .int k a, .int k' b => match op with
    | .shl | .shr => pureOf (Op.shift op k a k' b)
    | _ => if k = k' then
        match op with
        | .add | .sub | .mul => pureOf (Op.intArith op k a b)
        | .quo | .rem => if b = 0 then none else pureOf (Op.intDiv op k a b)
        | .and | .or | .xor | .andNot => pureOf (Op.intBits op k a b)
        | _ => pureOf (Op.intCmp op a b)
      else none
  | .string a, .string b => pureOf (Op.stringOp op a b)
  | .bool a, .bool b => match op, P.underlying t with
    | .eql, some .bool => some (.bool (a == b))
    | .neq, some .bool => some (.bool !(a == b))
    | _, _ => none
  | .agg _, .agg _ => cond (P.eqGuardType P.depth t) none (match op with
    | .eql => (eqA P 20 t x y).map .bool
    | .neq => (eqA P 20 t x y).map fun b => .bool !b
    | _ => none)
  | .nilIface, .nilIface => cond cs (match op with
    | .eql => (eqA P 20 t x y).map .bool
    | .neq => (eqA P 20 t x y).map fun b => .bool !b
    | _ => none) none
  | .float _ _, _ | _, .float _ _ | .complex _ _ _, _ | _, .complex _ _ _ => none
  | x, y => match op with
    | .eql => (eqA P 20 t x y).map .bool
    | .neq => (eqA P 20 t x y).map fun b => .bool !b
    | _ => none

/-! ### slices -/
def intOf : Value → Option Int
  | .int _ n => some n
  | _ => none
def bnd (x : Option Value) (y dflt : Nat) : Option Nat :=
  match x with
  | none => some dflt
  | some v => match intOf v with
    | some i => if 0 ≤ i ∧ i ≤ y then some i.toNat else none
    | none => none
def optOpd (σ : Tm) : Option Operand → Option (Option Value)
  | none => some none
  | some y => (opd σ y).map some
def bndHi (hi mx : Option Value) (m l : Nat) : Option Nat :=
  match hi, mx with
  | none, some _ => none
  | hi, _ => bnd hi m l
/-- the bytes of cells -/
def bytesOf : List Value → Option (List UInt8)
  | [] => some []
  | .int .u8 n :: r => (bytesOf r).map (UInt8.ofNat n.toNat :: ·)
  | _ => none
def cellsOfBytes (s : ByteArray) : List Value := s.data.toList.map fun b => .int .u8 b.toNat
/-- the cells that an append takes: the cells, are they flat, the blocks that are read -/
def srcCells (h : List Blk) (size : Nat) : Value → Option (Nat × List Value × Bool × List Nat)
  | .slice none 0 0 => some (0, [], true, [])
  | .slice (some ⟨b, o, none⟩) n _ => match n with
    | 0 => some (0, [], true, [])
    | _ => match h[b]? with
      | some (.cells cs _ flat _) => (rdN cs o (n * size)).map fun l => (n, l, flat || l.all scal, [b])
      | _ => none
  | .string s => if size = 1 then some (s.size, cellsOfBytes s, true, []) else none
  | _ => none
def appendA (P : Program) (h : List Blk) (t : TypeId) (s x : Value) : Option OR :=
  match P.underlying t with
  | some (.slice e) => match P.info? e with
    | some i => match srcCells h i.size x with
      | some (n, new, fl, rd) =>
        match s with
        | .slice none 0 0 => match n with
          | 0 => some ⟨s, h, [], []⟩
          | _ => if n * i.bytes ≤ 2 ^ 46 ∧ n ≤ 2 ^ 46 ∧ i.size ≠ 0 ∧ i.zero.map (·.cells.size) = some i.size then some ⟨.slice (some ⟨h.length, 0, none⟩) n n, h ++ [.cells new i.size fl true], rd, []⟩ else none
        | .slice (some ⟨b, o, none⟩) l c => match n with
          | 0 => some ⟨s, h, [], []⟩
          | _ => match h[b]? with
            | some (.cells cs es flat true) => match rdN cs o (l * i.size) with
              | some old => if (l + n) * i.bytes ≤ 2 ^ 46 ∧ l + n ≤ 2 ^ 46 ∧ i.size ≠ 0 ∧ es = i.size ∧ i.zero.map (·.cells.size) = some i.size ∧ new.all cellV = true then
                  some ⟨.slice (some ⟨h.length, 0, none⟩) (l + n) (l + n), h.set b .dead ++ [.cells (old ++ new) i.size (flat && fl) true], b :: rd, [b]⟩
                else none
              | none => none
            | _ => none
        | _ => none
      | none => none
    | none => none
  | _ => none

/-! ### maps -/
def sameK : Value → Value → Option Bool
  | .int k a, .int k' b => if k = k' then some (a == b) else none
  | .string a, .string b => some (a == b)
  | .bool a, .bool b => some (a == b)
  | _, _ => none
def keyKind : TypeDesc → Value → Bool
  | .int _, .int _ _ => true
  | .string, .string _ => true
  | .bool, .bool _ => true
  | _, _ => false
def findA (k : Value) : List (Value × Value) → Nat → Option (Option (Nat × Value))
  | [], _ => some none
  | (k', v) :: r, i => match sameK k k' with
    | some true => some (some (i, v))
    | some false => findA k r (i + 1)
    | none => none
def mapAt (h : List Blk) (b : Nat) : Option (List (Value × Value)) :=
  match h[b]? with
  | some (.map es) => some es
  | _ => none
def updA (P : Program) (h : List Blk) (t : TypeId) (m k v : Value) : Option OR :=
  match P.underlying t, m with
  | some (.map kt _), .map (some b) => match P.underlying kt, mapAt h b with
    | some kd, some es => cond (keyKind kd k) (match findA k es 0 with
      | some (some (i, _)) => some ⟨undef, h.set b (.map (es.set i (k, v))), [b], [b]⟩
      | some none => some ⟨undef, h.set b (.map (es ++ [(k, v)])), [b], [b]⟩
      | none => none) none
    | _, _ => none
  | _, _ => none

/-! ### calls -/
structure RR where
  v : Value
  news : List Blk
  ws : List (Nat × Blk)
structure Cx where
  fn : FuncId
  nt : Nat
  base : Nat
  ro : Option Nat
inductive Ex where
  | normal
  | exit (id : Nat)
  | goto (l : Nat)
  | ret
  deriving DecidableEq
structure St where
  σ : Tm
  h : List Blk
  wr : List Nat
/-- a hint: a nil slice (a temporary's or an argument's t; within a value or behind a pointer its cell k) is told as an empty one, with a block of its own -/
structure NilH where
  t : Nat
  k : Nat
  es : Nat
  flat : Bool
/-- a hint: what is kept, and which slices are told as empty ones -/
structure Kp where
  keep : List Nat
  nils : List NilH
structure Ev where
  code : Cx → Code → St → Option (Ex × St)
  scp : Cx → Code → Code → St → Option (Ex × St)
  run : FuncId → List Value → List Blk → Option RR
  rnd : Nat → List Value → List Blk → Option RR
  kp : FuncId → Nat → Option Kp

/-- carry what a call has left over into the caller's heap -/
def mergeB (h : List Blk) (ρ : List Nat) (rr : RR) : Option OR :=
  let k := ρ.length
  let n := h.length
  let back : Nat → Option Nat := fun b => cond (Nat.blt b k) (ρ[b]?) (some (n + (b - k)))
  match renV back dep rr.v, optAll (renB back) rr.news, optAll (fun p : Nat × Blk => match ρ[p.1]?, renB back p.2 with | some b, some blk => some (b, blk) | _, _ => none) rr.ws with
  | some v, some news, some ws => some ⟨v, ws.foldl (fun h p => h.set p.1 p.2) (h ++ news), ρ, ws.map (·.1)⟩
  | _, _, _ => none
def emptyB (x : NilH) : Blk := .cells [] x.es x.flat true
def fixV (n k : Nat) : Value → Option Value
  | .slice none 0 0 => some (.slice (some ⟨n, 0, none⟩) 0 0)
  | .agg cs => match cs.toList[k]? with
    | some (.slice none 0 0) => some (.agg (cs.toList.set k (.slice (some ⟨n, 0, none⟩) 0 0)).toArray)
    | _ => none
  | _ => none
def fix1 (base : Nat) (x : NilH) (st : St) : St :=
  match lk st.σ x.t with
  | some (.pointer (some ⟨b, o, none⟩)) => cond (Nat.blt b base) st (match st.h[b]? with
    | some (.cells cs e false own) => match cs[o + x.k]? with
      | some (.slice none 0 0) => ⟨st.σ, st.h.set b (.cells (cs.set (o + x.k) (.slice (some ⟨st.h.length, 0, none⟩) 0 0)) e false own) ++ [emptyB x], st.wr⟩
      | _ => st
    | _ => st)
  | some v => match fixV st.h.length x.k v with
    | some v' => ⟨rep st.σ x.t v', st.h ++ [emptyB x], st.wr⟩
    | none => st
  | none => st
def fixS (base : Nat) : List NilH → St → St
  | [], st => st
  | x :: r, st => fixS base r (fix1 base x st)
def fixA : List NilH → List Value → List Blk → List Value × List Blk
  | [], a, h => (a, h)
  | x :: r, a, h => match (a[x.t]?).bind (fixV h.length x.k) with
    | some v' => fixA r (a.set x.t v') (h ++ [emptyB x])
    | none => fixA r a h
def callH0 (E : Ev) (f : FuncId) (args : List Value) (h : List Blk) : Option OR :=
  let ρ := reach h 0 reachN (args.flatMap (ptrV dep)) []
  let g : Nat → Option Nat := idx ρ
  match optAll (renV g dep) args, optAll (fun b => match h[b]? with | some blk => renB g blk | none => none) ρ with
  | some args', some hm => match E.run f args' hm with
    | some rr => mergeB h ρ rr
    | none => none
  | _, _ => none
/-- a call: nil slices among the arguments are told as empty ones, where a hint says so -/
def callH (E : Ev) (f : FuncId) (args : List Value) (h : List Blk) : Option OR :=
  match E.kp f 0 with
  | none => callH0 E f args h
  | some K => (callH0 E f (fixA K.nils args h).1 (fixA K.nils args h).2).map fun r => { r with rd := r.rd.filter fun b => Nat.blt b h.length }
def yieldH (E : Ev) (l : Nat) (args : List Value) (h : List Blk) : Option OR :=
  let ρ := reach h 0 reachN (l :: args.flatMap (ptrV dep)) []
  let g : Nat → Option Nat := idx ρ
  match g l, optAll (renV g dep) args, optAll (fun b => match h[b]? with | some blk => renB g blk | none => none) ρ with
  | some l', some args', some hm => match E.rnd l' args' hm with
    | some rr => mergeB h ρ rr
    | none => none
  | _, _, _ => none
/-- what a call leaves behind: its value, the new blocks that are still reached, the blocks of the arguments that were written -/
def finish (base : Nat) (v : Value) (h : List Blk) (wr : List Nat) : Option RR :=
  let δ := reach h base reachN (ptrV dep v ++ wr.flatMap fun b => match h[b]? with | some blk => ptrB blk | none => []) []
  let f : Nat → Option Nat := fun b => cond (Nat.blt b base) (some b) ((idx δ b).map (base + ·))
  match renV f dep v, optAll (fun b => match h[b]? with | some blk => renB f blk | none => none) δ,
      optAll (fun b => match h[b]? with | some blk => (renB f blk).map fun x => (b, x) | none => none) wr with
  | some v', some news, some ws => some ⟨v', news, ws⟩
  | _, _, _ => none
/-- at the head of a loop: what is no more reached is left out -/
def sweep (base : Nat) (st : St) : Option St :=
  let δ := reach st.h base reachN (ptrT st.σ ++ st.wr.flatMap fun b => match st.h[b]? with | some blk => ptrB blk | none => []) []
  let f : Nat → Option Nat := fun b => cond (Nat.blt b base) (some b) ((idx δ b).map (base + ·))
  match renT f st.σ, optAll (fun b => match st.h[b]? with | some blk => renB f blk | none => none) δ,
      optAll (fun b => match st.h[b]? with | some blk => (renB f blk).map fun x => (b, x) | none => none) st.wr with
  | some σ, some news, some ws => some ⟨σ, ws.foldl (fun h p => h.set p.1 p.2) (st.h.take base) ++ news, st.wr⟩
  | _, _, _ => none

/-! ### operations -/
def fieldOf (P : Program) (t : TypeId) (i : Nat) : Option Field :=
  match P.underlying t with
  | some (.struct fs) => fs[i]?
  | _ => none
def aggSize (P : Program) (t : TypeId) : Option Nat := (P.info? t).map (·.size)
def zeroA (P : Program) (t : TypeId) : Option Value :=
  match (P.info? t).bind (·.zero) with
  | some v => cond (constOk v) (some v) none
  | none => none
def intRes : Sem Value → Option Value := pureOf
/-- the method of a value that lies in an interface: a value receiver, no path -/
def methodA (P : Program) (t : TypeId) (v : Value) (name : String) : Option (FuncId × Value) :=
  match P.info? t with
  | some i => match i.methods.find? (·.name == name) with
    | some m => cond m.path.isEmpty (match m.func with
      | some (f, false) => match P.underlying t with
        | some (.pointer _) => none
        | some _ => some (f, v)
        | none => none
      | some (f, true) => match P.underlying t with
        | some (.pointer _) => some (f, v)
        | _ => none
      | none => none) none
    | none => none
  | none => none
def minA : Value → List Value → Option Value
  | x, [] => some x
  | .int k x, .int _ y :: r => minA (.int k (if y < x then y else x)) r
  | .string x, .string y :: r => match pureOf (Op.stringOp .leq x y) with
    | some (.bool b) => minA (.string (if b then x else y)) r
    | _ => none
  | _, _ => none
def maxA : Value → List Value → Option Value
  | x, [] => some x
  | .int k x, .int _ y :: r => maxA (.int k (if y > x then y else x)) r
  | _, _ => none
def lenA (P : Program) (h : List Blk) (t : TypeId) (x : Value) : Option (Value × List Nat) :=
  match P.underlying t, x with
  | some .string, .string s => some (goInt s.size, [])
  | some (.array n _), _ => some (goInt n, [])
  | some (.pointer a), _ => match P.underlying a with
    | some (.array n _) => some (goInt n, [])
    | _ => none
  | some (.slice _), .slice _ n _ => some (goInt n, [])
  | some (.map _ _), .map none => some (goInt 0, [])
  | some (.map _ _), .map (some b) => (mapAt h b).map fun es => (goInt es.length, [b])
  | _, _ => none
def builtinA (P : Program) (h : List Blk) (b : Builtin) (ts : List TypeId) (args : List Value) : Option OR :=
  match b, ts, args with
  | .len, t :: _, x :: _ => (lenA P h t x).map fun p => ⟨p.1, h, p.2, []⟩
  | .append, t :: t2 :: _, s :: x :: _ => match P.underlying t2 with
    | some (.int _) => none
    | some _ => appendA P h t s x
    | none => none
  | .min, _, x :: r => (minA x r).bind (pureR h)
  | .max, _, x :: r => (maxA x r).bind (pureR h)
  | _, _, _ => none
/-- a call of a function value -/
def callV (P : Program) (E : Ev) (h : List Blk) (f : Value) (args : List Value) : Option OR :=
  match f with
  | .func (.func g) first captured => callH E g (first.toList ++ args ++ captured.toList) h
  | .func (.yield l) first _ => yieldH E l (first.toList ++ args) h
  | _ => none
def aop (P : Program) (E : Ev) (σ : Tm) (h : List Blk) (o : Oper) : Option OR :=
  match o.op with
  | .move x | .assign x => (opd σ x).bind (pureR h)
  | .pick c a b => match opd σ c with
    | some (.bool true) => (opd σ a).bind (pureR h)
    | some (.bool false) => (opd σ b).bind (pureR h)
    | _ => none
  | .alloc e => (zeroA P e).bind fun v => allocR h (mkCells v.cells.toList 1) ptrTo
  | .box _ x => (opd σ x).bind fun v => allocR h (mkCells v.cells.toList 1) ptrTo
  | .build t parts => match zeroA P t, P.underlying t, optAll (fun p : Nat × Operand => (opd σ p.2).map fun v => (p.1, v)) parts.toList with
    | some z, some d, some ps => match d with
      | .struct fs => match optAll (fun f : Field => (aggSize P f.type).map fun s => (f.offset, s)) fs.toList with
        | some places => (Instr.fill (places[·]?) z.cells ps).bind fun cs => pureR h (.agg cs)
        | none => none
      | .array _ e => match aggSize P e with
        | some s => (Instr.fill (fun i => some (i * s, s)) z.cells ps).bind fun cs => pureR h (.agg cs)
        | none => none
      | _ => none
    | _, _, _ => none
  | .buildSlice t len parts => match P.underlying t, optAll (fun p : Nat × Operand => (opd σ p.2).map fun v => (p.1, v)) parts.toList with
    | some (.slice e), some ps => match aggSize P e, zeroA P e with
      | some s, some z => if len * s ≤ 2 ^ 24 then
          match Instr.fill (fun i => some (i * s, s)) ((Array.range (len * s)).map ((if len * s = 0 then #[] else z.cells)[· % (if len * s = 0 then #[] else z.cells).size]!)) ps with
          | some cs => allocR h (mkCells cs.toList s) fun b => .slice (some ⟨b, 0, none⟩) len len
          | none => none
        else none
      | _, _ => none
    | _, _ => none
  | .load t a => match opd σ a with
    | some (.pointer (some ⟨b, o, none⟩)) => (loadA P h t b o).map fun v => ⟨v, h, [b], []⟩
    | _ => none
  | .store t a x => match opd σ a, opd σ x, aggSize P t with
    | some (.pointer (some ⟨b, o, none⟩)), some v, some s =>
      if v.cells.size = s then (storeB h b o v.cells.toList).map fun h' => ⟨undef, h', [b], [b]⟩ else none
    | _, _, _ => none
  | .nilCheck x => match opd σ x with
    | some (.pointer (some a)) => pureR h (.pointer (some a))
    | some (.func (.func f) xs ys) => pureR h (.func (.func f) xs ys)
    | some (.func (.yield l) xs ys) => pureR h (.func (.yield l) xs ys)
    | some (.iface t v) => pureR h (.iface t v)
    | _ => none
  | .binOp op t x y _ => match opd σ x, opd σ y with
    | some a, some b => (binA P op t (isC x || isC y) a b).bind (pureR h)
    | _, _ => none
  | .unOp op _ x => match opd σ x with
    | some (.int k n) => (pureOf (Op.unary op (.int k n))).bind (pureR h)
    | some (.bool b) => (pureOf (Op.unary op (.bool b))).bind (pureR h)
    | _ => none
  | .convert src dst x => match P.underlying src, P.underlying dst, opd σ x with
    | some _, some (.int k), some (.int _ n) => pureR h (.int k (k.wrap n))
    | some .string, some .string, some (.string s) => pureR h (.string s)
    | some .string, some (.slice e), some (.string s) => match P.underlying e with
      | some (.int .u8) => allocR h (.cells (cellsOfBytes s) 1 true true) fun b => .slice (some ⟨b, 0, none⟩) s.size s.size
      | _ => none
    | some (.slice e), some .string, some (.slice none 0 0) => match P.underlying e with
      | some (.int .u8) => pureR h (.string .empty)
      | _ => none
    | some (.slice e), some .string, some (.slice (some ⟨b, o, none⟩) n _) => match P.underlying e with
      | some (.int .u8) => match n with
        | 0 => pureR h (.string .empty)
        | _ => match cellsAt h b with
          | some cs => match rdN cs o n with
            | some l => (bytesOf l).map fun bs => ⟨.string ⟨bs.toArray⟩, h, [b], []⟩
            | none => none
          | none => none
      | _ => none
    | _, _, _ => none
  | .makeInterface t x => match P.underlying t, opd σ x with
    | some (.interface _), _ => none
    | some _, some v => pureR h (.iface t v)
    | _, _ => none
  | .makeFunc fn first captured => match fn, opds σ first.toList, opds σ captured.toList with
    | .func g, some xs, some ys => pureR h (.func (.func g) xs.toArray ys.toArray)
    | _, _, _ => none
  | .makeMap _ none => allocR h (.map []) fun b => .map (some b)
  | .makeSlice t l c => match P.underlying t, opd σ l, opd σ c with
    | some (.slice e), some (.int _ n), some (.int _ k) => match P.info? e, zeroA P e with
      | some i, some z => if 0 ≤ n ∧ n ≤ k ∧ k * i.bytes ≤ 2 ^ 46 ∧ k ≤ 2 ^ 46 ∧ i.size ≠ 0 ∧ z.cells.size = i.size then
          allocR h (.cells ((List.replicate k.toNat z.cells.toList).flatten) i.size (z.cells.toList.all scal) true) fun b => .slice (some ⟨b, 0, none⟩) n.toNat k.toNat
        else none
      | _, _ => none
    | _, _, _ => none
  | .slice t x lo hi mx => match opd σ x, optOpd σ lo, optOpd σ hi, optOpd σ mx with
    | some (.string s), some lo, some hi, some none => match P.underlying t with
      | some .string => match bnd hi s.size s.size with
        | some hh => match bnd lo hh 0 with
          | some ll => pureR h (.string (s.extract ll hh))
          | none => none
        | none => none
      | _ => none
    | some (.slice none 0 0), some lo, some hi, some mx => match P.underlying t with
      | some (.slice e) => match bnd mx 0 0, bndHi hi mx 0 0, bnd lo 0 0, aggSize P e with
        | some _, some _, some _, some _ => pureR h (.slice none 0 0)
        | _, _, _, _ => none
      | _ => none
    | some (.slice (some ⟨b, o, none⟩) l c), some lo, some hi, some mx => match P.underlying t with
      | some (.slice e) => match aggSize P e, bnd mx c c with
        | some s, some m => match bndHi hi mx m l with
          | some hh => match bnd lo hh 0, h[b]? with
            | some ll, some (.cells _ es _ _) => if es = s then some ⟨.slice (some ⟨b, o + ll * s, none⟩) (hh - ll) (m - ll), h, [b], []⟩ else none
            | _, _ => none
          | none => none
        | _, _ => none
      | _ => none
    | _, _, _, _ => none
  | .fieldAddr t x i => match opd σ x, fieldOf P t i with
    | some (.pointer (some ⟨b, o, none⟩)), some f => match aggSize P f.type with
      | some s => if s = 0 then none else pureR h (.pointer (some ⟨b, o + f.offset, none⟩))
      | none => none
    | _, _ => none
  | .field t x i => match opd σ x, fieldOf P t i with
    | some (.agg cs), some f => (partA P f.type cs f.offset).bind (pureR h)
    | _, _ => none
  | .indexAddr t x i => match P.underlying t, opd σ x, opd σ i with
    | some (.array n e), some (.pointer (some ⟨b, o, none⟩)), some (.int _ k) => match aggSize P e with
      | some s => if 0 ≤ k ∧ k < n then pureR h (.pointer (some ⟨b, o + k.toNat * s, none⟩)) else none
      | none => none
    | some (.slice e), some (.slice (some ⟨b, o, none⟩) n _), some (.int _ k) => match aggSize P e with
      | some s => if 0 ≤ k ∧ k < n then pureR h (.pointer (some ⟨b, o + k.toNat * s, none⟩)) else none
      | none => none
    | _, _, _ => none
  | .index t x i => match P.underlying t, opd σ x, opd σ i with
    | some (.array n e), some (.agg cs), some (.int _ k) => match aggSize P e with
      | some s => if 0 ≤ k ∧ k < n then (partA P e cs (k.toNat * s)).bind (pureR h) else none
      | none => none
    | some .string, some (.string s), some (.int _ k) => if 0 ≤ k then match s[k.toNat]? with
        | some c => pureR h (.int .u8 c.toNat)
        | none => none
      else none
    | _, _, _ => none
  | .lookup t x k ok => match P.underlying t, opd σ x, opd σ k with
    | some (.map kt et), some (.map m), some kv => match P.underlying kt, zeroA P et, (match m with | none => some ([], []) | some b => (mapAt h b).map fun es => (es, [b])) with
      | some kd, some z, some (es, rd) => cond (keyKind kd kv) (match findA kv es 0 with
        | some r => some ⟨if ok then .tuple #[(r.map (·.2)).getD z, .bool r.isSome] else (r.map (·.2)).getD z, h, rd, []⟩
        | none => none) none
      | _, _, _ => none
    | _, _, _ => none
  | .mapUpdate t m k v | .insert t m k v => match opd σ m, opd σ k, opd σ v with
    | some m, some k, some v => updA P h t m k v
    | _, _, _ => none
  | .range t x => match P.underlying t, opd σ x with
    | some .string, some (.string s) => allocR h (.siter s 0) ptrTo
    | _, _ => none
  | .next x true => match opd σ x with
    | some (.pointer (some ⟨b, 0, none⟩)) => match h[b]? with
      | some (.siter s p) => if p < s.size then
          some ⟨.tuple #[.bool true, goInt p, .int .i32 (Utf8.decode s p).1], h.set b (.siter s (p + (Utf8.decode s p).2)), [b], [b]⟩
        else some ⟨.tuple #[.bool false], h, [b], []⟩
      | _ => none
    | _ => none
  | .typeAssert x _ t ok => match P.underlying t, opd σ x, zeroA P t with
    | some (.interface _), _, _ => none
    | some _, some .nilIface, some z => if ok then pureR h (.tuple #[z, .bool false]) else none
    | some _, some (.iface u v), some z =>
      if u = t then pureR h (if ok then .tuple #[v, .bool true] else v) else if ok then pureR h (.tuple #[z, .bool false]) else none
    | _, _, _ => none
  | .extract t i => match opd σ t with
    | some (.tuple vs) => (vs[i]?).bind (pureR h)
    | _ => none
  | .call c => match opds σ c.args.toList with
    | some args => match c.callee with
      | .builtin b => builtinA P h b c.argTypes.toList args
      | .value f => (opd σ f).bind fun fv => callV P E h fv args
      | .invoke r name => match opd σ r with
        | some (.iface t v) => match methodA P t v name with
          | some (f, v') => callH E f (v' :: args) h
          | none => none
        | _ => none
    | none => none
  | _ => none

/-! ### regions -/
def wantedA (ops : List Oper) (σ : Tm) (o : Oper) : Option Bool :=
  match o.guard with
  | none => some true
  | some (j, want) => match (ops[j]?).bind (·.dst) with
    | some t => match lk σ t with
      | some (.bool b) => some (b == want)
      | some (.tuple cs) => cond cs.isEmpty (some false) none
      | _ => none
    | none => none
def addWr (base : Nat) : List Nat → List Nat → List Nat
  | wr, [] => wr
  | wr, b :: r => addWr base (cond (Nat.blt b base) (ins wr b) wr) r
structure Fp where
  rd : List Nat
  wr : List Nat
def range' (a : Nat) : Nat → List Nat
  | 0 => []
  | n + 1 => a :: range' (a + 1) n
def opStep (P : Program) (E : Ev) (base : Nat) (ops : List Oper) (o : Oper) (st : St) : Option (St × Fp) :=
  match wantedA ops st.σ o with
  | some true => match aop P E st.σ st.h o with
    | some r => some (⟨putO st.σ o.dst r.v, r.h, addWr base st.wr r.wr⟩, ⟨r.rd, r.wr ++ range' st.h.length (r.h.length - st.h.length)⟩)
    | none => none
  | some false => some (⟨putO st.σ o.dst undef, st.h, st.wr⟩, ⟨[], []⟩)
  | none => none
def runOps (P : Program) (E : Ev) (base : Nat) (ops : List Oper) : List Oper → St → Option St
  | [], st => some st
  | o :: r, st => match opStep P E base ops o st with
    | some (st', _) => runOps P E base ops r st'
    | none => none
def runOpsF (P : Program) (E : Ev) (base : Nat) (ops : List Oper) : List Oper → St → Option (St × List Fp)
  | [], st => some (st, [])
  | o :: r, st => match opStep P E base ops o st with
    | some (st', fp) => match runOpsF P E base ops r st' with
      | some (st'', fps) => some (st'', fp :: fps)
      | none => none
    | none => none
/-- for each operation, those that surely come before it: a bit each -/
def masks : List Oper → List Nat → List Nat
  | [], acc => acc
  | o :: r, acc => masks r (acc ++ [o.after.toList.foldl (fun s e => if Region.binds .any e then s ||| 2 ^ e.on ||| acc.getD e.on 0 else s) 0])
def edgesOk (ops : List Oper) : Bool := (ops.zipIdx).all fun p => p.1.after.toList.all fun e => !Region.binds .any e || Nat.blt e.on p.2
def looks (ops : List Oper) (o : Oper) : List Nat :=
  o.op.operands.toList.flatMap opdT ++ (match o.guard with | some (g, _) => ((ops[g]?).bind (·.dst)).toList | none => [])
def apartA (ops : List Oper) (x y : Oper) : Bool :=
  (match x.dst with | some d => !mem (looks ops y) d && !(match y.dst with | some e => Nat.beq d e | none => false) | none => true) &&
  (match y.dst with | some d => !mem (looks ops x) d | none => true)
def unord (ms : List Nat) (i j : Nat) : Bool := !(ms.getD j 0).testBit i && !(ms.getD i 0).testBit j && !(Nat.beq i j)
def staticOk (ops : List Oper) : Bool :=
  edgesOk ops && (let ms := masks ops []
    ops.zipIdx.all fun p => ops.zipIdx.all fun q => !unord ms p.2 q.2 || apartA ops p.1 q.1)
def fpsOk (ms : List Nat) (fps : List Fp) : Bool :=
  fps.zipIdx.all fun p => p.1.wr.isEmpty || fps.zipIdx.all fun q => !unord ms p.2 q.2 || (disj p.1.wr q.1.rd && disj p.1.wr q.1.wr)
def dstOk (nt : Nat) (ops : List Oper) : Bool := ops.all fun o => match o.dst with | some t => Nat.blt t nt | none => true
def region (P : Program) (E : Ev) (cx : Cx) (ops : Array Oper) (draw : Bool) (st : St) : Option St :=
  cond (dstOk cx.nt ops.toList) (match draw with
  | false => runOps P E cx.base ops.toList ops.toList st
  | true => cond (staticOk ops.toList) (match runOpsF P E cx.base ops.toList ops.toList st with
    | some (st', fps) => cond (fpsOk (masks ops.toList []) fps) (some st') none
    | none => none) none) none

/-! ### code -/
def isLoop (h : List Blk) (l : Nat) : Bool := match h[l]? with | some (.loop _) => true | _ => false
def dropTo (n : Nat) (σ : Tm) : Tm := σ.drop (σ.length - n)
def exCode : Ex → Option Code
  | .normal => none
  | .exit id => some (.exit id)
  | .goto l => some (.goto l)
  | .ret => some .ret
def codeEx : Code → Option Ex
  | .exit id => some (.exit id)
  | .goto l => some (.goto l)
  | .ret => some .ret
  | _ => none
def resT : ResultVar → Nat
  | .tmp t => t
  | .cell a _ => a
/-- just what is told is kept, nil slices are told as empty ones -/
def normK (base : Nat) (K : Kp) (st : St) : Option St := sweep base (fixS base K.nils ⟨keepO K.keep st.σ, st.h, st.wr⟩)
/-- at a jump just what is told is kept -/
def normX (E : Ev) (cx : Cx) (k : Nat) (e : Ex) (st : St) : Option (Ex × St) :=
  match E.kp cx.fn k with
  | none => some (e, st)
  | some K => (normK cx.base K st).map fun st0 => (e, st0)
/-- behind a jump back to a label -/
def jumpN (P : Program) (E : Ev) (cx : Cx) (rest : Code) (l : Nat) (st : St) : Option St :=
  match E.kp cx.fn (4 * l + 4) with
  | none => sweep cx.base ⟨keepT ((ue rest).1 ++ ((P.funcs[cx.fn]?).map fun f => f.results.toList.map resT).getD []) st.σ, st.h, st.wr⟩
  | some K => normK cx.base K st
def codeB (P : Program) (E : Ev) (cx : Cx) : Code → St → Option (Ex × St)
  | .skip, st => some (.normal, st)
  | .label l, st => normX E cx (4 * l + 4) .normal st
  | .region _ ops d, st => (region P E cx ops d st).map fun st' => (.normal, st')
  | .seq a b, st => match codeB P E cx a st with
    | some (.normal, st') => codeB P E cx b st'
    | r => r
  | .cond c a b, st => match opd st.σ c with
    | some (.bool true) => match codeB P E cx a st with
      | some (.normal, st') => some (.normal, { st' with σ := dropTo st.σ.length st'.σ })
      | r => r
    | some (.bool false) => match codeB P E cx b st with
      | some (.normal, st') => some (.normal, { st' with σ := dropTo st.σ.length st'.σ })
      | r => r
    | _ => none
  | .block id b, st => match codeB P E cx b st with
    | some (.normal, st') => some (.normal, { st' with σ := dropTo st.σ.length st'.σ })
    | some (.exit id', st') => if id' = id then some (.normal, { st' with σ := dropTo st.σ.length st'.σ }) else some (.exit id', st')
    | r => r
  | .loop b, st => match E.kp cx.fn (4 * rid b + 3) with
    | none => match codeB P E cx b st with
      | some (.normal, st') =>
        match (if st'.h.length = st.h.length then some { st' with σ := dropTo st.σ.length st'.σ } else sweep cx.base { st' with σ := dropTo st.σ.length st'.σ }) with
        | some st'' => E.code cx (.loop b) st''
        | none => none
      | r => r
    | some K => match normK cx.base K st with
      | some st0 => match codeB P E cx b st0 with
        | some (.normal, st') => E.code cx (.loop b) st'
        | r => r
      | none => none
  | .scope b, st => match codeB P E cx b st with
    | some (.goto l, st') => match findLabel b l with
      | some rest => match jumpN P E cx rest l st' with
        | some st'' => E.scp cx b rest st''
        | none => none
      | none => some (.goto l, st')
    | r => r
  | .exit id, st => normX E cx (4 * id + 2) (.exit id) st
  | .goto l, st => some (.goto l, st)
  | .ret, st => normX E cx 1 .ret st
  | .rangeFunc f params assign body, st => match opd st.σ f, (match cx.ro with | none => true | some q => isLoop st.h q) with
    | some (.func (.func g) first captured), true =>
      let l := st.h.length
      let lp : ALoop := { state := .ready, pending := none, fn := cx.fn, σ := keepT ((ue assign).1 ++ (ue body).1) st.σ, size := cx.nt, params, assign, body }
      match callH E g (first.toList ++ [.func (.yield l) #[] #[]] ++ captured.toList) (st.h ++ [.loop lp]) with
      | some r => match r.h[l]? with
        | some (.loop l') =>
          let st' : St := ⟨st.σ, r.h.set l .dead, addWr cx.base st.wr r.wr⟩
          match l'.state, l'.pending with
          | .ready, none => some (.normal, st')
          | .done, some c => (codeEx c).map fun e => (e, st')
          | _, _ => none
        | _ => none
      | none => none
    | _, _ => none
  | .refuse _, _ => none
def codeS (P : Program) (E : Ev) (cx : Cx) (b c : Code) (st : St) : Option (Ex × St) :=
  match codeB P E cx c st with
  | some (.goto l, st') => match findLabel b l with
    | some rest => match jumpN P E cx rest l st' with
      | some st'' => E.scp cx b rest st''
      | none => none
    | none => some (.goto l, st')
  | r => r
def enumT (i : Nat) : List Value → Tm
  | [] => []
  | v :: r => (i, v) :: enumT (i + 1) r
def resultsA (P : Program) (rs : List ResultVar) (st : St) : Option (List Value) :=
  optAll (fun
    | .tmp t => lk st.σ t
    | .cell a t => match lk st.σ a with
      | some (.pointer (some ⟨b, o, none⟩)) => loadA P st.h t b o
      | _ => none) rs
def tupV (vs : List Value) : Value := match vs with
  | [v] => v
  | vs => .tuple vs.toArray
def runB (P : Program) (E : Ev) (f : FuncId) (args : List Value) (h : List Blk) : Option RR :=
  match P.funcs[f]? with
  | some fn => match fn.body with
    | some c => if args.length ≤ fn.ntmps ∧ fn.name ≠ "runtime.NumGoroutine" then
        match codeB P E ⟨f, fn.ntmps, h.length, none⟩ c ⟨enumT 0 args, h, []⟩ with
        | some (.normal, st) | some (.ret, st) => match resultsA P fn.results.toList st with
          | some vs => finish h.length (tupV vs) st.h st.wr
          | none => none
        | _ => none
      else none
    | none => none
  | none => none
def putAll : Tm → List Nat → List Value → Option Tm
  | σ, [], [] => some σ
  | σ, t :: r, v :: vs => putAll (put σ t v) r vs
  | _, _, _ => none
def rndB (P : Program) (E : Ev) (l : Nat) (args : List Value) (h : List Blk) : Option RR :=
  match h[l]? with
  | some (.loop L) => match L.state, L.pending, putAll L.σ L.params.toList args with
    | .ready, none, some σ =>
      cond (L.params.toList.all (fun t => Nat.blt t L.size) && ndk σ) (
      match codeB P E ⟨L.fn, L.size, h.length, some l⟩ L.assign ⟨σ, h, []⟩ with
      | some (.normal, st1) => match st1.h[l]? with
        | some (.loop L1) => match L1.state with
          | .ready => match codeB P E ⟨L.fn, L.size, h.length, some l⟩ L.body ⟨st1.σ, st1.h.set l (.loop { L1 with state := .busy }), ins st1.wr l⟩ with
            | some (e, st2) => match st2.h[l]? with
              | some (.loop L2) => match e with
                | .normal => finish h.length (.bool true) (st2.h.set l (.loop { L2 with state := .ready, pending := none })) (ins st2.wr l)
                | e => finish h.length (.bool false) (st2.h.set l (.loop { L2 with state := .done, pending := exCode e })) (ins st2.wr l)
              | _ => none
            | none => none
          | _ => none
        | _ => none
      | _ => none) none
    | _, _, _ => none
  | _ => none
def Ev.step (P : Program) (E : Ev) : Ev := { code := codeB P E, scp := codeS P E, run := runB P E, rnd := rndB P E, kp := E.kp }
def ev (P : Program) : Nat → Ev
  | 0 => ⟨fun _ _ _ => none, fun _ _ _ _ => none, fun _ _ _ => none, fun _ _ _ => none, fun _ _ => none⟩
  | n + 1 => Ev.step P (ev P n)

end Go.GE
