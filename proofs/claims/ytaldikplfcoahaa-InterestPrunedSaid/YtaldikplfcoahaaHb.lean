/- Own framework, part b: what one operation does to abstract values and owned memory, and that the model does so. -/
import Derived.Test.YtaldikplfcoahaaHa
namespace Go.Proofs.Ytaldikplfcoahaa
set_option linter.unusedSimpArgs false
set_option linter.unusedVariables false
open Go.RowKit

/-- Is it a struct's or an array's type? -/
def aggD : TypeDesc → Bool | .struct _ | .array _ _ => true | _ => false
def kindB (P : Program) (t : TypeId) : Option Bool := (P.underlying t).map aggD

def zeroV (P : Program) (t : TypeId) : Option (List V) := ((P.info? t).bind (·.zero)).map fun z => z.cells.toList.map V.val

def setL (cs : List V) (off : Nat) : List V → List V
  | [] => cs
  | y :: ys => setL (cs.set off y) (off + 1) ys

theorem setL_length (cs : List V) (off : Nat) (ys : List V) : (setL cs off ys).length = cs.length := by
  induction ys generalizing cs off with
  | nil => rfl
  | cons y ys ih => simp [setL, ih]

/-- What lies at a place is read as a variable of the type. -/
def loadL (P : Program) (t : TypeId) (cs : List V) (off : Nat) (K : V → Prop) : Prop :=
  match kindB P t with
  | some true => off + P.cellsOf t ≤ cs.length ∧ K (.agg ((cs.drop off).take (P.cellsOf t)))
  | some false => match cs[off]? with | none => False | some c => K c
  | none => False

def loadV (P : Program) (t : TypeId) (a : V) (σ : Store) (K : V → Store → Prop) : Prop :=
  match a with
  | .ptr b off => match σ b with | some (.cells cs) => loadL P t cs off (fun x => K x σ) | _ => False
  | .ro cs => loadL P t cs 0 (fun x => K x σ)
  | _ => False

def storeV (P : Program) (t : TypeId) (a x : V) (σ : Store) (K : V → Store → Prop) : Prop :=
  match a with
  | .ptr b off => match σ b with
    | some (.cells cs) => x.plain = true ∧ x.cells.length = P.cellsOf t ∧ (P.info? t).isSome = true ∧ (∀ c ∈ x.cells, c.one = true) ∧ off + x.cells.length ≤ cs.length ∧ K .top (σ.set b (.cells (setL cs off x.cells)))
    | _ => False
  | _ => False

def newV (cs : List V) (σ : Store) (K : V → Store → Prop) : Prop := ∀ b, σ b = none → K (.ptr b 0) (σ.set b (.cells cs))
def allocV (P : Program) (t : TypeId) (σ : Store) (K : V → Store → Prop) : Prop :=
  match zeroV P t with | some cs => newV cs σ K | none => False
def boxV (x : V) (σ : Store) (K : V → Store → Prop) : Prop := x.plain = true ∧ newV x.cells σ K

def fillV (place : Nat → Option (Nat × Nat)) (cs : List V) : List (Nat × V) → Option (List V)
  | [] => some cs
  | (i, x) :: rest =>
    match place i with
    | none => none
    | some (off, size) => if x.plain = true ∧ x.cells.length = size ∧ off + size ≤ cs.length then fillV place (setL cs off x.cells) rest else none

def placesB (P : Program) (t : TypeId) : Option (Nat → Option (Nat × Nat)) :=
  match P.underlying t with
  | some (.struct fields) => if fields.toList.all (fun f => (P.info? f.type).isSome) then some fun i => (fields[i]?).map fun f => (f.offset, P.cellsOf f.type) else none
  | some (.array _ e) => if (P.info? e).isSome then some fun i => some (i * P.cellsOf e, P.cellsOf e) else none
  | _ => none

def buildV (P : Program) (t : TypeId) (parts : List (Nat × V)) (σ : Store) (K : V → Store → Prop) : Prop :=
  match placesB P t, zeroV P t with
  | some place, some z => match fillV place z parts with | some cs => K (.agg cs) σ | none => False
  | _, _ => False

def repL (z : List V) (n : Nat) : List V := (List.range n).map fun i => z.getD (i % z.length) .top

def buildSliceV (P : Program) (t : TypeId) (len : Nat) (parts : List (Nat × V)) (σ : Store) (K : V → Store → Prop) : Prop :=
  match P.underlying t with
  | some (.slice e) => (P.info? e).isSome = true ∧ len * P.cellsOf e ≤ 2 ^ 24 ∧ match zeroV P e with
    | some z => match fillV (fun i => some (i * P.cellsOf e, P.cellsOf e)) (repL z (len * P.cellsOf e)) parts with
      | some cs => ∀ b, σ b = none → K (.sl b 0 len len) (σ.set b (.cells cs))
      | none => False
    | none => False
  | _ => False

/-- The scalars of a comparison with '==', by the operand's own type. -/
def eqV (P : Program) (t : TypeId) (x y : V) : Option Bool :=
  match P.underlying t, x, y with
  | some .bool, .val (.bool a), .val (.bool b) => some (a == b)
  | some (.pointer _), .val (.pointer none), .val (.pointer none) => some true
  | some (.pointer _), .ptr _ _, .val (.pointer none) => some false
  | some (.pointer _), .val (.pointer none), .ptr _ _ => some false
  | some (.pointer _), .ro _, .val (.pointer none) => some false
  | some (.pointer _), .val (.pointer none), .ro _ => some false
  | some (.slice _), .val (.slice none _ _), .val (.slice none _ _) => some true
  | some (.slice _), .sl _ _ _ _, .val (.slice none _ _) => some false
  | some (.slice _), .val (.slice none _ _), .sl _ _ _ _ => some false
  | some (.slice _), .lst _ (_ :: _), .val (.slice none _ _) => some false
  | some (.func _ _ _), .val .nilFunc, .val .nilFunc => some true
  | some (.func _ _ _), .fn _ _ _, .val .nilFunc => some false
  | some (.interface _), .ifc _ _, .val .nilIface => some false
  | some (.interface _), .val .nilIface, .ifc _ _ => some false
  | _, _, _ => none

/-- One cell of kind g: 0 a number, 1 a bool, 2 a string. -/
def eqPrimV (g : Nat) (x y : V) : Option Bool :=
  match g, x, y with
  | 0, .val (.int k a), .val (.int k' b) => if k = k' then some (a == b) else none
  | 1, .val (.bool a), .val (.bool b) => some (a == b)
  | 2, .val (.string a), .val (.string b) => some (a == b)
  | _, _, _ => none

/-- The kinds of the cells of a type all of whose leaves are numbers, bools, strings, and none of whose fields is blank. -/
def leafs (P : Program) : Nat → TypeId → Option (List Nat)
  | 0, _ => none
  | d + 1, t =>
    match P.underlying t with
    | some (.int _) => some [0]
    | some .bool => some [1]
    | some .string => some [2]
    | some (.struct fs) => if P.stoodInHeld t then none else leafFields (leafs P d) P [] fs.toList
    | some (.array n e) => match leafs P d e with | some g => if g.length = P.cellsOf e then some (List.replicate n g).flatten else none | none => none
    | _ => none
where
  leafFields (lf : TypeId → Option (List Nat)) (P : Program) (acc : List Nat) : List Field → Option (List Nat)
    | [] => some acc
    | f :: fs => if f.name = "_" ∨ f.offset ≠ acc.length then none else match lf f.type with
      | none => none
      | some g => if g.length = P.cellsOf f.type then leafFields lf P (acc ++ g) fs else none

def allEq : List Nat → List V → List V → Option Bool
  | [], [], [] => some true
  | g :: gs, x :: xs, y :: ys => match eqPrimV g x y, allEq gs xs ys with | some a, some b => some (a && b) | _, _ => none
  | _, _, _ => none

/-- Numbers. -/
def binI (op : BinOp) (k : IntKind) (a b : Int) (K : V → Prop) : Prop :=
  match op with
  | .add => K (.val (.int k (k.wrap (a + b))))
  | .sub => K (.val (.int k (k.wrap (a - b))))
  | .mul => K (.val (.int k (k.wrap (a * b))))
  | .quo => b ≠ 0 ∧ K (.val (.int k (k.wrap (a.tdiv b))))
  | .rem => b ≠ 0 ∧ K (.val (.int k (a.tmod b)))
  | .and => K (.val (.int k (k.wrap (BitVec.ofInt k.bits a &&& BitVec.ofInt k.bits b).toNat)))
  | .or => K (.val (.int k (k.wrap (BitVec.ofInt k.bits a ||| BitVec.ofInt k.bits b).toNat)))
  | .xor => K (.val (.int k (k.wrap (BitVec.ofInt k.bits a ^^^ BitVec.ofInt k.bits b).toNat)))
  | .andNot => K (.val (.int k (k.wrap (BitVec.ofInt k.bits a &&& ~~~ BitVec.ofInt k.bits b).toNat)))
  | .eql => K (.val (.bool (a == b)))
  | .neq => K (.val (.bool (a != b)))
  | .lss => K (.val (.bool (decide (a < b))))
  | .leq => K (.val (.bool (decide (a ≤ b))))
  | .gtr => K (.val (.bool (decide (a > b))))
  | .geq => K (.val (.bool (decide (a ≥ b))))
  | _ => False

def shiftI (op : BinOp) (k : IntKind) (a b : Int) (K : V → Prop) : Prop :=
  match op with
  | .shl => 0 ≤ b ∧ K (.val (.int k (k.wrap (a * 2 ^ (min b.toNat k.bits)))))
  | .shr => 0 ≤ b ∧ K (.val (.int k (a.fdiv (2 ^ (min b.toNat k.bits)))))
  | _ => False

def binS (op : BinOp) (a b : ByteArray) (K : V → Prop) : Prop :=
  match op with
  | .add => a.size + b.size ≤ 9223372036854775807 ∧ K (.val (.string (a ++ b)))
  | .eql => K (.val (.bool (a.toList == b.toList)))
  | .neq => K (.val (.bool (!(a.toList == b.toList))))
  | .lss => K (.val (.bool (Op.bytesLess a.toList b.toList)))
  | .leq => K (.val (.bool (Op.bytesLess a.toList b.toList || a.toList == b.toList)))
  | .gtr => K (.val (.bool (!(Op.bytesLess a.toList b.toList || a.toList == b.toList))))
  | .geq => K (.val (.bool (!(Op.bytesLess a.toList b.toList))))
  | _ => False

def isShift : BinOp → Bool | .shl | .shr => true | _ => false

def binV (P : Program) (op : BinOp) (t : TypeId) (x y : V) (σ : Store) (K : V → Store → Prop) : Prop :=
  match x, y with
  | .val (.int k a), .val (.int k' b) => if isShift op = true then shiftI op k a b (fun x => K x σ) else k = k' ∧ binI op k a b (fun x => K x σ)
  | .val (.string a), .val (.string b) => binS op a b (fun x => K x σ)
  | .agg xs, .agg ys => kindB P t = some true ∧ P.eqGuardType P.depth t = false ∧ match leafs P 50 t with
    | some gs => (match allEq gs xs ys with
      | some r => (match op with | .eql => K (.val (.bool r)) σ | .neq => K (.val (.bool (!r))) σ | _ => False)
      | none => False)
    | none => False
  | x, y => match eqV P t x y with
    | some r => match op with | .eql => K (.val (.bool r)) σ | .neq => K (.val (.bool (!r))) σ | _ => False
    | none => False

def unV (op : UnOp) (x : V) (σ : Store) (K : V → Store → Prop) : Prop :=
  match op, x with
  | .not, .val (.bool b) => K (.val (.bool (!b))) σ
  | .neg, .val (.int k n) => K (.val (.int k (k.wrap (0 - n)))) σ
  | .xor, .val (.int k n) => K (.val (.int k (k.wrap (BitVec.ofInt k.bits (if k.signed then -1 else k.max) ^^^ BitVec.ofInt k.bits n).toNat))) σ
  | _, _ => False

def V.unF : V → V | .cnd g y => if g = true then y else .top | x => x
def boolV : V → Option (Bool × Bool) | .val (.bool p) => some (true, p) | .cnd g (.val (.bool p)) => some (g, p) | _ => none

def pickV (c a b : V) (σ : Store) (K : V → Store → Prop) : Prop :=
  match c with
  | .val (.bool t) => match boolV a, boolV b with
    | some (ga, p), some (gb, q) => (t = true → ga = true) ∧ (t = false → gb = true) ∧ K (.val (.bool (if t then p else q))) σ
    | _, _ => (t = true → K a.unF σ) ∧ (t = false → K b.unF σ)
  | _ => False

def nilCheckV (x : V) (σ : Store) (K : V → Store → Prop) : Prop :=
  match x with
  | .ptr _ _ | .ro _ => K x σ
  | .fn (.func _) _ _ => K x σ
  | .ifc _ _ => K x σ
  | _ => False

def convertV (P : Program) (src dst : TypeId) (x : V) (σ : Store) (K : V → Store → Prop) : Prop :=
  (P.underlying src).isSome = true ∧ match P.underlying dst, x with
  | some (.int k), .val (.int _ n) => K (.val (.int k (k.wrap n))) σ
  | _, _ => False

def ptrAdd (x : V) (n : Nat) : Option V :=
  match x with
  | .ptr b off => some (.ptr b (off + n))
  | .ro cs => if n ≤ cs.length then some (.ro (cs.drop n)) else none
  | _ => none

def fieldAddrV (P : Program) (s : TypeId) (x : V) (i : Nat) (σ : Store) (K : V → Store → Prop) : Prop :=
  match P.underlying s with
  | some (.struct fields) => match fields[i]? with
    | some f => (P.info? f.type).isSome = true ∧ P.cellsOf f.type ≠ 0 ∧ match ptrAdd x f.offset with | some y => K y σ | none => False
    | none => False
  | _ => False

def fieldV (P : Program) (s : TypeId) (x : V) (i : Nat) (σ : Store) (K : V → Store → Prop) : Prop :=
  match P.underlying s, x with
  | some (.struct fields), .agg cs => match fields[i]? with
    | some f => loadL P f.type cs f.offset (fun x => K x σ)
    | none => False
  | _, _ => False

/-- The address of an element. -/
def indexAddrV (P : Program) (t : TypeId) (x i : V) (σ : Store) (K : V → Store → Prop) : Prop :=
  match i with
  | .val (.int _ n) => 0 ≤ n ∧ match P.underlying t with
    | some (.slice e) => (P.info? e).isSome = true ∧ (match x with
      | .sl b off len _ => n < len ∧ K (.ptr b (off + n.toNat * P.cellsOf e)) σ
      | .lst k xs => k = P.cellsOf e ∧ n < xs.length ∧ K (.ro (xs.getD n.toNat .top).cells) σ
      | _ => False)
    | some (.array len e) => (P.info? e).isSome = true ∧ n < len ∧ (match ptrAdd x (n.toNat * P.cellsOf e) with | some y => K y σ | none => False)
    | _ => False
  | _ => False

def indexV (P : Program) (t : TypeId) (x i : V) (σ : Store) (K : V → Store → Prop) : Prop :=
  match i with
  | .val (.int _ n) => 0 ≤ n ∧ match P.underlying t, x with
    | some (.array len e), .agg cs => (P.info? e).isSome = true ∧ n < len ∧ loadL P e cs (n.toNat * P.cellsOf e) (fun x => K x σ)
    | some .string, .val (.string s) => n < s.size ∧ K (.val (.int .u8 (s.data.toList.getD n.toNat 0).toNat)) σ
    | _, _ => False
  | _ => False

def extractV (x : V) (i : Nat) (σ : Store) (K : V → Store → Prop) : Prop :=
  match x with
  | .tup cs => match cs[i]? with | none => False | some c => K c σ
  | _ => False

def numOf (d : Nat) : Option V → Option Int
  | none => some d
  | some (.val (.int _ n)) => some n
  | _ => none

/-- 'x[lo:hi:max]': the bounds are as they should. -/
def sliceOk (len cap : Nat) (lo hi mx : Option V) (K : Nat → Nat → Nat → Prop) : Prop :=
  match numOf 0 lo, numOf len hi, numOf cap mx with
  | some l, some h, some m => 0 ≤ l ∧ l ≤ h ∧ h ≤ m ∧ m ≤ cap ∧ (mx.isSome = true → hi.isSome = true) ∧ K l.toNat h.toNat m.toNat
  | _, _, _ => False

def sliceV (P : Program) (t : TypeId) (x : V) (lo hi mx : Option V) (σ : Store) (K : V → Store → Prop) : Prop :=
  match P.underlying t with
  | some (.slice e) => (P.info? e).isSome = true ∧ (match x with
    | .sl b off len cap => sliceOk len cap lo hi mx fun l h m => K (.sl b (if m = l then off else off + l * P.cellsOf e) (h - l) (m - l)) σ
    | .lst k xs => k = P.cellsOf e ∧ (match mx with
      | none => sliceOk xs.length xs.length lo hi none fun l h _ => K (.lst k ((xs.drop l).take (h - l))) σ
      | some _ => False)
    | .val (.slice none 0 0) => sliceOk 0 0 lo hi mx fun _ _ _ => K (.val (.slice none 0 0)) σ
    | _ => False)
  | some .string => (match x with
    | .val (.string s) => mx = none ∧ sliceOk s.size s.size lo hi none fun l h _ => K (.val (.string (s.extract l h))) σ
    | _ => False)
  | some (.array n e) => (P.info? e).isSome = true ∧ (match x with
    | .ptr b off => sliceOk n n lo hi mx fun l h m => K (.sl b (if m = l then off else off + l * P.cellsOf e) (h - l) (m - l)) σ
    | _ => False)
  | _ => False

def makeSliceV (P : Program) (t : TypeId) (l c : V) (σ : Store) (K : V → Store → Prop) : Prop :=
  match P.underlying t, l, c with
  | some (.slice e), .val (.int _ n), .val (.int _ m) => (P.info? e).isSome = true ∧ 0 ≤ n ∧ n ≤ m ∧ m * P.bytesOf e ≤ 140737488355328 ∧ m ≤ 140737488355328 ∧ (match zeroV P e with
    | some z => ∀ b, σ b = none → K (.sl b 0 n.toNat m.toNat) (σ.set b (.cells (repL z (m.toNat * P.cellsOf e))))
    | none => False)
  | _, _, _ => False

def lenV (P : Program) (t : TypeId) (x : V) (σ : Store) (K : V → Store → Prop) : Prop :=
  match P.underlying t, x with
  | some .string, .val (.string s) => K (.val (.int .i64 s.size)) σ
  | some (.array n _), _ => K (.val (.int .i64 n)) σ
  | some (.slice _), .val (.slice none n _) => K (.val (.int .i64 n)) σ
  | some (.slice _), .sl _ _ n _ => K (.val (.int .i64 n)) σ
  | some (.slice _), .lst _ xs => K (.val (.int .i64 xs.length)) σ
  | _, _ => False

/-- The elements that a slice (or a text) holds, cell by cell. -/
def rowV (k : Nat) (x : V) (σ : Store) (K : Nat → List V → Prop) : Prop :=
  match x with
  | .val (.slice none 0 0) => K 0 []
  | .sl b off len _ => match σ b with | some (.cells cs) => off + len * k ≤ cs.length ∧ K len ((cs.drop off).take (len * k)) | _ => False
  | .lst k' xs => k' = k ∧ K xs.length (xs.flatMap V.cells)
  | .val (.string s) => k = 1 ∧ K s.size (s.data.toList.map fun b => V.val (.int .u8 b.toNat))
  | _ => False

def noInt : TypeDesc → Prop | .int _ => False | _ => True

def appendV (P : Program) (t u : TypeId) (x y : V) (σ : Store) (K : V → Store → Prop) : Prop :=
  match P.underlying t, P.underlying u with
  | some (.slice e), some d => noInt d ∧ (P.info? e).isSome = true ∧ P.cellsOf e ≠ 0 ∧ rowV (P.cellsOf e) y σ fun m news =>
    (∀ c ∈ news, c.one = true) ∧ match x with
    | .sl b off n cap => (match σ b with
      | some (.cells cs) => off + cap * P.cellsOf e ≤ cs.length ∧ n ≤ cap ∧ cap ≤ maxLen ∧
        (n + m ≤ cap → K (.sl b off (n + m) cap) (σ.set b (.cells (setL cs (off + n * P.cellsOf e) news)))) ∧
        (cap < n + m → n + m ≤ maxLen ∧ (n + m) * P.bytesOf e ≤ 140737488355328 ∧ (zeroV P e).map List.length = some (P.cellsOf e) ∧
          ∀ b' cap', σ b' = none → n + m ≤ cap' → cap' ≤ maxLen → K (.sl b' 0 (n + m) cap') (σ.set b' (.cells ((cs.drop off).take (n * P.cellsOf e) ++ news ++ List.replicate ((cap' - (n + m)) * P.cellsOf e) .top))))
      | _ => False)
    | .val (.slice none 0 0) => (m = 0 → K (.val (.slice none 0 0)) σ) ∧ (0 < m → m ≤ maxLen ∧ m * P.bytesOf e ≤ 140737488355328 ∧ (zeroV P e).map List.length = some (P.cellsOf e) ∧
          ∀ b' cap', σ b' = none → m ≤ cap' → cap' ≤ maxLen → K (.sl b' 0 m cap') (σ.set b' (.cells (news ++ List.replicate ((cap' - m) * P.cellsOf e) .top))))
    | .lst _ _ => m = 0 ∧ K x σ
    | _ => False
  | _, _ => False

def minI (l : List V) : Option V :=
  match l with
  | [.val (.int k a), .val (.int k' b)] => if k = k' then some (.val (.int k (if b < a then b else a))) else none
  | _ => none
def maxI (l : List V) : Option V :=
  match l with
  | [.val (.int k a), .val (.int k' b)] => if k = k' then some (.val (.int k (if b > a then b else a))) else none
  | _ => none

def builtinV (P : Program) (b : Builtin) (ts : List TypeId) (xs : List V) (σ : Store) (K : V → Store → Prop) : Prop :=
  match b, ts, xs with
  | .len, t :: _, [x] => lenV P t x σ K
  | .append, [t, u], [x, y] => appendV P t u x y σ K
  | .min, _, xs => match minI xs with | some x => K x σ | none => False
  | .max, _, xs => match maxI xs with | some x => K x σ | none => False
  | _, _, _ => False

/-- A function with a body, by whose name the model does nothing of its own. -/
def entersB (P : Program) (f : FuncId) : Bool := match P.funcs[f]? with | some fn => !(fn.name == "runtime.NumGoroutine") && fn.body.isSome | none => false

def callV (P : Program) (f : V) (xs : List V) (σ : Store) (K KP : V → Store → Prop) : Prop :=
  match f with
  | .fn (.func g) ps qs => entersB P g = true ∧ HCalls P g (ps ++ xs ++ qs) σ (fun r σ' => match r with | .ret x => K x σ' | .pan x => KP x σ')
  | _ => False

def panicV (x : V) (σ : Store) (KP : V → Store → Prop) : Prop := match x with | .ifc _ _ => KP x σ | _ => False

def opV (P : Program) (ρ : Operand → V) (o : Oper) (σ : Store) (K KP : V → Store → Prop) : Prop :=
  match o.op with
  | .move x | .assign x => K (ρ x) σ
  | .pick c a b => pickV (ρ c) (ρ a) (ρ b) σ K
  | .alloc t => allocV P t σ K
  | .box _ x => boxV (ρ x) σ K
  | .build t parts => buildV P t (parts.toList.map fun (i, x) => (i, ρ x)) σ K
  | .buildSlice t n parts => buildSliceV P t n (parts.toList.map fun (i, x) => (i, ρ x)) σ K
  | .load t a => loadV P t (ρ a) σ K
  | .store t a x => storeV P t (ρ a) (ρ x) σ K
  | .nilCheck x => nilCheckV (ρ x) σ K
  | .binOp op t x y _ => binV P op t (ρ x) (ρ y) σ K
  | .unOp op _ x => unV op (ρ x) σ K
  | .convert s d x => convertV P s d (ρ x) σ K
  | .makeInterface t x => (match P.underlying t with | some (.interface _) => False | some _ => K (.ifc t (ρ x)) σ | none => False)
  | .makeFunc f first captured => K (.fn f (first.toList.map ρ) (captured.toList.map ρ)) σ
  | .makeSlice t l c => makeSliceV P t (ρ l) (ρ c) σ K
  | .slice t x lo hi mx => sliceV P t (ρ x) (lo.map ρ) (hi.map ρ) (mx.map ρ) σ K
  | .fieldAddr s x i => fieldAddrV P s (ρ x) i σ K
  | .field s x i => fieldV P s (ρ x) i σ K
  | .indexAddr t x i => indexAddrV P t (ρ x) (ρ i) σ K
  | .index t x i => indexV P t (ρ x) (ρ i) σ K
  | .extract x i => extractV (ρ x) i σ K
  | .call c => (match c.callee with
    | .value f => callV P (ρ f) (c.args.toList.map ρ) σ K KP
    | .builtin b => builtinV P b c.argTypes.toList (c.args.toList.map ρ) σ K
    | .invoke _ _ => False)
  | .panic x => panicV (ρ x) σ KP
  | _ => False

end Go.Proofs.Ytaldikplfcoahaa
