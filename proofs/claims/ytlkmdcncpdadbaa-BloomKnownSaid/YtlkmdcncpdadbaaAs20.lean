/-
  What a piece of code needs, as a proposition that computes: frames are lists of values, memory is the plain machine's; a proof of it proves what the plain machine answers.
-/
import Derived.Test.YtlkmdcncpdadbaaAs12
namespace Go.AS
open Go.RowKit
set_option linter.unusedVariables false

abbrev Fr := List Value

noncomputable section
def ofL (xs : Fr) : Tr Value := Tr.updsFrom xs 0 (Tr.fill undef xs.length xs.length)

def evL (E : Env) (xs : Fr) : Operand → Value
  | .tmp t => xs.getD t undef
  | .const v => bif plain v then v else anyv
  | .global g => bif Nat.ble (g + 1) E.ng then .pointer (some ⟨g, 0, none⟩) else anyv
  | .func f => .func (.func f) #[] #[]

def putL (xs : Fr) (d : Option Tmp) (v : Value) : Fr :=
  match d with
  | some d => xs.set d v
  | none => xs

def Heap.bump (H : Heap) (n : Nat) : Heap := ⟨H.tr, H.next + n⟩

/-- One cell. -/
def Heap.cell (H : Heap) (i o : Nat) : Option Value :=
  match H.get i with
  | some (.cells _ _ c) => c[o]?
  | _ => none

def Heap.cellsAt (H : Heap) (i o n : Nat) : Option (List Value) :=
  match H.get i with
  | some (.cells _ _ c) => takeAt c o n
  | _ => none

/-! ### Looking into values -/
def asBool (v : Value) (K : Bool → Prop) : Prop :=
  match v with
  | .bool b => K b
  | _ => False

def asInt (k : IntKind) (v : Value) (K : Int → Prop) : Prop :=
  match v with
  | .int j n => cond (decide (j = k)) (K n) False
  | _ => False

def asNum (v : Value) (K : Int → Prop) : Prop :=
  match v with
  | .int _ n => K n
  | _ => False

def asAddr (v : Value) (K : Nat → Nat → Prop) : Prop :=
  match v with
  | .pointer (some ⟨i, o, none⟩) => K i o
  | _ => False

def asRow (a : Option Addr) (K : Nat → Nat → Prop) : Prop :=
  match a with
  | some ⟨i, o, none⟩ => K i o
  | _ => False

def asSlice (v : Value) (K : Option Addr → Nat → Prop) : Prop :=
  match v with
  | .slice a l _ => K a l
  | _ => False

def asMap (v : Value) (K : Option Nat → Prop) : Prop :=
  match v with
  | .map m => K m
  | _ => False

def asFn (v : Value) (K : FuncId → List Value → List Value → Prop) : Prop :=
  match v with
  | .func (.func f) fs cs => K f fs.toList cs.toList
  | _ => False

def asCells (v : Value) (K : List Value → Prop) : Prop :=
  match cellsOf v with
  | some l => K l
  | none => False

def asSome {α : Type} (o : Option α) (K : α → Prop) : Prop :=
  match o with
  | some x => K x
  | none => False

def asNil (v : Value) (K : Bool → Prop) : Prop :=
  match v with
  | .pointer p => K p.isNone
  | .slice a _ _ => K a.isNone
  | .map m => K m.isNone
  | .nilFunc => K true
  | .func _ _ _ => K false
  | _ => False

/-! ### Values of a sort: which one is like a given one -/
def exOne (z : Value) (P : Value → Prop) : Prop :=
  match z with
  | .int k _ => ∃ n, P (.int k n)
  | .bool _ => ∃ b, P (.bool b)
  | .slice _ _ _ => ∃ a l, P (.slice a l 0)
  | .pointer _ => ∃ p, P (.pointer p)
  | .map _ => ∃ m, P (.map m)
  | .string _ => ∃ s, P (.string s)
  | _ => ∃ v, P v

def exCells : List Value → (List Value → Prop) → Prop
  | [], P => P []
  | z :: zs, P => exOne z fun v => exCells zs fun l => P (v :: l)

def exPart (z : Value) (P : Value → Prop) : Prop :=
  match z with
  | .agg cs => exCells cs.toList fun l => P (.agg ⟨l⟩)
  | z => exOne z P

def exParts : List Value → (List Value → Prop) → Prop
  | [], P => P []
  | z :: zs, P => exPart z fun v => exParts zs fun l => P (v :: l)

def exLike (z : Value) (P : Value → Prop) : Prop :=
  match z with
  | .tuple cs => exParts cs.toList fun l => P (.tuple ⟨l⟩)
  | z => exPart z P

theorem exOne_some {z : Value} {P : Value → Prop} (h : exOne z P) : ∃ v, P v := by
  unfold exOne at h
  split at h
  all_goals first
    | (obtain ⟨a, b, h⟩ := h; exact ⟨_, h⟩)
    | (obtain ⟨a, h⟩ := h; exact ⟨_, h⟩)

theorem exCells_some : ∀ {zs : List Value} {P : List Value → Prop}, exCells zs P → ∃ l, P l
  | [], P, h => ⟨[], h⟩
  | z :: zs, P, h => by
    obtain ⟨v, h⟩ := exOne_some h
    obtain ⟨l, h⟩ := exCells_some h
    exact ⟨_, h⟩

theorem exPart_some {z : Value} {P : Value → Prop} (h : exPart z P) : ∃ v, P v := by
  unfold exPart at h
  split at h
  · obtain ⟨l, h⟩ := exCells_some h
    exact ⟨_, h⟩
  · exact exOne_some h

theorem exParts_some : ∀ {zs : List Value} {P : List Value → Prop}, exParts zs P → ∃ l, P l
  | [], P, h => ⟨[], h⟩
  | z :: zs, P, h => by
    obtain ⟨v, h⟩ := exPart_some h
    obtain ⟨l, h⟩ := exParts_some h
    exact ⟨_, h⟩

theorem exLike_some {z : Value} {P : Value → Prop} (h : exLike z P) : ∃ v, P v := by
  unfold exLike at h
  split at h
  · obtain ⟨l, h⟩ := exParts_some h
    exact ⟨_, h⟩
  · exact exPart_some h

def zeroOf (E : Env) (t : Nat) : Value :=
  match E.ty t with
  | some i => match i.zero with
    | some z => z
    | none => anyv
  | none => anyv

/-! ### Operations -/
/-- A new block: its number, and memory with it. -/
def nwH (H : Heap) (o : Obj) (K : Nat → Heap → Prop) : Prop := K H.next (H.new o)

def wpLoad (E : Env) (t : Nat) (a : Value) (H : Heap) (K : Value → Prop) : Prop :=
  asAddr a fun i o => match isAggA E t with
    | some false => exOne (zeroOf E t) fun v => H.cell i o = some v ∧ K v
    | some true => match sizeA E t with
      | some n => bif Nat.beq n 0 then False else exCells (zeroOf E t).cells.toList fun l => H.cellsAt i o n = some l ∧ K (.agg ⟨l⟩)
      | none => False
    | none => False

def stc (H : Heap) (i o : Nat) (vs : List Value) (K : Heap → Prop) : Prop :=
  ∃ z c, H.get i = some (.cells true z c) ∧ o + vs.length ≤ c.length ∧ K (H.set i (.cells true z (setAt c o vs)))

def wpStore (E : Env) (t : Nat) (a v : Value) (H : Heap) (K : Heap → Prop) : Prop :=
  asAddr a fun i o => asCells v fun vs => match sizeA E t with
    | some n => bif Nat.beq vs.length n then stc H i o vs K else False
    | none => False

def nz (b : Int) : Prop := b ≠ 0
def nn (b : Int) : Prop := 0 ≤ b
def inB (n : Int) (len : Nat) : Prop := 0 ≤ n ∧ n < len
def inS (n : Int) (len : Nat) : Prop := 0 ≤ n ∧ n ≤ len
def okLen (bytes : Nat) (l c : Int) : Prop := 0 ≤ l ∧ l ≤ c ∧ bytes * c.toNat ≤ 140737488355328

def wpInt (op : BinOp) (k : IntKind) (a b : Int) (K : Value → Prop) : Prop :=
  match op with
  | .quo => nz b ∧ K (.int k (k.wrap (a.tdiv b)))
  | .rem => nz b ∧ K (.int k (a.tmod b))
  | .shl => nn b ∧ K (.int k (k.wrap (a * 2 ^ (min b.toNat k.bits))))
  | .shr => nn b ∧ K (.int k (a.fdiv (2 ^ (min b.toNat k.bits))))
  | op => asSome (intBinA op k a b) K

def wpEqS (E : Env) (t : Nat) (x y : Value) (K : Bool → Prop) : Prop :=
  match und E t with
  | some (.int _) => match x, y with
    | .int k a, .int j b => cond (decide (k = j)) (K (a == b)) False
    | _, _ => False
  | some .bool => match x, y with
    | .bool a, .bool b => K (a == b)
    | _, _ => False
  | _ => False

def wpEqF (E : Env) (xs ys : Array Value) : List Field → (Bool → Prop) → Prop
  | [], K => K true
  | f :: fs, K => match partA E f.type xs f.offset with
    | some u => match partA E f.type ys f.offset with
      | some v => wpEqS E f.type u v fun b => match fs with
        | [] => K b
        | _ :: _ => wpEqF E xs ys fs fun b' => K (b && b')
      | none => False
    | none => False

def isNilLit : Value → Bool
  | .pointer none => true
  | .slice none _ _ => true
  | .map none => true
  | .nilFunc => true
  | _ => false

def asFnNil (v : Value) (K : Bool → Prop) : Prop :=
  match v with
  | .nilFunc => K true
  | .func _ _ _ => K false
  | _ => False

/-- Is a type's nil that? -/
def nilFor (E : Env) (t : Nat) (c v : Value) (K : Bool → Prop) : Prop :=
  match und E t, c with
  | some (.pointer _), .pointer none => match v with
    | .pointer p => K p.isNone
    | _ => False
  | some (.slice _), .slice none _ _ => match v with
    | .slice a _ _ => K a.isNone
    | _ => False
  | some (.map _ _), .map none => match v with
    | .map m => K m.isNone
    | _ => False
  | some (.func _ _ _), .nilFunc => asFnNil v K
  | _, _ => False

def wpNilCmp (E : Env) (op : BinOp) (t : Nat) (c v : Value) (K : Value → Prop) : Prop :=
  nilFor E t c v fun b => match op with
    | .eql => K (.bool b)
    | .neq => K (.bool !b)
    | _ => False

def wpBin (E : Env) (H : Heap) (op : BinOp) (t : Nat) (x y : Value) (K : Value → Prop) : Prop :=
  match x with
  | .int k a => match y with
    | .int j b => bif isShift op then wpInt op k a b K else cond (decide (k = j)) (wpInt op k a b K) False
    | _ => False
  | .bool a => match y with
    | .bool b => match und E t with
      | some .bool => match op with
        | .eql => K (.bool (a == b))
        | .neq => K (.bool !(a == b))
        | _ => False
      | _ => False
    | _ => False
  | .agg xs => match y with
    | .agg ys => bif E.eqOk t then match und E t with
      | some (.struct fields) => wpEqF E xs ys fields.toList fun b => match op with
        | .eql => K (.bool b)
        | .neq => K (.bool !b)
        | _ => False
      | _ => False
      else False
    | _ => False
  | x => asSome (binA E H op t x y) K

def wpPick (c a b : Value) (K : Value → Prop) : Prop :=
  asBool c fun t => cond t (K a) (K b)

/-- From o on n elements of z cells, none of it or a row's. -/
def slK (H : Heap) (a : Option Addr) (n l m : Nat) (K : Value → Prop) : Prop :=
  match a with
  | none => K (.slice none 0 0)
  | some ⟨i, o, none⟩ => (∃ w z c, H.get i = some (.cells w z c) ∧ (z = 0 ∨ z = n)) ∧ K (.slice (some ⟨i, o + l * n, none⟩) m 0)
  | _ => False

def bndHi (len : Nat) (hi : Option Value) (K : Nat → Prop) : Prop :=
  match hi with
  | none => K len
  | some v => asNum v fun n => inS n len ∧ K n.toNat

def bndLo (h : Nat) (lo : Option Value) (K : Nat → Prop) : Prop :=
  match lo with
  | none => K 0
  | some v => asNum v fun n => inS n h ∧ K n.toNat

def wpSlice (E : Env) (H : Heap) (t : Nat) (x : Value) (lo hi mx : Option Value) (K : Value → Prop) : Prop :=
  match mx with
  | some _ => False
  | none => match und E t with
    | some (.slice e) => match sizeA E e with
      | some n => asSlice x fun a len => bndHi len hi fun h => bndLo h lo fun l => slK H a n l (h - l) K
      | none => False
    | some (.array n e) => match sizeA E e, lo, hi with
      | some _, none, none => asAddr x fun i o => (∃ w c, H.get i = some (.cells w 0 c)) ∧ K (.slice (some ⟨i, o, none⟩) n 0)
      | _, _, _ => False
    | _ => False

def wpIndexAddr (E : Env) (t : Nat) (x ix : Value) (K : Value → Prop) : Prop :=
  match und E t with
  | some (.slice el) => match sizeA E el with
    | some s => asSlice x fun a len => asNum ix fun n => inB n len ∧ asRow a fun i o => K (.pointer (some ⟨i, o + n.toNat * s, none⟩))
    | none => False
  | some (.array len el) => match sizeA E el with
    | some s => asAddr x fun i o => asNum ix fun n => inB n len ∧ K (.pointer (some ⟨i, o + n.toNat * s, none⟩))
    | none => False
  | _ => False

def wpFieldAddr (E : Env) (t : Nat) (x : Value) (f : Nat) (K : Value → Prop) : Prop :=
  match und E t with
  | some (.struct fields) => match fields[f]? with
    | some fd => match sizeA E fd.type with
      | some n => bif Nat.beq n 0 then False else asAddr x fun i o => K (.pointer (some ⟨i, o + fd.offset, none⟩))
      | none => False
    | none => False
  | _ => False

/-! Maps -/
def entriesOf (H : Heap) (m : Option Nat) : Option (List MapEntry) :=
  match m with
  | none => some []
  | some i => match H.get i with
    | some (.map es _) => some es
    | _ => none

def mapGet (H : Heap) (kd : TypeDesc) (m : Option Nat) (k : Value) : Option (Option (Nat × Value)) :=
  (entriesOf H m).bind fun es => Instr.findNow kd k es 0

/-- What a look-up gives. -/
def got (r : Option (Nat × Value)) (z v : Value) : Prop :=
  match r with
  | some (_, u) => u = v
  | none => z = v

def wpLookup (E : Env) (H : Heap) (t : Nat) (x k : Value) (ok : Bool) (K : Value → Prop) : Prop :=
  match und E t with
  | some (.map kt e) => match simpleKey E kt with
    | some kd => match zeroV E e with
      | some z => asMap x fun m => ∃ r, mapGet H kd m k = some r ∧ exPart z fun v => got r z v ∧ K (bif ok then .tuple #[v, .bool r.isSome] else v)
      | none => False
    | none => False
  | _ => False

def putMap (es : List MapEntry) (clock : Nat) (r : Option (Nat × Value)) (k v : Value) : Obj :=
  match r with
  | some (j, _) => .map (es.modify j fun e => { e with key := k, val := v }) clock
  | none => .map (es ++ [{ key := k, val := v, born := clock }]) (clock + 1)

def delMap (es : List MapEntry) (clock : Nat) (r : Option (Nat × Value)) : Obj :=
  match r with
  | some (j, _) => .map (es.eraseIdx j) clock
  | none => .map es clock

def upM (H : Heap) (kd : TypeDesc) (m : Option Nat) (k v : Value) (K : Heap → Prop) : Prop :=
  ∃ i es clock r, m = some i ∧ H.get i = some (.map es clock) ∧ Instr.findNow kd k es 0 = some r ∧ K (H.set i (putMap es clock r k v))

def dlM (H : Heap) (kd : TypeDesc) (m : Option Nat) (k : Value) (K : Heap → Prop) : Prop :=
  ∃ i es clock r, m = some i ∧ H.get i = some (.map es clock) ∧ Instr.findNow kd k es 0 = some r ∧ K (H.set i (delMap es clock r))

def wpMapUpdate (E : Env) (H : Heap) (t : Nat) (m k v : Value) (K : Heap → Prop) : Prop :=
  match und E t with
  | some (.map kt _) => match simpleKey E kt with
    | some kd => asMap m fun m => upM H kd m k v K
    | none => False
  | _ => False

def wpDelete (E : Env) (H : Heap) (t : Nat) (m k : Value) (K : Heap → Prop) : Prop :=
  match und E t with
  | some (.map kt _) => match simpleKey E kt with
    | some kd => asMap m fun m => dlM H kd m k K
    | none => False
  | _ => False

def lnM (H : Heap) (m : Option Nat) (K : Int → Prop) : Prop := ∃ es, entriesOf H m = some es ∧ K es.length

def wpLen (E : Env) (H : Heap) (t : Nat) (x : Value) (K : Value → Prop) : Prop :=
  match und E t with
  | some (.slice _) => asSlice x fun _ n => K (.int .i64 n)
  | some .string => match x with
    | .string s => K (.int .i64 s.size)
    | _ => False
  | some (.array n _) => K (.int .i64 n)
  | some (.map _ _) => asMap x fun m => lnM H m fun n => K (.int .i64 n)
  | _ => False

/-! Rows -/
/-- What stands in the first n elements. -/
def rowOf (H : Heap) (es : Nat) (a : Option Addr) (n : Nat) : Option (List Value) := firstCellsA H es n (.slice a n 0)

/-- append of n elements, whose cells are these. -/
def apd (H : Heap) (bytes es : Nat) (a : Option Addr) (len n : Nat) (new : List Value) (K : Option Addr → Nat → Heap → Prop) : Prop :=
  (n = 0 ∧ K a len H) ∨ (0 < n ∧ (
    (a = none ∧ len = 0 ∧ n * bytes ≤ 140737488355328 ∧ K (some ⟨H.next, 0, none⟩) n (H.new (.cells true es new))) ∨
    (∃ i o c, a = some ⟨i, o, none⟩ ∧ H.get i = some (.cells true es c) ∧ (
      (o + (len + n) * es ≤ c.length ∧ ∃ H', storeCellsA H i (o + len * es) new = some H' ∧ K a (len + n) H') ∨
      (c.length < o + (len + n) * es ∧ ∃ old, takeAt c o (len * es) = some old ∧ (len + n) * bytes ≤ 140737488355328 ∧
        K (some ⟨H.next, 0, none⟩) (len + n) ((H.set i .dead).new (.cells true es (old ++ new))))))))

def wpAppend (E : Env) (H : Heap) (argTypes : Array TypeId) (args : List Value) (K : Value → Heap → Prop) : Prop :=
  match argTypes.toList with
  | [st, xt] => bif Nat.beq xt st then match und E st with
    | some (.slice e) => match sizeA E e, zeroCellsA E e, E.ty e with
      | some es, some _, some i => bif Nat.beq es 0 || Nat.beq i.bytes 0 then False else match args with
        | [x, y] => asSlice x fun a len => asSlice y fun b n => ∃ new, rowOf H es b n = some new ∧ apd H i.bytes es a len n new fun a l H' => K (.slice a l 0) H'
        | _ => False
      | _, _, _ => False
    | _ => False
    else False
  | _ => False

def wpCopy (E : Env) (H : Heap) (argTypes : Array TypeId) (args : List Value) (K : Value → Heap → Prop) : Prop :=
  ∃ v H', copyA E H argTypes args = some (v, H') ∧ exOne (.int .i64 0) fun u => v = u ∧ K u H'

def wpBuiltin (E : Env) (H : Heap) (b : Builtin) (argTypes : Array TypeId) (args : List Value) (K : Value → Heap → Prop) : Prop :=
  match b with
  | .append => wpAppend E H argTypes args K
  | .copy => wpCopy E H argTypes args K
  | .len => match argTypes.toList, args with
    | t :: _, x :: _ => wpLen E H t x fun v => K v H
    | _, _ => False
  | .delete => match argTypes.toList, args with
    | t :: _, [m, k] => wpDelete E H t m k fun H' => K undef H'
    | _, _ => False
  | .clear => match argTypes.toList, args with
    | t :: _, [x] => asSome (clearA E H t x) fun H' => K undef H'
    | _, _ => False
  | .max => asSome (maxA args) fun v => K v H
  | .min => asSome (minA args) fun v => K v H
  | _ => False

/-- A map like another one, in memory of its own. -/
def clM (H : Heap) (m : Option Nat) (K : Nat → Heap → Prop) : Prop :=
  ∃ i es clock, m = some i ∧ H.get i = some (.map es clock) ∧ nwH H (.map es clock) K

def wpCallF (E : Env) (t : TypeId) (f : FuncId) (args : List Value) (H : Heap) (K : Value → Heap → Prop) : Prop :=
  match E.fn f with
  | some _ => CA E f args H fun v H' => exLike (zeroOf E t) fun u => v = u ∧ K u H'
  | none => bif E.clone f then match args with
      | [.iface t v] => asMap v fun m => clM H m fun i H' => K (.iface t (.map (some i))) H'
      | _ => False
    else False

def wpCall (E : Env) (e : Operand → Value) (t : TypeId) (c : Call) (H : Heap) (K : Value → Heap → Prop) : Prop :=
  match c.callee with
  | .value (.func f) => wpCallF E t f (c.args.toList.map e) H K
  | .value f => asFn (e f) fun f fs cs => (∃ fn, E.fn f = some fn) ∧ CA E f (fs ++ c.args.toList.map e ++ cs) H fun v H' => exLike (zeroOf E t) fun u => v = u ∧ K u H'
  | .builtin b => wpBuiltin E H b c.argTypes (c.args.toList.map e) K
  | .invoke _ _ => False

def wpMakeSlice (E : Env) (H : Heap) (t : Nat) (len cap : Value) (K : Value → Heap → Prop) : Prop :=
  match und E t with
  | some (.slice e) => match zeroCellsA E e, E.ty e with
    | some z, some i => asNum len fun l => asNum cap fun c =>
      okLen i.bytes l c ∧ bif Nat.ble 1 i.bytes && Nat.ble 1 z.length then nwH H (.cells true z.length (reps c.toNat z)) fun i H' => K (.slice (some ⟨i, 0, none⟩) l.toNat 0) H' else False
    | _, _ => False
  | _ => False

/-- The cells of a slice that is written out, and how many an element has. -/
def cellsBuilt (E : Env) (t len : Nat) (parts : Array (Nat × Value)) : Option (Nat × List Value) :=
  match und E t with
  | some (.slice e) => (zeroCellsA E e).bind fun z =>
    bif partsOk parts && Nat.ble (len * z.length) 16777216 && Nat.ble 1 z.length then
      (Instr.fill (fun i => some (i * z.length, z.length)) ⟨reps len z⟩ parts.toList).bind fun cs =>
        bif cs.toList.all one then some (z.length, cs.toList) else none
    else none
  | _ => none

def wpOp (E : Env) (e : Operand → Value) (o : Oper) (H : Heap) (K : Value → Heap → Prop) : Prop :=
  match o.op with
  | .move x => K (e x) H
  | .assign x => K (e x) H
  | .pick c a b => wpPick (e c) (e a) (e b) fun v => K v H
  | .alloc t => match (zeroV E t).bind cellsOf with
    | some vs => nwH H (.cells true 0 vs) fun i H' => K (.pointer (some ⟨i, 0, none⟩)) H'
    | none => False
  | .box _ x => asCells (e x) fun vs => nwH H (.cells true 0 vs) fun i H' => K (.pointer (some ⟨i, 0, none⟩)) H'
  | .build t parts => asSome (buildV E t ⟨parts.toList.map fun p => (p.1, e p.2)⟩) fun v => K v H
  | .buildSlice t len parts => asSome (cellsBuilt E t len ⟨parts.toList.map fun p => (p.1, e p.2)⟩) fun p => nwH H (.cells true p.1 p.2) fun i H' => K (.slice (some ⟨i, 0, none⟩) len 0) H'
  | .load t a => wpLoad E t (e a) H fun v => K v H
  | .store t a x => wpStore E t (e a) (e x) H fun H' => K undef H'
  | .nilCheck x => match und E o.type with
    | some (.func _ _ _) => asFn (e x) fun f fs cs => K (.func (.func f) ⟨fs⟩ ⟨cs⟩) H
    | _ => asAddr (e x) fun i o => K (.pointer (some ⟨i, o, none⟩)) H
  | .binOp op t x y _ => match y with
    | .const c => bif isNilLit c && plain c then wpNilCmp E op t c (e x) fun v => K v H else wpBin E H op t (e x) (e y) fun v => K v H
    | _ => wpBin E H op t (e x) (e y) fun v => K v H
  | .unOp op _ x => asSome (unA op (e x)) fun v => K v H
  | .convert src dst x => asSome (convertA E src dst (e x)) fun v => K v H
  | .makeInterface t x => match und E t with
    | some (.interface _) => False
    | some _ => K (.iface t (e x)) H
    | none => False
  | .makeFunc (.func f) first captured => K (.func (.func f) ⟨first.toList.map e⟩ ⟨captured.toList.map e⟩) H
  | .makeMap _ none => nwH H (.map [] 0) fun i H' => K (.map (some i)) H'
  | .makeMap t (some r) => match und E t with
    | some (.map _ _) => asNum (e r) fun _ => nwH H (.map [] 0) fun i H' => K (.map (some i)) H'
    | _ => False
  | .makeSlice t l c => wpMakeSlice E H t (e l) (e c) K
  | .slice t x lo hi mx => wpSlice E H t (e x) (lo.map e) (hi.map e) (mx.map e) fun v => K v H
  | .fieldAddr s x f => wpFieldAddr E s (e x) f fun v => K v H
  | .field t x f => match und E t, e x with
    | some (.struct fields), .agg cs => match fields[f]? with
      | some fd => asSome (partA E fd.type cs fd.offset) fun v => K v H
      | none => False
    | _, _ => False
  | .indexAddr t x ix => wpIndexAddr E t (e x) (e ix) fun v => K v H
  | .index t x ix => match und E t with
    | some (.array len el) => match e x, sizeA E el with
      | .agg cs, some s => asNum (e ix) fun n => inB n len ∧ asSome (partA E el cs (n.toNat * s)) fun v => K v H
      | _, _ => False
    | some .string => match e x with
      | .string s => asNum (e ix) fun n => asSome (byteA s n) fun v => exOne (.int .u8 0) fun u => v = u ∧ K u H
      | _ => False
    | _ => False
  | .lookup t x k ok => wpLookup E H t (e x) (e k) ok fun v => K v H
  | .mapUpdate t m k x => wpMapUpdate E H t (e m) (e k) (e x) fun H' => K undef H'
  | .insert t m k x => wpMapUpdate E H t (e m) (e k) (e x) fun H' => K undef H'
  | .typeAssert x _ asserted false => match und E asserted with
    | some (.interface _) => False
    | some _ => match e x with
      | .iface t v => bif Nat.beq t asserted then K v H else False
      | _ => False
    | none => False
  | .extract t ix => match e t with
    | .tuple vs => match vs[ix]? with
      | some v => K v H
      | none => False
    | _ => False
  | .call c => wpCall E e o.type c H K
  | _ => False

/-! ### Regions -/
def wpWant (ops : Array Oper) (xs : Fr) (o : Oper) (yes no : Fr → Prop) : Prop :=
  match o.guard with
  | none => yes xs
  | some (j, want) => match (ops[j]?).bind (·.dst) with
    | none => no xs
    | some d => match xs[d]? with
      | some (.bool b) => bif want then cond b (yes (xs.set d (.bool true))) (no (xs.set d (.bool false))) else cond b (no (xs.set d (.bool true))) (yes (xs.set d (.bool false)))
      | some (.tuple ⟨[]⟩) => no xs
      | none => no xs
      | _ => False

def wpOps (E : Env) (ops : Array Oper) : List Oper → Fr → Heap → (Fr → Heap → Prop) → Prop
  | [], xs, H, Q => Q xs H
  | o :: l, xs, H, Q => wpWant ops xs o
      (fun xs => wpOp E (evL E xs) o H fun v H' => wpOps E ops l (putL xs o.dst v) H' Q)
      (fun xs => wpOps E ops l (putL xs o.dst undef) H Q)

def wpOpD (E : Env) (base i : Nat) (e : Operand → Value) (o : Oper) (H : Heap) (K : Value → Heap → Prop) : Prop :=
  match o.op with
  | .alloc _ => K (.pointer (some ⟨base + i, 0, none⟩)) H
  | _ => wpOp E e o H K

def wpPass (E : Env) (ops : Array Oper) (base : Nat) : List Oper → Nat → Fr → Heap → Nat → List DR → List Heap → (List DR → Fr → List Heap → Heap → Prop) → Prop
  | [], _, xs, H, _, rs, hs, F => F rs xs hs H
  | o :: l, i, xs, H, k, rs, hs, F => wpWant ops xs o
      (fun xs => wpOpD E base i (evL E xs) o H fun v H' =>
        bif isLoudD o.op then wpPass E ops base l (i + 1) (putL xs o.dst v) H' (k + 1) (⟨i, o, true, ofL xs, v, k⟩ :: rs) (hs ++ [H']) F
        else wpPass E ops base l (i + 1) (putL xs o.dst v) H k (⟨i, o, true, ofL xs, v, k⟩ :: rs) hs F)
      (fun xs => wpPass E ops base l (i + 1) (putL xs o.dst undef) H k (⟨i, o, false, ofL xs, undef, k⟩ :: rs) hs F)

def sameP (v w : Value) : Prop :=
  match v, w with
  | .int k a, .int j b => cond (decide (k = j)) (a = b) False
  | .bool a, .bool b => a = b
  | .pointer a, .pointer b => a = b
  | .slice a l c, .slice b m d => a = b ∧ l = m ∧ c = d
  | .map a, .map b => a = b
  | v, w => sameN 8 v w = true

def looksP (E : Env) (base : Nat) (r : DR) (H : Heap) : Prop :=
  match r.o.op with
  | .alloc ty => match (zeroV E ty).bind cellsOf with
    | some vs => ∃ c, H.get (base + r.i) = some (.cells true 0 c) ∧ sameN.sameL 8 vs c = true
    | none => False
  | _ => wpOp E (ev E r.T) r.o H fun v _ => sameP r.v v

def checkP (E : Env) (base : Nat) (r : DR) (hs : List Heap) : Nat → Nat → Prop
  | _, 0 => True
  | k, n + 1 => (match hs[k]? with
    | some H => looksP E base r H
    | none => False) ∧ checkP E base r hs (k + 1) n

def quietP (E : Env) (base : Nat) (ss : List Bool) (ms : List Nat) (all : List DR) (hs : List Heap) (m : Nat) : List DR → Prop
  | [] => True
  | r :: l => bif (!r.w || isLoudD r.o.op || isPure r.o.op || (ss.getD r.i false && !isAllocOp r.o.op)) then quietP E base ss ms all hs m l
    else (let lo := countLoud (fun q => (ms.getD r.i 0).testBit q.i) all
          let hi := m - countLoud (fun q => (ms.getD q.i 0).testBit r.i) all
          checkP E base r hs lo (hi + 1 - lo)) ∧ quietP E base ss ms all hs m l

/-- The new variables of such a region, laid ahead. -/
def preH (E : Env) (base : Nat) : List Oper → Nat → Heap → Option Heap
  | [], _, H => some H
  | o :: l, i, H => match o.op with
    | .alloc ty => match (zeroV E ty).bind cellsOf with
      | some vs => preH E base l (i + 1) (H.set (base + i) (.cells true 0 vs))
      | none => none
    | _ => preH E base l (i + 1) H

def wpDraw (E : Env) (ops : Array Oper) (xs : Fr) (H : Heap) (Q : Fr → Heap → Prop) : Prop :=
  bif staticOk ops then
    match preH E H.next ops.toList 0 (H.bump ops.size) with
    | none => False
    | some H0 => wpPass E ops H.next ops.toList 0 xs H0 0 [] [H0] fun rs xs' hs H' =>
        Q xs' H' ∧ quietP E H.next (stricts ops (masksFrom ops.toList [])) (masksFrom ops.toList []) rs hs (hs.length - 1) rs
  else False

/-! ### Code -/
def writesOps (l : List Oper) (ds : List Nat) : List Nat :=
  match l with
  | [] => ds
  | o :: l => match o.dst with
    | some d => writesOps l (bif ds.any (Nat.beq d) then ds else ds ++ [d])
    | none => writesOps l ds

/-- The slots that are written, each once, and those that a test settles. -/
def writesIn : Code → List Nat → List Nat
  | .region _ ops _, ds => writesOps ops.toList ds
  | .seq a b, ds => writesIn b (writesIn a ds)
  | .cond _ a b, ds => writesIn b (writesIn a ds)
  | .block _ b, ds => writesIn b ds
  | .loop b, ds => writesIn b ds
  | .scope b, ds => writesIn b ds
  | _, ds => ds

def writes (c : Code) : List Nat := writesIn c []

/-- How it may end but for the end of the text. -/
def exitsIn : Code → List X → List X
  | .seq a b, es => exitsIn b (exitsIn a es)
  | .cond _ a b, es => exitsIn b (exitsIn a es)
  | .block id b, es => es ++ (exitsIn b []).filter fun x => match x with
    | .exit j => !(Nat.beq j id)
    | _ => true
  | .loop b, es => exitsIn b es
  | .scope b, es => exitsIn b es
  | .exit id, es => bif es.any (fun x => match x with | .exit j => Nat.beq j id | _ => false) then es else es ++ [.exit id]
  | .ret, es => bif es.any (fun x => match x with | .ret => true | _ => false) then es else es ++ [.ret]
  | _, es => es

def asSl (v : Value) (K : Option Addr → Nat → Prop) : Prop :=
  match v with
  | .slice a l c => cond (Nat.beq c 0) (K a l) False
  | _ => False

def asPtr (v : Value) (K : Option Addr → Prop) : Prop :=
  match v with
  | .pointer p => K p
  | _ => False

/-- Values of the sort of those given; what is not set yet may be any. -/
def asLike0 (z v : Value) (K : Value → Prop) : Prop :=
  match z with
  | .int k _ => asInt k v fun n => K (.int k n)
  | .bool _ => asBool v fun b => K (.bool b)
  | .slice _ _ _ => asSl v fun a l => K (.slice a l 0)
  | .pointer _ => asPtr v fun p => K (.pointer p)
  | .map _ => asMap v fun m => K (.map m)
  | _ => K v

def asLikes : List Value → List Value → (List Value → Prop) → Prop
  | [], [], K => K []
  | z :: zs, v :: vs, K => asLike0 z v fun u => asLikes zs vs fun l => K (u :: l)
  | _, _, _ => False

def asAgg (v : Value) (K : List Value → Prop) : Prop :=
  match v with
  | .agg cs => K cs.toList
  | _ => False

def asLike (z v : Value) (K : Value → Prop) : Prop :=
  match z with
  | .agg cs => asAgg v fun l => asLikes cs.toList l fun l => K (.agg ⟨l⟩)
  | z => asLike0 z v K

/-- A loop, and what is to hold at each of its ends, of the slots that it writes. -/
def LA (E : Env) (b : Code) (xs : Fr) (H : Heap) (Ks : List (X × (Fr → Heap → Prop))) : Prop :=
  WA E (.loop b) (ofL xs) H fun x T H' => ∃ xs', T = ofL xs' ∧ xs'.length = xs.length ∧ (∀ k, k ∉ writes b → xs'[k]? = xs[k]?) ∧ ∃ p ∈ Ks, p.1 = x ∧ p.2 xs' H'

/-- Sorts of slots. -/
abbrev Sorts := List (Nat × Value)

def sortOf : Sorts → Nat → Value
  | [], _ => undef
  | (k, v) :: l, w => bif Nat.beq k w then v else sortOf l w

/-- Takes the named places of a list out, one by one. -/
def outOf (Z : Sorts) : List Nat → Fr → (Fr → Prop) → Fr → Prop
  | [], acc, K, _ => K acc
  | w :: ws, acc, K, xs => asLike (sortOf Z w) (xs.getD w undef) fun v => outOf Z ws (acc.set w v) K xs

def loopsN : Code → Nat
  | .seq a b => loopsN a + loopsN b
  | .cond _ a b => loopsN a + loopsN b
  | .block _ b => loopsN b
  | .loop b => loopsN b + 1
  | .scope b => loopsN b
  | _ => 0

/-- Z: for each loop, in the text's order, of which sorts the slots are that are used behind it. -/
def wpCode (E : Env) : Code → List Sorts → Fr → Heap → (X → Fr → Heap → Prop) → Prop
  | .skip, _, xs, H, Q => Q .normal xs H
  | .label _, _, xs, H, Q => Q .normal xs H
  | .region _ ops d, _, xs, H, Q => bif d then wpDraw E ops xs H (Q .normal) else wpOps E ops ops.toList xs H (Q .normal)
  | .seq a b, Z, xs, H, Q => wpCode E a Z xs H fun x xs H => match x with
    | .normal => wpCode E b (Z.drop (loopsN a)) xs H Q
    | .exit id => Q (.exit id) xs H
    | .ret => Q .ret xs H
  | .cond c a b, Z, xs, H, Q => match c with
    | .tmp t => asBool (xs.getD t undef) fun v => cond v (wpCode E a Z (xs.set t (.bool true)) H Q) (wpCode E b (Z.drop (loopsN a)) (xs.set t (.bool false)) H Q)
    | c => asBool (evL E xs c) fun v => cond v (wpCode E a Z xs H Q) (wpCode E b (Z.drop (loopsN a)) xs H Q)
  | .block id b, Z, xs, H, Q => wpCode E b Z xs H fun x xs H => match x with
    | .normal => Q .normal xs H
    | .exit j => bif Nat.beq j id then Q .normal xs H else Q (.exit j) xs H
    | .ret => Q .ret xs H
  | .loop b, Z, xs, H, Q => LA E b xs H ((exitsIn b []).map fun x => (x, fun xs' H' => outOf (Z.headD []) (writes b) xs (fun xs'' => Q x xs'' H') xs'))
  | .exit id, _, xs, H, Q => Q (.exit id) xs H
  | .ret, _, xs, H, Q => Q .ret xs H
  | .scope b, Z, xs, H, Q => wpCode E b Z xs H Q
  | _, _, _, _, _ => False

/-- The bodies of the loops of a text, in order. -/
def loopsIn : Code → List Code
  | .seq a b => loopsIn a ++ loopsIn b
  | .cond _ a b => loopsIn a ++ loopsIn b
  | .block _ b => loopsIn b
  | .loop b => b :: loopsIn b
  | .scope b => loopsIn b
  | _ => []

def loopAt (f : Func) (k : Nat) : Code :=
  match f.body with
  | some c => (loopsIn c).getD k .skip
  | none => .skip

def resOfL (E : Env) (xs : Fr) (H : Heap) : List ResultVar → (List Value → Prop) → Prop
  | [], K => K []
  | .tmp t :: l, K => resOfL E xs H l fun vs => K (xs.getD t undef :: vs)
  | .cell a t :: l, K => wpLoad E t (xs.getD a undef) H fun v => resOfL E xs H l fun vs => K (v :: vs)

def backL (E : Env) (fn : Func) (R : Value → Heap → Prop) (x : X) (xs : Fr) (H : Heap) : Prop :=
  match x with
  | .normal => resOfL E xs H fn.results.toList fun vs => R (resultOf vs) H
  | .ret => resOfL E xs H fn.results.toList fun vs => R (resultOf vs) H
  | .exit _ => False

/-- A call's frame at its beginning. -/
def fr0 (n : Nat) (args : List Value) : Fr := args ++ List.replicate (n - args.length) undef

def wpFn (E : Env) (Z : List Sorts) (fn : Func) (args : List Value) (H : Heap) (R : Value → Heap → Prop) : Prop :=
  match fn.body with
  | some c => bif Nat.ble args.length fn.ntmps then wpCode E c Z (fr0 fn.ntmps args) H (backL E fn R) else False
  | none => False
end
end Go.AS
