/-
  A plain machine for the program's functions: the definitions. Memory is a list of numbered blocks, nothing is drawn. What it answers is shown in As2 to As5 to be what the model answers, on every tape and in whatever memory.
-/
import Derived.Tactics
import Derived.Orders
import Derived.LoopN
import Derived.Scope
import Derived.Below
namespace Go.AS

/-! ### Trees by numbers -/
inductive Tr (α : Type) where
  | nil
  | node (v : Option α) (l r : Tr α)

/- By the recursors themselves: the kernel runs these far faster. -/
noncomputable def Tr.get {α : Type} (t : Tr α) : Nat → Option α :=
  Tr.rec (motive := fun _ => Nat → Option α) (fun _ => none)
    (fun v _ _ il ir n => Nat.rec (motive := fun _ => Option α) v (fun m _ => bif Nat.beq (Nat.mod m 2) 0 then il (Nat.div m 2) else ir (Nat.div m 2)) n) t

noncomputable def Tr.one {α : Type} (v : α) (f : Nat) : Nat → Tr α :=
  Nat.rec (motive := fun _ => Nat → Tr α) (fun _ => .node (some v) .nil .nil)
    (fun _ ih n => Nat.rec (motive := fun _ => Tr α) (.node (some v) .nil .nil) (fun m _ => bif Nat.beq (Nat.mod m 2) 0 then .node none (ih (Nat.div m 2)) .nil else .node none .nil (ih (Nat.div m 2))) n) f

noncomputable def Tr.put {α : Type} (t : Tr α) : Nat → α → Tr α :=
  Tr.rec (motive := fun _ => Nat → α → Tr α) (fun n v => Tr.one v n n)
    (fun o l r il ir n v => Nat.rec (motive := fun _ => Tr α) (.node (some v) l r) (fun m _ => bif Nat.beq (Nat.mod m 2) 0 then .node o (il (Nat.div m 2) v) r else .node o l (ir (Nat.div m 2) v)) n) t

noncomputable def Tr.upd {α : Type} (t : Tr α) : Nat → α → Tr α :=
  Tr.rec (motive := fun _ => Nat → α → Tr α) (fun _ _ => .nil)
    (fun o l r il ir n v => Nat.rec (motive := fun _ => Tr α) (.node (Option.rec none (fun _ => some v) o) l r) (fun m _ => bif Nat.beq (Nat.mod m 2) 0 then .node o (il (Nat.div m 2) v) r else .node o l (ir (Nat.div m 2) v)) n) t

/-- All numbers below n hold v. -/
noncomputable def Tr.fill {α : Type} (v : α) (f : Nat) : Nat → Tr α :=
  Nat.rec (motive := fun _ => Nat → Tr α) (fun _ => .nil)
    (fun _ ih n => Nat.rec (motive := fun _ => Tr α) .nil (fun m _ => .node (some v) (ih (Nat.div (m + 1) 2)) (ih (Nat.div m 2))) n) f

noncomputable def Tr.ofListFrom {α : Type} (l : List α) : Nat → Tr α → Tr α :=
  List.rec (motive := fun _ => Nat → Tr α → Tr α) (fun _ t => t) (fun x _ ih n t => ih (n + 1) (t.put n x)) l

noncomputable def Tr.updsFrom {α : Type} (l : List α) : Nat → Tr α → Tr α :=
  List.rec (motive := fun _ => Nat → Tr α → Tr α) (fun _ t => t) (fun x _ ih n t => ih (n + 1) (t.upd n x)) l

section
variable {α : Type}
theorem Tr.get_nil (n : Nat) : (Tr.nil : Tr α).get n = none := rfl
theorem Tr.get_zero (v : Option α) (l r : Tr α) : (Tr.node v l r).get 0 = v := rfl
theorem Tr.get_succ (v : Option α) (l r : Tr α) (m : Nat) : (Tr.node v l r).get (m + 1) = bif Nat.beq (Nat.mod m 2) 0 then l.get (Nat.div m 2) else r.get (Nat.div m 2) := rfl
theorem Tr.one_z (v : α) (n : Nat) : Tr.one v 0 n = .node (some v) .nil .nil := rfl
theorem Tr.one_zero (v : α) (f : Nat) : Tr.one v (f + 1) 0 = .node (some v) .nil .nil := rfl
theorem Tr.one_succ (v : α) (f m : Nat) : Tr.one v (f + 1) (m + 1) = bif Nat.beq (Nat.mod m 2) 0 then .node none (Tr.one v f (Nat.div m 2)) .nil else .node none .nil (Tr.one v f (Nat.div m 2)) := rfl
theorem Tr.put_nil (n : Nat) (v : α) : (Tr.nil : Tr α).put n v = Tr.one v n n := rfl
theorem Tr.put_zero (o : Option α) (l r : Tr α) (v : α) : (Tr.node o l r).put 0 v = .node (some v) l r := rfl
theorem Tr.put_succ (o : Option α) (l r : Tr α) (m : Nat) (v : α) : (Tr.node o l r).put (m + 1) v = bif Nat.beq (Nat.mod m 2) 0 then .node o (l.put (Nat.div m 2) v) r else .node o l (r.put (Nat.div m 2) v) := rfl
theorem Tr.upd_nil (n : Nat) (v : α) : (Tr.nil : Tr α).upd n v = .nil := rfl
theorem Tr.upd_zero (o : Option α) (l r : Tr α) (v : α) : (Tr.node o l r).upd 0 v = .node (o.map fun _ => v) l r := by cases o <;> rfl
theorem Tr.upd_succ (o : Option α) (l r : Tr α) (m : Nat) (v : α) : (Tr.node o l r).upd (m + 1) v = bif Nat.beq (Nat.mod m 2) 0 then .node o (l.upd (Nat.div m 2) v) r else .node o l (r.upd (Nat.div m 2) v) := rfl
theorem Tr.fill_z (v : α) (n : Nat) : Tr.fill v 0 n = .nil := rfl
theorem Tr.fill_zero (v : α) (f : Nat) : Tr.fill v (f + 1) 0 = .nil := rfl
theorem Tr.fill_succ (v : α) (f m : Nat) : Tr.fill v (f + 1) (m + 1) = .node (some v) (Tr.fill v f (Nat.div (m + 1) 2)) (Tr.fill v f (Nat.div m 2)) := rfl
theorem Tr.ofListFrom_nil (n : Nat) (t : Tr α) : Tr.ofListFrom [] n t = t := rfl
theorem Tr.ofListFrom_cons (x : α) (l : List α) (n : Nat) (t : Tr α) : Tr.ofListFrom (x :: l) n t = Tr.ofListFrom l (n + 1) (t.put n x) := rfl
theorem Tr.updsFrom_nil (n : Nat) (t : Tr α) : Tr.updsFrom [] n t = t := rfl
theorem Tr.updsFrom_cons (x : α) (l : List α) (n : Nat) (t : Tr α) : Tr.updsFrom (x :: l) n t = Tr.updsFrom l (n + 1) (t.upd n x) := rfl
end

noncomputable section

/-! ### Memory -/
inductive Obj where
  /-- own: it may be written. esz: how many cells an element has, of what may grow; 0: it does not grow. -/
  | cells (own : Bool) (esz : Nat) (c : List Value)
  | map (es : List MapEntry) (clock : Nat)
  | dead

structure Heap where
  tr : Tr Obj
  next : Nat

def Heap.get (H : Heap) (i : Nat) : Option Obj := H.tr.get i
def Heap.set (H : Heap) (i : Nat) (o : Obj) : Heap := ⟨H.tr.put i o, H.next⟩
def Heap.new (H : Heap) (o : Obj) : Heap := ⟨H.tr.put H.next o, H.next + 1⟩

structure Env where
  prog : Program
  ty : Nat → Option TypeInfo
  fn : Nat → Option Func
  /-- structs whose values may be held against each other field by field -/
  eqOk : Nat → Bool
  clone : Nat → Bool
  /-- functions without parameters of which it is known that they return true -/
  truth : Nat → Bool
  ng : Nat
  /-- slices whose row stays to be read when 256 elements grow by an append (nothing writes there from then on) -/
  frz : Nat → Bool := fun _ => false

/-- A value of which nothing is known. -/
def anyv : Value := .chan (some 0)

def plainN : Nat → Value → Bool
  | 0, _ => false
  | d + 1, v => match v with
    | .bool _ | .int _ _ | .string _ | .float _ _ | .complex _ _ _ | .nilFunc | .nilIface | .pointer none | .slice none 0 0 | .map none => true
    | .func (.func _) ⟨[]⟩ ⟨[]⟩ => true
    | .agg cs => cs.toList.all (plainN d)
    | .tuple cs => cs.toList.all (plainN d)
    | _ => false

def plain (v : Value) : Bool := plainN 6 v

def ev (E : Env) (T : Tr Value) : Operand → Value
  | .tmp t => (T.get t).getD undef
  | .const v => bif plain v then v else anyv
  | .global g => bif Nat.ble (g + 1) E.ng then .pointer (some ⟨g, 0, none⟩) else anyv
  | .func f => .func (.func f) #[] #[]

def und (E : Env) (t : Nat) : Option TypeDesc :=
  match E.ty t with
  | some i => match i.desc with
    | .named _ u => (E.ty u).map (·.desc)
    | d => some d
  | none => none

def isAggA (E : Env) (t : Nat) : Option Bool :=
  match und E t with
  | some (.struct _) => some true
  | some (.array _ _) => some true
  | some _ => some false
  | none => none

def sizeA (E : Env) (t : Nat) : Option Nat := (E.ty t).map (·.size)

/-- n cells from the o-th one on. -/
def takeAt (c : List Value) (o n : Nat) : Option (List Value) :=
  if o + n ≤ c.length then some ((c.drop o).take n) else none

def setAt : List Value → Nat → List Value → List Value
  | c, _, [] => c
  | c, o, v :: vs => setAt (c.set o v) (o + 1) vs

def loadV (E : Env) (H : Heap) (t : Nat) (a : Value) : Option Value :=
  match a with
  | .pointer (some ⟨i, o, none⟩) => match H.get i with
    | some (.cells _ _ c) => match isAggA E t with
      | some true => (sizeA E t).bind fun n => if n = 0 then none else (takeAt c o n).map fun l => .agg ⟨l⟩
      | some false => c[o]?
      | none => none
    | _ => none
  | _ => none

/-- The cells that a value fills; none: it is no value of cells. -/
def one : Value → Bool
  | .agg _ | .tuple _ | .chan _ => false
  | _ => true

def cellsOf (v : Value) : Option (List Value) :=
  match v with
  | .agg cs => bif cs.toList.all one then some cs.toList else none
  | .tuple _ => none
  | .chan _ => none
  | v => some [v]

def storeCellsA (H : Heap) (i o : Nat) (vs : List Value) : Option Heap :=
  match H.get i with
  | some (.cells true z c) => if o + vs.length ≤ c.length then some (H.set i (.cells true z (setAt c o vs))) else none
  | _ => none

def storeV (E : Env) (H : Heap) (t : Nat) (a v : Value) : Option Heap :=
  match a with
  | .pointer (some ⟨i, o, none⟩) =>
    (cellsOf v).bind fun vs => (sizeA E t).bind fun n =>
      if vs.length = n then storeCellsA H i o vs else none
  | _ => none

def asI : Value → Option (IntKind × Int)
  | .int k n => some (k, n)
  | _ => none

def newVal (H : Heap) (v : Value) : Option (Value × Heap) :=
  (cellsOf v).map fun vs => (.pointer (some ⟨H.next, 0, none⟩), H.new (.cells true 0 vs))

def zeroV (E : Env) (t : Nat) : Option Value :=
  match E.ty t with
  | some i => match i.zero with
    | some z => bif plain z then some z else none
    | none => none
  | none => none

def noTop : Value → Bool
  | .chan _ => false
  | .tuple _ => false
  | _ => true

def partsOk (ps : Array (Nat × Value)) : Bool := ps.toList.all fun p => noTop p.2

def buildV (E : Env) (t : Nat) (parts : Array (Nat × Value)) : Option Value :=
  (zeroV E t).bind fun z => bif partsOk parts && noTop z then
    match und E t with
    | some (.struct fields) =>
      (fields.toList.mapM fun f => (sizeA E f.type).map fun n => (f.offset, n)).bind fun places =>
        (Instr.fill (places[·]?) z.cells parts.toList).map .agg
    | some (.array _ e) =>
      (sizeA E e).bind fun n => (Instr.fill (fun i => some (i * n, n)) z.cells parts.toList).map .agg
    | _ => none
  else none

def zeroCellsA (E : Env) (e : Nat) : Option (List Value) :=
  (zeroV E e).bind fun z => (cellsOf z).bind fun l => (sizeA E e).bind fun n => if l.length = n then some l else none

def reps (n : Nat) (z : List Value) : List Value :=
  match n with
  | 0 => []
  | m + 1 => z ++ reps m z

def newRowA (H : Heap) (esz len : Nat) (c : List Value) : Value × Heap :=
  (.slice (some ⟨H.next, 0, none⟩) len 0, H.new (.cells true esz c))

def buildSliceA (E : Env) (H : Heap) (t len : Nat) (parts : Array (Nat × Value)) : Option (Value × Heap) :=
  match und E t with
  | some (.slice e) => (zeroCellsA E e).bind fun z =>
    bif partsOk parts && Nat.ble (len * z.length) 16777216 && Nat.ble 1 z.length then
      (Instr.fill (fun i => some (i * z.length, z.length)) ⟨reps len z⟩ parts.toList).bind fun cs =>
        if cs.toList.all one then some (newRowA H z.length len cs.toList) else none
    else none
  | _ => none

def makeSliceA (E : Env) (H : Heap) (t : Nat) (len cap : Value) : Option (Value × Heap) :=
  match und E t, len, cap with
  | some (.slice e), .int _ l, .int _ c => (zeroCellsA E e).bind fun z => (E.ty e).bind fun i =>
    if 0 ≤ l ∧ l ≤ c ∧ i.bytes * c.toNat ≤ 140737488355328 ∧ 1 ≤ i.bytes ∧ 1 ≤ z.length then some (newRowA H z.length l.toNat (reps c.toNat z)) else none
  | _, _, _ => none

def boundA (lo : Nat) (d : Nat) (hi : Nat) : Option Value → Option Nat
  | none => if lo ≤ d ∧ d ≤ hi then some d else none
  | some (.int _ n) => if lo ≤ n ∧ n ≤ hi then some n.toNat else none
  | _ => none

def sliceA (E : Env) (H : Heap) (t : Nat) (x : Value) (lo hi mx : Option Value) : Option Value :=
  match mx with
  | some _ => none
  | none => match und E t, x with
    | some (.slice e), .slice a len _ =>
      (sizeA E e).bind fun n => (boundA 0 len len hi).bind fun h => (boundA 0 0 h lo).bind fun l =>
        match a with
        | none => some (.slice none 0 0)
        | some ⟨i, o, none⟩ => match H.get i with
          | some (.cells _ z _) => if z = 0 ∨ z = n then some (.slice (some ⟨i, o + l * n, none⟩) (h - l) 0) else none
          | _ => none
        | _ => none
    | some (.array n e), .pointer (some ⟨i, o, none⟩) =>
      -- a whole array alone
      match lo, hi, H.get i with
      | none, none, some (.cells _ 0 _) => (sizeA E e).bind fun _ => some (.slice (some ⟨i, o, none⟩) n 0)
      | _, _, _ => none
    | _, _ => none

def lenOfA : Value → Option Nat
  | .slice _ n _ => some n
  | .string s => some s.size
  | _ => none

def firstCellsA (H : Heap) (es n : Nat) : Value → Option (List Value)
  | .slice (some ⟨i, o, none⟩) _ _ => if n * es = 0 then some [] else match H.get i with
    | some (.cells _ _ c) => takeAt c o (n * es)
    | _ => none
  | .slice none _ _ => if n = 0 then some [] else none
  | _ => none

def growsA (E : Env) (H : Heap) (e es need : Nat) (old new : List Value) : Option (Value × Heap) :=
  (E.ty e).bind fun i => (zeroCellsA E e).bind fun _ =>
    if need * i.bytes ≤ 140737488355328 ∧ 1 ≤ i.bytes then some (newRowA H es need (old ++ new)) else none

def growsF (E : Env) (H : Heap) (e es need : Nat) (old new : List Value) : Option (Value × Heap) :=
  (E.ty e).bind fun i => (zeroCellsA E e).bind fun _ =>
    if need * i.bytes ≤ 140737488355328 ∧ 1 ≤ i.bytes then some (.slice (some ⟨H.next, 0, none⟩) need 0, H.new (.cells false es (old ++ new))) else none

def appendA (E : Env) (H : Heap) (argTypes : Array TypeId) (args : List Value) : Option (Value × Heap) :=
  match argTypes.toList, args with
  | [st, xt], [.slice base len _, x] => if xt = st then match und E st with
    | some (.slice e) => (sizeA E e).bind fun es => (lenOfA x).bind fun n => (firstCellsA H es n x).bind fun new =>
        bif Nat.beq es 0 then none else
        if n = 0 then some (.slice base len 0, H) else
        match base with
        | none => if len = 0 then growsA E H e es n [] new else none
        | some ⟨i, o, none⟩ => match H.get i with
          | some (.cells true z c) =>
            if z = es then
              if o + (len + n) * es ≤ c.length then (storeCellsA H i (o + len * es) new).map fun H' => (.slice base (len + n) 0, H')
              else (takeAt c o (len * es)).bind fun old =>
                bif E.frz st && Nat.beq len 256 then growsF E (H.set i (.cells false es (c.take (o + len * es)))) e es (len + n) old new
                else growsA E (H.set i .dead) e es (len + n) old new
            else none
          | _ => none
        | _ => none
    | _ => none
    else none
  | _, _ => none

def copyA (E : Env) (H : Heap) (argTypes : Array TypeId) (args : List Value) : Option (Value × Heap) :=
  match argTypes.toList, args with
  | st :: _, [.slice base len _, x] => match und E st with
    | some (.slice e) => (sizeA E e).bind fun es => (lenOfA x).bind fun n =>
      (firstCellsA H es (Nat.min n len) x).bind fun new =>
      match base with
      | none => some (goInt (Nat.min n len), H)
      | some ⟨i, o, none⟩ => (storeCellsA H i o new).map fun H' => (goInt (Nat.min n len), H')
      | _ => none
    | _ => none
  | _, _ => none

/-! ### Maps -/
def simpleKey (E : Env) (t : Nat) : Option TypeDesc :=
  match und E t with
  | some (.int k) => some (.int k)
  | some .bool => some .bool
  | _ => none

def lookupA (E : Env) (H : Heap) (t : Nat) (m k : Value) (ok : Bool) : Option Value :=
  match und E t with
  | some (.map kt e) => (simpleKey E kt).bind fun kd => (zeroV E e).bind fun z =>
    (match m with
     | .map none => some []
     | .map (some i) => match H.get i with
       | some (.map es _) => some es
       | _ => none
     | _ => none).bind fun es =>
      (Instr.findNow kd k es 0).bind fun r =>
        let p : Value × Bool := match r with
          | some (_, v) => (v, true)
          | none => (z, false)
        some (bif ok then .tuple #[p.1, .bool p.2] else p.1)
  | _ => none

def mapUpdateA (E : Env) (H : Heap) (t : Nat) (m k v : Value) : Option Heap :=
  match und E t, m with
  | some (.map kt _), .map (some i) => (simpleKey E kt).bind fun kd =>
    match H.get i with
    | some (.map es clock) => (Instr.findNow kd k es 0).map fun r =>
      match r with
      | some (j, _) => H.set i (.map (es.modify j fun e => { e with key := k, val := v }) clock)
      | none => H.set i (.map (es ++ [{ key := k, val := v, born := clock }]) (clock + 1))
    | _ => none
  | _, _ => none

def deleteA (E : Env) (H : Heap) (t : Nat) (m k : Value) : Option Heap :=
  match und E t, m with
  | some (.map kt _), .map (some i) => (simpleKey E kt).bind fun kd =>
    match H.get i with
    | some (.map es clock) => (Instr.findNow kd k es 0).map fun r =>
      match r with
      | some (j, _) => H.set i (.map (es.eraseIdx j) clock)
      | none => H.set i (.map es clock)
    | _ => none
  | _, _ => none

def clearA (E : Env) (H : Heap) (t : Nat) (x : Value) : Option Heap :=
  match und E t, x with
  | some (.map _ _), .map (some i) => match H.get i with
    | some (.map _ clock) => some (H.set i (.map [] clock))
    | _ => none
  | some (.slice _), .slice _ 0 _ => some H
  | some (.slice e), .slice (some ⟨i, o, none⟩) n _ => (zeroCellsA E e).bind fun z => if 1 ≤ z.length then storeCellsA H i o (reps n z) else none
  | _, _ => none

def lenA (E : Env) (H : Heap) (t : Nat) (x : Value) : Option Value :=
  match und E t, x with
  | some (.slice _), .slice _ n _ => some (goInt n)
  | some .string, .string s => some (goInt s.size)
  | some (.array n _), _ => some (goInt n)
  | some (.map _ _), .map none => some (goInt 0)
  | some (.map _ _), .map (some i) => match H.get i with
    | some (.map es _) => some (goInt es.length)
    | _ => none
  | _, _ => none

/-! ### Numbers -/
def intBinA (op : BinOp) (k : IntKind) (a b : Int) : Option Value :=
  match op with
  | .add => some (.int k (k.wrap (a + b)))
  | .sub => some (.int k (k.wrap (a - b)))
  | .mul => some (.int k (k.wrap (a * b)))
  | .quo => if b = 0 then none else some (.int k (k.wrap (a.tdiv b)))
  | .rem => if b = 0 then none else some (.int k (a.tmod b))
  | .and => some (.int k (k.wrap (BitVec.ofInt k.bits a &&& BitVec.ofInt k.bits b).toNat))
  | .or => some (.int k (k.wrap (BitVec.ofInt k.bits a ||| BitVec.ofInt k.bits b).toNat))
  | .xor => some (.int k (k.wrap (BitVec.ofInt k.bits a ^^^ BitVec.ofInt k.bits b).toNat))
  | .andNot => some (.int k (k.wrap (BitVec.ofInt k.bits a &&& ~~~(BitVec.ofInt k.bits b)).toNat))
  | .eql => some (.bool (a == b))
  | .neq => some (.bool (a != b))
  | .lss => some (.bool (a < b))
  | .leq => some (.bool (a ≤ b))
  | .gtr => some (.bool (a > b))
  | .geq => some (.bool (a ≥ b))
  | _ => none

def shiftA (op : BinOp) (k : IntKind) (a b : Int) : Option Value :=
  if b < 0 then none else
  match op with
  | .shl => some (.int k (k.wrap (a * 2 ^ (min b.toNat k.bits))))
  | .shr => some (.int k (a.fdiv (2 ^ (min b.toNat k.bits))))
  | _ => none

def isShift : BinOp → Bool
  | .shl | .shr => true
  | _ => false

def ownAt (H : Heap) (a : Addr) : Bool :=
  a.spot.isNone && match H.get a.block with
    | some (.cells true _ _) => true
    | _ => false

def partA (E : Env) (t : Nat) (cs : Array Value) (o : Nat) : Option Value :=
  match isAggA E t with
  | some true => (sizeA E t).map fun n => .agg (cs.extract o (o + n))
  | some false => cs[o]?
  | none => none

def eqFieldsA (E : Env) (eq : Nat → Value → Value → Option Bool) (xs ys : Array Value) : List Field → Option Bool
  | [] => some true
  | f :: fs => (partA E f.type xs f.offset).bind fun u => (partA E f.type ys f.offset).bind fun v => (eq f.type u v).bind fun b =>
    bif b then eqFieldsA E eq xs ys fs else some false

/-- Are two values the same? -/
def eqA (E : Env) (H : Heap) : Nat → Nat → Value → Value → Option Bool
  | 0, _, _, _ => none
  | d + 1, t, x, y =>
    match und E t, x, y with
    | some .bool, .bool a, .bool b => some (a == b)
    | some (.int _), .int k a, .int k' b => if k = k' then some (a == b) else none
    | some (.pointer _), .pointer none, .pointer b => some b.isNone
    | some (.pointer _), .pointer _, .pointer none => some false
    | some (.pointer e), .pointer (some a), .pointer (some b) =>
      (sizeA E e).bind fun n => if n ≠ 0 ∧ ownAt H a ∧ ownAt H b then some (a == b) else none
    | some (.slice _), .slice none _ _, .slice b _ _ => some b.isNone
    | some (.slice _), .slice _ _ _, .slice none _ _ => some false
    | some (.map _ _), .map none, .map b => some b.isNone
    | some (.map _ _), .map _, .map none => some false
    | some (.func _ _ _), .nilFunc, .nilFunc => some true
    | some (.func _ _ _), .nilFunc, .func _ _ _ => some false
    | some (.func _ _ _), .func _ _ _, .nilFunc => some false
    | some (.struct fields), .agg xs, .agg ys =>
      bif E.eqOk t then
        eqFieldsA E (eqA E H d) xs ys fields.toList
      else none
    | _, _, _ => none

def eqKind : Value → Bool
  | .bool _ | .pointer _ | .slice _ _ _ | .map _ | .func _ _ _ | .nilFunc => true
  | _ => false

def binA (E : Env) (H : Heap) (op : BinOp) (t : Nat) (x y : Value) : Option Value :=
  match x, y with
  | .int k a, .int k' b => bif isShift op then shiftA op k a b else if k = k' then intBinA op k a b else none
  | .agg xs, .agg ys => match op with
    | .eql => bif E.eqOk t then (eqA E H 4 t (.agg xs) (.agg ys)).map .bool else none
    | .neq => bif E.eqOk t then (eqA E H 4 t (.agg xs) (.agg ys)).map fun b => .bool !b else none
    | _ => none
  | x, y => bif eqKind x then
    match op with
    | .eql => (eqA E H 4 t x y).map .bool
    | .neq => (eqA E H 4 t x y).map fun b => .bool !b
    | _ => none
    else none

def unA (op : UnOp) (x : Value) : Option Value :=
  match op, x with
  | .neg, .int k n => some (.int k (k.wrap (0 - n)))
  | .xor, .int k n => some (.int k (k.wrap (BitVec.ofInt k.bits (if k.signed then -1 else k.max) ^^^ BitVec.ofInt k.bits n).toNat))
  | .not, .bool b => some (.bool !b)
  | _, _ => none

def max2A : Value → Value → Option Value
  | .int k a, .int k' b => if k = k' then some (.int k (if b > a then b else a)) else none
  | _, _ => none
def min2A : Value → Value → Option Value
  | .int k a, .int k' b => if k = k' then some (.int k (if b < a then b else a)) else none
  | _, _ => none
def foldA (f : Value → Value → Option Value) : Value → List Value → Option Value
  | x, [] => some x
  | x, y :: l => (f x y).bind fun z => foldA f z l
def maxA : List Value → Option Value
  | [] => none
  | x :: l => foldA max2A x l
def minA : List Value → Option Value
  | [] => none
  | x :: l => foldA min2A x l

/-! ### Operations -/
inductive Res where
  | val (v : Value) (H : Heap)
  | call (f : FuncId) (args : List Value)

def rv (H : Heap) (o : Option Value) : Option Res := o.map fun v => .val v H
def rh (o : Option Heap) : Option Res := o.map fun H => .val undef H
def rvh (o : Option (Value × Heap)) : Option Res := o.map fun p => .val p.1 p.2

def builtinA (E : Env) (H : Heap) (b : Builtin) (argTypes : Array TypeId) (args : List Value) : Option Res :=
  match b with
  | .append => rvh (appendA E H argTypes args)
  | .copy => rvh (copyA E H argTypes args)
  | .len => match argTypes.toList, args with
    | t :: _, x :: _ => rv H (lenA E H t x)
    | _, _ => none
  | .delete => match argTypes.toList, args with
    | t :: _, [m, k] => rh (deleteA E H t m k)
    | _, _ => none
  | .clear => match argTypes.toList, args with
    | t :: _, [x] => rh (clearA E H t x)
    | _, _ => none
  | .max => rv H (maxA args)
  | .min => rv H (minA args)
  | _ => none

def cloneA (H : Heap) : List Value → Option Res
  | [.iface t (.map (some i))] => match H.get i with
    | some (.map es clock) => some (.val (.iface t (.map (some H.next))) (H.new (.map es clock)))
    | _ => none
  | _ => none

def byteA (s : ByteArray) (n : Int) : Option Value :=
  if 0 ≤ n then (s[n.toNat]?).map fun b => .int .u8 b.toNat else none

def callA (E : Env) (H : Heap) (f : Value) (args : List Value) : Option Res :=
  match f with
  | .func (.func f) first captured =>
    match E.fn f with
    | some _ => some (.call f (first.toList ++ args ++ captured.toList))
    | none => bif E.clone f then cloneA H (first.toList ++ args ++ captured.toList) else none
  | _ => none

def convertA (E : Env) (src dst : Nat) (x : Value) : Option Value :=
  match und E src, und E dst, x with
  | some _, some (.int k), .int _ n => some (.int k (k.wrap n))
  | _, _, _ => none

def aop (E : Env) (e : Operand → Value) (op : Op) (H : Heap) : Option Res :=
  match op with
  | .move x => some (.val (e x) H)
  | .assign x => some (.val (e x) H)
  | .pick c a b => match e c with
    | .bool t => some (.val (bif t then e a else e b) H)
    | _ => none
  | .alloc t => (zeroV E t).bind fun z => rvh (newVal H z)
  | .box _ x => rvh (newVal H (e x))
  | .build t parts => rv H (buildV E t (parts.map fun p => (p.1, e p.2)))
  | .buildSlice t len parts => rvh (buildSliceA E H t len (parts.map fun p => (p.1, e p.2)))
  | .load t a => rv H (loadV E H t (e a))
  | .store t a x => rh (storeV E H t (e a) (e x))
  | .nilCheck x => match e x with
    | .pointer (some a) => some (.val (.pointer (some a)) H)
    | .func (.func f) fs cs => some (.val (.func (.func f) fs cs) H)
    | _ => none
  | .binOp op t x y _ => rv H (binA E H op t (e x) (e y))
  | .unOp op _ x => rv H (unA op (e x))
  | .convert src dst x => rv H (convertA E src dst (e x))
  | .makeInterface t x => match und E t with
    | some (.interface _) => none
    | some _ => some (.val (.iface t (e x)) H)
    | none => none
  | .makeFunc (.func f) first captured => some (.val (.func (.func f) (first.map e) (captured.map e)) H)
  | .makeMap _ none => some (.val (.map (some H.next)) (H.new (.map [] 0)))
  | .makeMap t (some r) => match und E t, e r with
    | some (.map _ _), .int _ _ => some (.val (.map (some H.next)) (H.new (.map [] 0)))
    | _, _ => none
  | .makeSlice t l c => rvh (makeSliceA E H t (e l) (e c))
  | .slice t x lo hi mx => rv H (sliceA E H t (e x) (lo.map e) (hi.map e) (mx.map e))
  | .fieldAddr s x f => match und E s, e x with
    | some (.struct fields), .pointer (some ⟨i, o, none⟩) => match fields[f]? with
      | some fd => (sizeA E fd.type).bind fun n => if n = 0 then none else some (.val (.pointer (some ⟨i, o + fd.offset, none⟩)) H)
      | none => none
    | _, _ => none
  | .field t x f => match und E t, e x with
    | some (.struct fields), .agg cs => match fields[f]? with
      | some fd => rv H (partA E fd.type cs fd.offset)
      | none => none
    | _, _ => none
  | .indexAddr t x ix => match und E t, e x, e ix with
    | some (.slice el), .slice (some ⟨i, o, none⟩) len _, .int _ n => (sizeA E el).bind fun s =>
      if 0 ≤ n ∧ n < len then some (.val (.pointer (some ⟨i, o + n.toNat * s, none⟩)) H) else none
    | some (.array len el), .pointer (some ⟨i, o, none⟩), .int _ n => (sizeA E el).bind fun s =>
      if 0 ≤ n ∧ n < len then some (.val (.pointer (some ⟨i, o + n.toNat * s, none⟩)) H) else none
    | _, _, _ => none
  | .index t x ix => match und E t, e x, e ix with
    | some (.array len el), .agg cs, .int _ n => (sizeA E el).bind fun s =>
      if 0 ≤ n ∧ n < len then rv H (partA E el cs (n.toNat * s)) else none
    | some .string, .string s, .int _ n => rv H (byteA s n)
    | _, _, _ => none
  | .lookup t x k ok => rv H (lookupA E H t (e x) (e k) ok)
  | .mapUpdate t m k x => rh (mapUpdateA E H t (e m) (e k) (e x))
  | .insert t m k x => rh (mapUpdateA E H t (e m) (e k) (e x))
  | .typeAssert x _ asserted false => match und E asserted, e x with
    | some (.interface _), _ => none
    | some _, .iface t v => if t = asserted then some (.val v H) else none
    | _, _ => none
  | .extract t ix => match e t with
    | .tuple vs => match vs[ix]? with
      | some v => some (.val v H)
      | none => none
    | _ => none
  | .call c => match c.callee with
    | .value f => callA E H (e f) (c.args.toList.map e)
    | .builtin b => builtinA E H b c.argTypes (c.args.toList.map e)
    | .invoke _ _ => none
  | _ => none

/-! ### Regions -/
structure St where
  T : Tr Value
  H : Heap

def putT (T : Tr Value) (d : Option Tmp) (v : Value) : Tr Value :=
  match d with
  | some d => T.upd d v
  | none => T

abbrev FSem := FuncId → List Value → Heap → Option (Value × Heap)

/-- Is an operation wanted? none: it is not known. -/
def wantedA (ops : Array Oper) (T : Tr Value) (o : Oper) : Option Bool :=
  match o.guard with
  | none => some true
  | some (j, want) => match (ops[j]?).bind (·.dst) with
    | none => some false
    | some d => match T.get d with
      | some (.bool b) => some (b == want)
      | some (.tuple ⟨[]⟩) => some false
      | none => some false
      | _ => none

def resA (sem : FSem) (r : Option Res) (H : Heap) : Option (Value × Heap) :=
  match r with
  | some (.val v H') => some (v, H')
  | some (.call f args) => sem f args H
  | none => none

def stepA (E : Env) (sem : FSem) (ops : Array Oper) (o : Oper) (s : St) : Option St :=
  match wantedA ops s.T o with
  | some true => match resA sem (aop E (ev E s.T) o.op s.H) s.H with
    | some (v, H') => some ⟨putT s.T o.dst v, H'⟩
    | none => none
  | some false => some ⟨putT s.T o.dst undef, s.H⟩
  | none => none

def runOps (E : Env) (sem : FSem) (ops : Array Oper) : List Oper → St → Option St
  | [], s => some s
  | o :: l, s => match stepA E sem ops o s with
    | some s' => runOps E sem ops l s'
    | none => none


/-! ### Regions that draw their order -/
def isLoud : Op → Bool
  | .alloc _ | .box _ _ | .buildSlice _ _ _ | .store _ _ _ | .makeMap _ _ | .makeSlice _ _ _ | .mapUpdate _ _ _ _ | .insert _ _ _ _ => true
  | .call c => match c.callee with
    | .builtin .len => false
    | .builtin .max => false
    | .builtin .min => false
    | _ => true
  | _ => false

def isPure : Op → Bool
  | .move _ | .assign _ | .pick _ _ _ | .nilCheck _ | .unOp _ _ _ | .convert _ _ _ | .makeInterface _ _ | .makeFunc _ _ _ | .fieldAddr _ _ _ | .field _ _ _
  | .indexAddr _ _ _ | .index _ _ _ | .extract _ _ | .build _ _ => true
  | _ => false

def sameN : Nat → Value → Value → Bool
  | 0, _, _ => false
  | d + 1, v, w => match v, w with
    | .bool a, .bool b => a == b
    | .int k a, .int j b => decide (k = j) && decide (a = b)
    | .pointer a, .pointer b => decide (a = b)
    | .slice a l c, .slice b m d => decide (a = b) && decide (l = m) && decide (c = d)
    | .map a, .map b => decide (a = b)
    | .nilFunc, .nilFunc => true
    | .nilIface, .nilIface => true
    | .func f xs ys, .func g us vs => decide (f = g) && sameL d xs.toList us.toList && sameL d ys.toList vs.toList
    | .agg xs, .agg us => sameL d xs.toList us.toList
    | .tuple xs, .tuple us => sameL d xs.toList us.toList
    | _, _ => false
 where
  sameL (d : Nat) : List Value → List Value → Bool
    | [], [] => true
    | v :: l, w :: m => sameN d v w && sameL d l m
    | _, _ => false

/-- What may be made ahead: a new variable; in a region of the second kind (b) also boxes, rows and maps. -/
def isBirth (b : Bool) (op : Op) : Bool :=
  match op with
  | .alloc _ => true
  | .box _ _ => b
  | .buildSlice _ _ _ => b
  | .makeMap _ _ => b
  | .makeSlice _ _ _ => b
  | _ => false

/-- A value read off a new block, when the block has another number. -/
def atBlk (d : Nat) : Value → Value
  | .pointer (some _) => .pointer (some ⟨d, 0, none⟩)
  | .slice (some _) l c => .slice (some ⟨d, 0, none⟩) l c
  | .map (some _) => .map (some d)
  | v => v

def heap1 : Heap := ⟨.nil, 0⟩

/-- What is made: the value, as if its block were the first one, and the block. -/
def bornA (E : Env) (e : Operand → Value) (op : Op) : Option (Value × Obj) :=
  match aop E e op heap1 with
  | some (.val v H) => (H.get 0).map fun o => (v, o)
  | _ => none

def sameObj : Obj → Obj → Bool
  | .cells true z c, .cells true z' c' => Nat.beq z z' && sameN.sameL 8 c c'
  | .map [] 0, .map [] 0 => true
  | _, _ => false

structure DR where
  i : Nat
  o : Oper
  w : Bool
  T : Tr Value
  v : Value
  k : Nat

/-- A new variable in a region that draws its order has its number ahead: the region's first free one and its place. -/
def aopD (b : Bool) (E : Env) (base i : Nat) (e : Operand → Value) (op : Op) (H : Heap) : Option Res :=
  match op with
  | .alloc _ => some (.val (.pointer (some ⟨base + i, 0, none⟩)) H)
  | op => bif isBirth b op then (bornA E e op).map fun p => .val (atBlk (base + i) p.1) H else aop E e op H

def isLoudD (b : Bool) (op : Op) : Bool := bif isBirth b op then false else isLoud op

/-- The blocks ahead: of the others than new variables they are told. -/
def preA (b : Bool) (E : Env) (base : Nat) : List Oper → Nat → List Obj → Tr Obj → Option (Tr Obj)
  | [], _, _, t => some t
  | o :: l, i, os, t => match o.op with
    | .alloc ty => match (zeroV E ty).bind cellsOf with
      | some vs => preA b E base l (i + 1) os (t.put (base + i) (.cells true 0 vs))
      | none => none
    | op => bif isBirth b op then (match os with
      | ob :: os => preA b E base l (i + 1) os (t.put (base + i) ob)
      | [] => none) else preA b E base l (i + 1) os t

def DR.loud (b : Bool) (r : DR) : Bool := r.w && isLoudD b r.o.op

/-- A first pass, which finds what is made. -/
def pass0 (E : Env) (sem : FSem) (ops : Array Oper) (base : Nat) : List Oper → Nat → Tr Value → Heap → List Obj → Option (List Obj)
  | [], _, _, _, os => some os.reverse
  | o :: l, i, T, H, os =>
    match wantedA ops T o with
    | none => none
    | some false => pass0 E sem ops base l (i + 1) (putT T o.dst undef) H (bif isBirth true o.op && !isBirth false o.op then .dead :: os else os)
    | some true => bif isBirth true o.op then (match bornA E (ev E T) o.op with
        | none => none
        | some p => pass0 E sem ops base l (i + 1) (putT T o.dst (atBlk (base + i) p.1)) (H.set (base + i) p.2) (bif isBirth false o.op then os else p.2 :: os))
      else match resA sem (aop E (ev E T) o.op H) H with
        | none => none
        | some (v, H') => pass0 E sem ops base l (i + 1) (putT T o.dst v) H' os

def pass1 (b : Bool) (E : Env) (sem : FSem) (ops : Array Oper) (base : Nat) : List Oper → Nat → Tr Value → Heap → Nat → List DR → List Heap → Option (List DR × Tr Value × List Heap × Heap)
  | [], _, T, H, _, rs, hs => some (rs, T, hs, H)
  | o :: l, i, T, H, k, rs, hs =>
    match wantedA ops T o with
    | none => none
    | some false => pass1 b E sem ops base l (i + 1) (putT T o.dst undef) H k (⟨i, o, false, T, undef, k⟩ :: rs) hs
    | some true => match resA sem (aopD b E base i (ev E T) o.op H) H with
      | none => none
      | some (v, H') => bif isLoudD b o.op then pass1 b E sem ops base l (i + 1) (putT T o.dst v) H' (k + 1) (⟨i, o, true, T, v, k⟩ :: rs) (hs ++ [H'])
        else pass1 b E sem ops base l (i + 1) (putT T o.dst v) H k (⟨i, o, true, T, v, k⟩ :: rs) hs

def binding (e : Edge) : Bool := Region.binds .any e

def maskOf (acc : List Nat) (o : Oper) : Nat :=
  o.after.toList.foldl (fun s e => bif binding e then s ||| 2 ^ e.on ||| acc.getD e.on 0 else s) 0

def masksFrom : List Oper → List Nat → List Nat
  | [], acc => acc
  | o :: l, acc => masksFrom l (acc ++ [maskOf acc o])

/-- Each pair of operations is ordered, or neither names what the other one writes; those that write are all ordered; the edges lead back. -/
def pairsOk (b : Bool) (ops : Array Oper) : List (Oper × Nat) → Bool
  | [] => true
  | (o, m) :: earlier => earlier.zipIdx.all (fun (p : (Oper × Nat) × Nat) =>
      let i := earlier.length - 1 - p.2
      m.testBit i || (Oper.apart ops p.1.1 o && !(isLoudD b p.1.1.op && isLoudD b o.op))) &&
      o.after.toList.all (fun e => !binding e || Nat.ble (e.on + 1) earlier.length) && pairsOk b ops earlier

def staticOk (b : Bool) (ops : Array Oper) : Bool := pairsOk b ops (ops.toList.zip (masksFrom ops.toList [])).reverse

/-- What an operation that does not write would give at a memory. -/
def looksAt (b : Bool) (E : Env) (base : Nat) (r : DR) (H : Heap) : Bool :=
  match r.o.op with
  | .alloc ty => match (zeroV E ty).bind cellsOf, H.get (base + r.i) with
    | some vs, some (.cells true 0 c) => sameN.sameL 8 vs c
    | _, _ => false
  | op => bif isBirth b op then (match bornA E (ev E r.T) op, H.get (base + r.i) with
      | some p, some o => sameObj p.2 o
      | _, _ => false)
    else match aop E (ev E r.T) op H with
    | some (.val v _) => sameN 8 r.v v
    | _ => false

def checkAt (b : Bool) (E : Env) (base : Nat) (r : DR) (hs : List Heap) : Nat → Nat → Bool
  | _, 0 => true
  | k, n + 1 => (match hs[k]? with
    | some H => looksAt b E base r H
    | none => false) && checkAt b E base r hs (k + 1) n

def countLoud (b : Bool) (p : DR → Bool) : List DR → Nat
  | [] => 0
  | r :: l => bif r.loud b && p r then countLoud b p l + 1 else countLoud b p l

/-- An operation that is ordered with all that write. -/
def strictAt (b : Bool) (ops : Array Oper) (ms : List Nat) (j : Nat) : Bool :=
  ops.toList.zipIdx.all fun p => Nat.beq p.2 j || !isLoudD b p.1.op || (ms.getD j 0).testBit p.2 || (ms.getD p.2 0).testBit j

def stricts (b : Bool) (ops : Array Oper) (ms : List Nat) : List Bool := (List.range ops.size).map (strictAt b ops ms)

def quietOk (b : Bool) (E : Env) (base : Nat) (ss : List Bool) (ms : List Nat) (all : List DR) (hs : List Heap) (m : Nat) : List DR → Bool
  | [] => true
  | r :: l => (!r.w || isLoudD b r.o.op || isPure r.o.op || (ss.getD r.i false && !isBirth b r.o.op) ||
      (let lo := countLoud b (fun q => (ms.getD r.i 0).testBit q.i) all
       let hi := m - countLoud b (fun q => (ms.getD q.i 0).testBit r.i) all
       checkAt b E base r hs lo (hi + 1 - lo))) && quietOk b E base ss ms all hs m l

def runDrawB (b : Bool) (E : Env) (sem : FSem) (ops : Array Oper) (os : List Obj) (s : St) : Option St :=
  match preA b E s.H.next ops.toList 0 os s.H.tr with
  | none => none
  | some tr =>
    match pass1 b E sem ops s.H.next ops.toList 0 s.T ⟨tr, s.H.next + ops.size⟩ 0 [] [⟨tr, s.H.next + ops.size⟩] with
    | some (rs, T, hs, H) => bif quietOk b E s.H.next (stricts b ops (masksFrom ops.toList [])) (masksFrom ops.toList []) rs hs (hs.length - 1) rs then some ⟨T, H⟩ else none
    | none => none

def runDraw (E : Env) (sem : FSem) (ops : Array Oper) (s : St) : Option St :=
  bif staticOk false ops then runDrawB false E sem ops [] s
  else bif staticOk true ops then (match pass0 E sem ops s.H.next ops.toList 0 s.T ⟨s.H.tr, s.H.next + ops.size⟩ [] with
    | some os => runDrawB true E sem ops os s
    | none => none)
  else none

/-! ### Code -/
inductive X where
  | normal
  | exit (id : Nat)
  | ret

def loopN (f : St → Option (X × St)) : Nat → St → Option (X × St)
  | 0, _ => none
  | n + 1, s => match f s with
    | some (.normal, s') => loopN f n s'
    | r => r

def runCode (E : Env) (sem : FSem) (n : Nat) : Code → St → Option (X × St)
  | .skip, s => some (.normal, s)
  | .label _, s => some (.normal, s)
  | .region _ ops d, s => match (bif d then runDraw E sem ops s else runOps E sem ops ops.toList s) with
    | some s' => some (.normal, s')
    | none => none
  | .seq a b, s => match runCode E sem n a s with
    | some (.normal, s') => runCode E sem n b s'
    | r => r
  | .cond c a b, s => match ev E s.T c with
    | .bool t => bif t then runCode E sem n a s else runCode E sem n b s
    | _ => none
  | .block id b, s => match runCode E sem n b s with
    | some (.exit j, s') => bif Nat.beq j id then some (.normal, s') else some (.exit j, s')
    | r => r
  | .loop b, s => loopN (runCode E sem n b) n s
  | .exit id, s => some (.exit id, s)
  | .ret, s => some (.ret, s)
  | .scope b, s => runCode E sem n b s
  | _, _ => none

def initT (fn : Func) (args : List Value) : Option (Tr Value) :=
  bif Nat.ble args.length fn.ntmps then some (Tr.updsFrom args 0 (Tr.fill undef fn.ntmps fn.ntmps)) else none

def resultsL (E : Env) (s : St) : List ResultVar → Option (List Value)
  | [] => some []
  | .tmp t :: l => (resultsL E s l).map fun vs => (s.T.get t).getD undef :: vs
  | .cell a t :: l => (loadV E s.H t ((s.T.get a).getD undef)).bind fun v => (resultsL E s l).map fun vs => v :: vs

def resultOf : List Value → Value
  | [v] => v
  | vs => .tuple ⟨vs⟩

def sem (E : Env) : Nat → FSem
  | 0 => fun _ _ _ => none
  | n + 1 => fun f args H => bif E.truth f && args.isEmpty then some (.bool true, H) else match E.fn f with
    | some fn => match fn.body with
      | some c => match initT fn args with
        | some T => match runCode E (sem E n) n c ⟨T, H⟩ with
          | some (.normal, s) => (resultsL E s fn.results.toList).map fun vs => (resultOf vs, s.H)
          | some (.ret, s) => (resultsL E s fn.results.toList).map fun vs => (resultOf vs, s.H)
          | _ => none
        | none => none
      | none => none
    | none => none

end
end Go.AS
