/-
  The plain machine once more, in a form that the kernel runs faster; it is the same machine.
-/
import Derived.Test.YtjggeoghlicmdaaGreatAs11
namespace Go.AS
open Go.RowKit
set_option linter.unusedVariables false

noncomputable section
def a_move (E : Env) (e : Operand → Value) (H : Heap) (x : Operand) : Option Res := some (.val (e x) H)
def a_assign (E : Env) (e : Operand → Value) (H : Heap) (x : Operand) : Option Res := some (.val (e x) H)
def a_pick (E : Env) (e : Operand → Value) (H : Heap) (c : Operand) (a : Operand) (b : Operand) : Option Res := (match e c with
    | .bool t => some (.val (bif t then e a else e b) H)
    | _ => none)
def a_alloc (E : Env) (e : Operand → Value) (H : Heap) (elem : TypeId) : Option Res := (zeroV E elem).bind fun z => rvh (newVal H z)
def a_box (E : Env) (e : Operand → Value) (H : Heap) (elem : TypeId) (v : Operand) : Option Res := rvh (newVal H (e v))
def a_build (E : Env) (e : Operand → Value) (H : Heap) (t : TypeId) (parts : Array (Nat × Operand)) : Option Res := aop E e (.build t parts) H
def a_buildSlice (E : Env) (e : Operand → Value) (H : Heap) (t : TypeId) (len : Nat) (parts : Array (Nat × Operand)) : Option Res := aop E e (.buildSlice t len parts) H
def a_insert (E : Env) (e : Operand → Value) (H : Heap) (t : TypeId) (m : Operand) (k : Operand) (x : Operand) : Option Res := aop E e (.insert t m k x) H
def a_load (E : Env) (e : Operand → Value) (H : Heap) (t : TypeId) (a : Operand) : Option Res := rv H (loadV E H t (e a))
def a_store (E : Env) (e : Operand → Value) (H : Heap) (t : TypeId) (a : Operand) (x : Operand) : Option Res := rh (storeV E H t (e a) (e x))
def a_ready (E : Env) (e : Operand → Value) (H : Heap) (g : Nat) : Option Res := aop E e (.ready g) H
def a_waits (E : Env) (e : Operand → Value) (H : Heap) (g : Nat) : Option Res := aop E e (.waits g) H
def a_nilCheck (E : Env) (e : Operand → Value) (H : Heap) (x : Operand) : Option Res := (match e x with
    | .pointer (some a) => some (.val (.pointer (some a)) H)
    | .func (.func f) fs cs => some (.val (.func (.func f) fs cs) H)
    | _ => none)
def a_binOp (E : Env) (e : Operand → Value) (H : Heap) (op : BinOp) (t : TypeId) (x : Operand) (y : Operand) (u : TypeId) : Option Res := rv H (binA E H op t (e x) (e y))
def a_unOp (E : Env) (e : Operand → Value) (H : Heap) (op : UnOp) (t : TypeId) (x : Operand) : Option Res := rv H (unA op (e x))
def a_convert (E : Env) (e : Operand → Value) (H : Heap) (src : TypeId) (dst : TypeId) (x : Operand) : Option Res := rv H (convertA E src dst (e x))
def a_sliceToArrayPointer (E : Env) (e : Operand → Value) (H : Heap) (d : TypeId) (x : Operand) : Option Res := aop E e (.sliceToArrayPointer d x) H
def a_makeInterface (E : Env) (e : Operand → Value) (H : Heap) (t : TypeId) (x : Operand) : Option Res := aop E e (.makeInterface t x) H
def a_makeFunc (E : Env) (e : Operand → Value) (H : Heap) (f : Fn) (a : Array Operand) (b : Array Operand) : Option Res := aop E e (.makeFunc f a b) H
def a_makeMap (E : Env) (e : Operand → Value) (H : Heap) (t : TypeId) (r : Option Operand) : Option Res := aop E e (.makeMap t r) H
def a_makeChan (E : Env) (e : Operand → Value) (H : Heap) (t : TypeId) (s : Operand) : Option Res := aop E e (.makeChan t s) H
def a_makeSlice (E : Env) (e : Operand → Value) (H : Heap) (t : TypeId) (l : Operand) (c : Operand) : Option Res := aop E e (.makeSlice t l c) H
def a_slice (E : Env) (e : Operand → Value) (H : Heap) (t : TypeId) (x : Operand) (lo : Option Operand) (hi : Option Operand) (mx : Option Operand) : Option Res := aop E e (.slice t x lo hi mx) H
def a_fieldAddr (E : Env) (e : Operand → Value) (H : Heap) (s : TypeId) (x : Operand) (f : Nat) : Option Res := (match und E s, e x with
    | some (.struct fields), .pointer (some ⟨i, o, none⟩) => match fields[f]? with
      | some fd => (sizeA E fd.type).bind fun n => if n = 0 then none else some (.val (.pointer (some ⟨i, o + fd.offset, none⟩)) H)
      | none => none
    | _, _ => none)
def a_field (E : Env) (e : Operand → Value) (H : Heap) (t : TypeId) (x : Operand) (f : Nat) : Option Res := (match und E t, e x with
    | some (.struct fields), .agg cs => match fields[f]? with
      | some fd => rv H (partA E fd.type cs fd.offset)
      | none => none
    | _, _ => none)
def a_indexAddr (E : Env) (e : Operand → Value) (H : Heap) (t : TypeId) (x : Operand) (ix : Operand) : Option Res := (match und E t, e x, e ix with
    | some (.slice el), .slice (some ⟨i, o, none⟩) len _, .int _ n => (sizeA E el).bind fun s =>
      if 0 ≤ n ∧ n < len then some (.val (.pointer (some ⟨i, o + n.toNat * s, none⟩)) H) else none
    | some (.array len el), .pointer (some ⟨i, o, none⟩), .int _ n => (sizeA E el).bind fun s =>
      if 0 ≤ n ∧ n < len then some (.val (.pointer (some ⟨i, o + n.toNat * s, none⟩)) H) else none
    | _, _, _ => none)
def a_index (E : Env) (e : Operand → Value) (H : Heap) (t : TypeId) (x : Operand) (ix : Operand) : Option Res := aop E e (.index t x ix) H
def a_lookup (E : Env) (e : Operand → Value) (H : Heap) (t : TypeId) (x : Operand) (k : Operand) (ok : Bool) : Option Res := rv H (lookupA E H t (e x) (e k) ok)
def a_mapUpdate (E : Env) (e : Operand → Value) (H : Heap) (t : TypeId) (m : Operand) (k : Operand) (x : Operand) : Option Res := rh (mapUpdateA E H t (e m) (e k) (e x))
def a_mapEntry (E : Env) (e : Operand → Value) (H : Heap) (t : TypeId) (m : Operand) (k : Operand) : Option Res := aop E e (.mapEntry t m k) H
def a_entryStore (E : Env) (e : Operand → Value) (H : Heap) (t : TypeId) (m : Operand) (st : Operand) (v : Operand) : Option Res := aop E e (.entryStore t m st v) H
def a_range (E : Env) (e : Operand → Value) (H : Heap) (t : TypeId) (x : Operand) : Option Res := aop E e (.range t x) H
def a_next (E : Env) (e : Operand → Value) (H : Heap) (i : Operand) (s : Bool) : Option Res := aop E e (.next i s) H
def a_entry (E : Env) (e : Operand → Value) (H : Heap) (i : Operand) : Option Res := aop E e (.entry i) H
def a_typeAssert (E : Env) (e : Operand → Value) (H : Heap) (x : Operand) (t : TypeId) (a : TypeId) (ok : Bool) : Option Res := aop E e (.typeAssert x t a ok) H
def a_extract (E : Env) (e : Operand → Value) (H : Heap) (t : Operand) (ix : Nat) : Option Res := (match e t with
    | .tuple vs => match vs[ix]? with
      | some v => some (.val v H)
      | none => none
    | _ => none)
def a_call (E : Env) (e : Operand → Value) (H : Heap) (c : Call) : Option Res := (match c.callee with
    | .value f => callA E H (e f) (c.args.toList.map e)
    | .builtin b => builtinA E H b c.argTypes (c.args.toList.map e)
    | .invoke _ _ => none)
def a_go (E : Env) (e : Operand → Value) (H : Heap) (c : Call) : Option Res := aop E e (.go c) H
def a_defer (E : Env) (e : Operand → Value) (H : Heap) (c : Call) : Option Res := aop E e (.defer c) H
def a_panic (E : Env) (e : Operand → Value) (H : Heap) (x : Operand) : Option Res := aop E e (.panic x) H
def a_send (E : Env) (e : Operand → Value) (H : Heap) (c : Operand) (x : Operand) : Option Res := aop E e (.send c x) H
def a_recv (E : Env) (e : Operand → Value) (H : Heap) (t : TypeId) (c : Operand) (ok : Bool) : Option Res := aop E e (.recv t c ok) H
def a_select (E : Env) (e : Operand → Value) (H : Heap) (cs : Array SelectCase) (b : Bool) : Option Res := aop E e (.select cs b) H

def aopF (E : Env) (e : Operand → Value) (op : Op) (H : Heap) : Option Res :=
  Op.rec (motive := fun _ => Option Res)
    (fun x => a_move E e H x)
    (fun x => a_assign E e H x)
    (fun c a b => a_pick E e H c a b)
    (fun elem => a_alloc E e H elem)
    (fun elem v => a_box E e H elem v)
    (fun t parts => a_build E e H t parts)
    (fun t len parts => a_buildSlice E e H t len parts)
    (fun t m k x => a_insert E e H t m k x)
    (fun t a => a_load E e H t a)
    (fun t a x => a_store E e H t a x)
    (fun g => a_ready E e H g)
    (fun g => a_waits E e H g)
    (fun x => a_nilCheck E e H x)
    (fun op t x y u => a_binOp E e H op t x y u)
    (fun op t x => a_unOp E e H op t x)
    (fun src dst x => a_convert E e H src dst x)
    (fun d x => a_sliceToArrayPointer E e H d x)
    (fun t x => a_makeInterface E e H t x)
    (fun f a b => a_makeFunc E e H f a b)
    (fun t r => a_makeMap E e H t r)
    (fun t s => a_makeChan E e H t s)
    (fun t l c => a_makeSlice E e H t l c)
    (fun t x lo hi mx => a_slice E e H t x lo hi mx)
    (fun s x f => a_fieldAddr E e H s x f)
    (fun t x f => a_field E e H t x f)
    (fun t x ix => a_indexAddr E e H t x ix)
    (fun t x ix => a_index E e H t x ix)
    (fun t x k ok => a_lookup E e H t x k ok)
    (fun t m k x => a_mapUpdate E e H t m k x)
    (fun t m k => a_mapEntry E e H t m k)
    (fun t m st v => a_entryStore E e H t m st v)
    (fun t x => a_range E e H t x)
    (fun i s => a_next E e H i s)
    (fun i => a_entry E e H i)
    (fun x t a ok => a_typeAssert E e H x t a ok)
    (fun t ix => a_extract E e H t ix)
    (fun c => a_call E e H c)
    (fun c => a_go E e H c)
    (fun c => a_defer E e H c)
    (fun x => a_panic E e H x)
    (fun c x => a_send E e H c x)
    (fun t c ok => a_recv E e H t c ok)
    (fun cs b => a_select E e H cs b)
    op

theorem aopF_eq (E : Env) (e : Operand → Value) (op : Op) (H : Heap) : aopF E e op H = aop E e op H := by cases op <;> rfl

def resF (sem : FSem) (r : Option Res) (H : Heap) : Option (Value × Heap) :=
  Option.rec (motive := fun _ => Option (Value × Heap)) none (fun r => Res.rec (motive := fun _ => Option (Value × Heap)) (fun v H' => some (v, H')) (fun f args => sem f args H) r) r

theorem resF_eq (sem : FSem) (r : Option Res) (H : Heap) : resF sem r H = resA sem r H := by
  cases r with
  | none => rfl
  | some r => cases r <;> rfl

def stepF (E : Env) (sem : FSem) (ops : Array Oper) (o : Oper) (s : St) : Option St :=
  Option.rec (motive := fun _ => Option St) none
    (fun b => Bool.rec (motive := fun _ => Option St) (some ⟨putT s.T o.dst undef, s.H⟩)
      (Option.rec (motive := fun _ => Option St) none (fun p => some ⟨putT s.T o.dst p.1, p.2⟩) (resF sem (aopF E (ev E s.T) o.op s.H) s.H)) b) (wantedA ops s.T o)

theorem stepF_eq (E : Env) (sem : FSem) (ops : Array Oper) (o : Oper) (s : St) : stepF E sem ops o s = stepA E sem ops o s := by
  unfold stepF stepA
  rw [resF_eq, aopF_eq]
  cases wantedA ops s.T o with
  | none => rfl
  | some b => cases b with
    | false => rfl
    | true => simp only; cases resA sem (aop E (ev E s.T) o.op s.H) s.H <;> rfl

def runOpsF (E : Env) (sem : FSem) (ops : Array Oper) (l : List Oper) : St → Option St :=
  List.rec (motive := fun _ => St → Option St) (fun s => some s) (fun o _ ih s => Option.rec (motive := fun _ => Option St) none (fun s' => ih s') (stepF E sem ops o s)) l

theorem runOpsF_eq (E : Env) (sem : FSem) (ops : Array Oper) : ∀ (l : List Oper) (s : St), runOpsF E sem ops l s = runOps E sem ops l s
  | [], s => rfl
  | o :: l, s => by
    show Option.rec (motive := fun _ => Option St) none (fun s' => runOpsF E sem ops l s') (stepF E sem ops o s) = runOps E sem ops (o :: l) s
    rw [stepF_eq]
    simp only [runOps]
    cases stepA E sem ops o s with
    | none => rfl
    | some s' => exact runOpsF_eq E sem ops l s'

def aopDF (bm : Bool) (E : Env) (base i : Nat) (e : Operand → Value) (op : Op) (H : Heap) : Option Res :=
  Bool.rec (motive := fun _ => Option Res) (aopF E e op H) (aopD bm E base i e op H) (isBirth bm op)

theorem aopDF_eq (bm : Bool) (E : Env) (base i : Nat) (e : Operand → Value) (op : Op) (H : Heap) : aopDF bm E base i e op H = aopD bm E base i e op H := by
  unfold aopDF
  cases hb : isBirth bm op with
  | true => rfl
  | false => exact (aopF_eq E e op H).trans (aopD_of hb).symm

def pass1F (bm : Bool) (E : Env) (sem : FSem) (ops : Array Oper) (base : Nat) (l : List Oper) : Nat → Tr Value → Heap → Nat → List DR → List Heap → Option (List DR × Tr Value × List Heap × Heap) :=
  List.rec (motive := fun _ => Nat → Tr Value → Heap → Nat → List DR → List Heap → Option (List DR × Tr Value × List Heap × Heap)) (fun _ T H _ rs hs => some (rs, T, hs, H))
    (fun o _ ih i T H k rs hs =>
      Option.rec (motive := fun _ => Option (List DR × Tr Value × List Heap × Heap)) none
        (fun b => Bool.rec (motive := fun _ => Option (List DR × Tr Value × List Heap × Heap)) (ih (i + 1) (putT T o.dst undef) H k (⟨i, o, false, T, undef, k⟩ :: rs) hs)
          (Option.rec (motive := fun _ => Option (List DR × Tr Value × List Heap × Heap)) none
            (fun p => Bool.rec (motive := fun _ => Option (List DR × Tr Value × List Heap × Heap)) (ih (i + 1) (putT T o.dst p.1) H k (⟨i, o, true, T, p.1, k⟩ :: rs) hs)
              (ih (i + 1) (putT T o.dst p.1) p.2 (k + 1) (⟨i, o, true, T, p.1, k⟩ :: rs) (hs ++ [p.2])) (isLoudD bm o.op))
            (resF sem (aopDF bm E base i (ev E T) o.op H) H)) b)
        (wantedA ops T o)) l

theorem pass1F_eq (bm : Bool) (E : Env) (sem : FSem) (ops : Array Oper) (base : Nat) : ∀ (l : List Oper) (i : Nat) (T : Tr Value) (H : Heap) (k : Nat) (rs : List DR) (hs : List Heap),
    pass1F bm E sem ops base l i T H k rs hs = pass1 bm E sem ops base l i T H k rs hs
  | [], _, _, _, _, _, _ => rfl
  | o :: l, i, T, H, k, rs, hs => by
    have ih := pass1F_eq bm E sem ops base l
    simp only [pass1]
    show Option.rec (motive := fun _ => Option (List DR × Tr Value × List Heap × Heap)) none
        (fun b => Bool.rec (motive := fun _ => Option (List DR × Tr Value × List Heap × Heap)) (pass1F bm E sem ops base l (i + 1) (putT T o.dst undef) H k (⟨i, o, false, T, undef, k⟩ :: rs) hs)
          (Option.rec (motive := fun _ => Option (List DR × Tr Value × List Heap × Heap)) none
            (fun p => Bool.rec (motive := fun _ => Option (List DR × Tr Value × List Heap × Heap)) (pass1F bm E sem ops base l (i + 1) (putT T o.dst p.1) H k (⟨i, o, true, T, p.1, k⟩ :: rs) hs)
              (pass1F bm E sem ops base l (i + 1) (putT T o.dst p.1) p.2 (k + 1) (⟨i, o, true, T, p.1, k⟩ :: rs) (hs ++ [p.2])) (isLoudD bm o.op))
            (resF sem (aopDF bm E base i (ev E T) o.op H) H)) b)
        (wantedA ops T o) = _
    rw [resF_eq, aopDF_eq]
    cases wantedA ops T o with
    | none => rfl
    | some b => cases b with
      | false => exact ih _ _ _ _ _ _
      | true =>
        cases resA sem (aopD bm E base i (ev E T) o.op H) H with
        | none => rfl
        | some p =>
          obtain ⟨v, H'⟩ := p
          simp only
          cases isLoudD bm o.op with
          | true => exact ih _ _ _ _ _ _
          | false => exact ih _ _ _ _ _ _

def runDrawBF (bm : Bool) (E : Env) (sem : FSem) (ops : Array Oper) (os : List Obj) (s : St) : Option St :=
  match preA bm E s.H.next ops.toList 0 os s.H.tr with
  | none => none
  | some tr =>
    match pass1F bm E sem ops s.H.next ops.toList 0 s.T ⟨tr, s.H.next + ops.size⟩ 0 [] [⟨tr, s.H.next + ops.size⟩] with
    | some (rs, T, hs, H) => bif quietOk bm E s.H.next (stricts bm ops (masksFrom ops.toList [])) (masksFrom ops.toList []) rs hs (hs.length - 1) rs then some ⟨T, H⟩ else none
    | none => none

def runDrawF (E : Env) (sem : FSem) (ops : Array Oper) (s : St) : Option St :=
  bif staticOk false ops then runDrawBF false E sem ops [] s
  else bif staticOk true ops then (match pass0 E sem ops s.H.next ops.toList 0 s.T ⟨s.H.tr, s.H.next + ops.size⟩ [] with
    | some os => runDrawBF true E sem ops os s
    | none => none)
  else none

theorem runDrawBF_eq (bm : Bool) (E : Env) (sem : FSem) (ops : Array Oper) (os : List Obj) (s : St) : runDrawBF bm E sem ops os s = runDrawB bm E sem ops os s := by
  unfold runDrawBF runDrawB
  simp only [pass1F_eq]
  rfl

theorem runDrawF_eq (E : Env) (sem : FSem) (ops : Array Oper) (s : St) : runDrawF E sem ops s = runDraw E sem ops s := by
  unfold runDrawF runDraw
  simp only [runDrawBF_eq]
  rfl

def thenF (k : St → Option (X × St)) (r : Option (X × St)) : Option (X × St) :=
  Option.rec (motive := fun _ => Option (X × St)) none (fun p => X.rec (motive := fun _ => Option (X × St)) (k p.2) (fun i => some (.exit i, p.2)) (some (.ret, p.2)) p.1) r

def loopF (f : St → Option (X × St)) (n : Nat) : St → Option (X × St) :=
  Nat.rec (motive := fun _ => St → Option (X × St)) (fun _ => none) (fun _ ih s => thenF ih (f s)) n

theorem loopF_eq (f g : St → Option (X × St)) (h : ∀ s, f s = g s) : ∀ (n : Nat) (s : St), loopF f n s = loopN g n s
  | 0, s => rfl
  | n + 1, s => by
    show thenF (loopF f n) (f s) = _
    rw [h]
    simp only [loopN]
    cases g s with
    | none => rfl
    | some p =>
      obtain ⟨x, s'⟩ := p
      cases x with
      | normal => exact loopF_eq f g h n s'
      | exit i => rfl
      | ret => rfl

def runCodeF (E : Env) (sem : FSem) (n : Nat) (c : Code) : St → Option (X × St) :=
  Code.rec (motive := fun _ => St → Option (X × St)) (fun s => some (.normal, s))
    (fun _ ops d s => Option.rec (motive := fun _ => Option (X × St)) none (fun s' => some (.normal, s')) (Bool.rec (motive := fun _ => Option St) (runOpsF E sem ops ops.toList s) (runDrawF E sem ops s) d))
    (fun _ _ ia ib s => thenF ib (ia s))
    (fun c _ _ ia ib s => match ev E s.T c with
      | .bool t => Bool.rec (motive := fun _ => Option (X × St)) (ib s) (ia s) t
      | _ => none)
    (fun id _ ib s => Option.rec (motive := fun _ => Option (X × St)) none (fun p => X.rec (motive := fun _ => Option (X × St)) (some (.normal, p.2)) (fun j => bif Nat.beq j id then some (.normal, p.2) else some (.exit j, p.2)) (some (.ret, p.2)) p.1) (ib s))
    (fun _ ib s => loopF ib n s)
    (fun _ _ _ _ _ _ _ => none)
    (fun id s => some (.exit id, s))
    (fun _ ib s => ib s)
    (fun _ s => some (.normal, s))
    (fun _ _ => none)
    (fun s => some (.ret, s))
    (fun _ _ => none) c

theorem runCodeF_eq (E : Env) (sem : FSem) (n : Nat) : ∀ (c : Code) (s : St), runCodeF E sem n c s = runCode E sem n c s := by
  intro c
  induction c with
  | region id ops d =>
    intro s
    show Option.rec (motive := fun _ => Option (X × St)) none (fun s' => some (.normal, s')) (Bool.rec (motive := fun _ => Option St) (runOpsF E sem ops ops.toList s) (runDrawF E sem ops s) d) = _
    rw [runDrawF_eq]
    simp only [runCode]
    cases d with
    | true => simp only [cond_true]; cases runDraw E sem ops s <;> rfl
    | false => simp only [cond_false]; rw [runOpsF_eq]; cases runOps E sem ops ops.toList s <;> rfl
  | seq a b iha ihb =>
    intro s
    show thenF (runCodeF E sem n b) (runCodeF E sem n a s) = _
    rw [iha, funext ihb]
    simp only [runCode]
    cases runCode E sem n a s with
    | none => rfl
    | some p => obtain ⟨x, s'⟩ := p; cases x <;> rfl
  | cond c a b iha ihb =>
    intro s
    show (match ev E s.T c with
      | .bool t => Bool.rec (motive := fun _ => Option (X × St)) (runCodeF E sem n b s) (runCodeF E sem n a s) t
      | _ => none) = _
    simp only [runCode]
    cases ev E s.T c with
    | bool t => cases t with
      | true => exact iha s
      | false => exact ihb s
    | _ => rfl
  | block id a ih =>
    intro s
    show Option.rec (motive := fun _ => Option (X × St)) none (fun p => X.rec (motive := fun _ => Option (X × St)) (some (.normal, p.2)) (fun j => bif Nat.beq j id then some (.normal, p.2) else some (.exit j, p.2)) (some (.ret, p.2)) p.1) (runCodeF E sem n a s) = _
    rw [ih]
    simp only [runCode]
    cases runCode E sem n a s with
    | none => rfl
    | some p => obtain ⟨x, s'⟩ := p; cases x <;> rfl
  | loop a ih =>
    intro s
    show loopF (runCodeF E sem n a) n s = _
    simp only [runCode]
    exact loopF_eq _ _ ih n s
  | scope a ih => intro s; exact ih s
  | _ => intro s; rfl

def semF (E : Env) (n : Nat) : FSem :=
  Nat.rec (motive := fun _ => FSem) (fun _ _ _ => none)
    (fun n ih f args H => bif E.truth f && args.isEmpty then some (.bool true, H) else match E.fn f with
      | some fn => match fn.body with
        | some c => match initT fn args with
          | some T => match runCodeF E ih n c ⟨T, H⟩ with
            | some (.normal, s) => (resultsL E s fn.results.toList).map fun vs => (resultOf vs, s.H)
            | some (.ret, s) => (resultsL E s fn.results.toList).map fun vs => (resultOf vs, s.H)
            | _ => none
          | none => none
        | none => none
      | none => none) n

theorem semF_eq (E : Env) : ∀ n, semF E n = sem E n
  | 0 => rfl
  | n + 1 => by
    have ih := semF_eq E n
    funext f args H
    show (bif E.truth f && args.isEmpty then some (.bool true, H) else match E.fn f with
      | some fn => match fn.body with
        | some c => match initT fn args with
          | some T => match runCodeF E (semF E n) n c ⟨T, H⟩ with
            | some (.normal, s) => (resultsL E s fn.results.toList).map fun vs => (resultOf vs, s.H)
            | some (.ret, s) => (resultsL E s fn.results.toList).map fun vs => (resultOf vs, s.H)
            | _ => none
          | none => none
        | none => none
      | none => none) = _
    rw [ih]
    simp only [runCodeF_eq, sem]
    rfl
end

theorem closed_callsF {E : Env} (hE : E.Ok) (hmix : E.prog.follows .mixedOrders = true) {n f : Nat} (h : (semF E n f [] (heap0 E)).map (·.1) = some (.bool true)) (w : World) :
    Calls E.prog f #[] w fun e w' => e = .returned (.bool true) ∧ Below w.heap.size w w' := closed_calls hE hmix (by rw [← semF_eq]; exact h) w
end Go.AS
