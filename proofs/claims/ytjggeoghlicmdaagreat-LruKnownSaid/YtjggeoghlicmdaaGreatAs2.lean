/-
  The plain machine's memory against the model's: what it means that a value, a memory, stands for one of the model's, and how that is kept when memory is made and written.
-/
import Derived.Test.YtjggeoghlicmdaaGreatAs1
import Derived.Laws.CopyRow
import Derived.Laws.NewBlocks
namespace Go.AS
open Go.RowKit

/-- Where a block lies in the model's memory: its block, from which cell on, how many cells are its own there, how many cells an element has (0: it does not grow). -/
structure Loc where
  blk : Nat
  off : Nat
  room : Nat
  esz : Nat

abbrev Inj := Nat → Option Loc
def Inj.le (μ μ' : Inj) : Prop := ∀ i L, μ i = some L → μ' i = some L
theorem Inj.le_refl (μ : Inj) : Inj.le μ μ := fun _ _ h => h
theorem Inj.le_trans {a b c : Inj} (h : Inj.le a b) (k : Inj.le b c) : Inj.le a c := fun i L e => k i L (h i L e)
def Inj.add (μ : Inj) (n : Nat) (L : Loc) : Inj := fun i => if i = n then some L else μ i
theorem Inj.le_add {μ : Inj} {n : Nat} (L : Loc) (h : μ n = none) : Inj.le μ (μ.add n L) := by
  intro i K e
  unfold Inj.add
  split
  · subst_vars; rw [h] at e; cases e
  · exact e
theorem Inj.add_self (μ : Inj) (n : Nat) (L : Loc) : μ.add n L n = some L := by simp [Inj.add]

mutual
inductive VRel (μ : Inj) : Value → Value → Prop
  | top (V : Value) : VRel μ (.chan (some 0)) V
  | bool (b : Bool) : VRel μ (.bool b) (.bool b)
  | int (k : IntKind) (n : Int) : VRel μ (.int k n) (.int k n)
  | float (k : FloatKind) (n : Nat) : VRel μ (.float k n) (.float k n)
  | complex (k : FloatKind) (n m : Nat) : VRel μ (.complex k n m) (.complex k n m)
  | string (s : ByteArray) : VRel μ (.string s) (.string s)
  | nilFunc : VRel μ .nilFunc .nilFunc
  | nilIface : VRel μ .nilIface .nilIface
  | ptrNil : VRel μ (.pointer none) (.pointer none)
  | mapNil : VRel μ (.map none) (.map none)
  | sliceNil : VRel μ (.slice none 0 0) (.slice none 0 0)
  | ptr {i o : Nat} {L : Loc} (h : μ i = some L) : VRel μ (.pointer (some ⟨i, o, none⟩)) (.pointer (some ⟨L.blk, L.off + o, none⟩))
  | slice {i o len c cap : Nat} {L : Loc} (h : μ i = some L) (hl : len ≤ cap) (hr : L.esz = 0 ∨ o + cap * L.esz = L.room) :
      VRel μ (.slice (some ⟨i, o, none⟩) len c) (.slice (some ⟨L.blk, L.off + o, none⟩) len cap)
  | sliceEnd {i o c cap : Nat} {A : Addr} {L : Loc} (h : μ i = some L) (ho : L.esz = 0 ∨ (o = L.room ∧ cap = 0)) :
      VRel μ (.slice (some ⟨i, o, none⟩) 0 c) (.slice (some A) 0 cap)
  | map {i : Nat} {L : Loc} (h : μ i = some L) : VRel μ (.map (some i)) (.map (some L.blk))
  | func {f : FuncId} {fs FSz cs CS : Array Value} (h1 : VRels μ fs.toList FSz.toList) (h2 : VRels μ cs.toList CS.toList) :
      VRel μ (.func (.func f) fs cs) (.func (.func f) FSz CS)
  | iface {t : TypeId} {v V : Value} (h : VRel μ v V) : VRel μ (.iface t v) (.iface t V)
  | agg {cs CS : Array Value} (h : VRels μ cs.toList CS.toList) : VRel μ (.agg cs) (.agg CS)
  | tuple {cs CS : Array Value} (h : VRels μ cs.toList CS.toList) : VRel μ (.tuple cs) (.tuple CS)
inductive VRels (μ : Inj) : List Value → List Value → Prop
  | nil : VRels μ [] []
  | cons {v V : Value} {l L : List Value} (h : VRel μ v V) (hs : VRels μ l L) : VRels μ (v :: l) (V :: L)
end

mutual
theorem VRel.mono {μ μ' : Inj} (hle : Inj.le μ μ') : ∀ {v V : Value}, VRel μ v V → VRel μ' v V
  | _, _, .top V => .top V
  | _, _, .bool b => .bool b
  | _, _, .int k n => .int k n
  | _, _, .float k n => .float k n
  | _, _, .complex k n m => .complex k n m
  | _, _, .string s => .string s
  | _, _, .nilFunc => .nilFunc
  | _, _, .nilIface => .nilIface
  | _, _, .ptrNil => .ptrNil
  | _, _, .mapNil => .mapNil
  | _, _, .sliceNil => .sliceNil
  | _, _, .ptr h => .ptr (hle _ _ h)
  | _, _, .slice h hl hr => .slice (hle _ _ h) hl hr
  | _, _, .sliceEnd h ho => .sliceEnd (hle _ _ h) ho
  | _, _, .map h => .map (hle _ _ h)
  | _, _, .func h1 h2 => .func (VRels.mono hle h1) (VRels.mono hle h2)
  | _, _, .iface h => .iface (VRel.mono hle h)
  | _, _, .agg h => .agg (VRels.mono hle h)
  | _, _, .tuple h => .tuple (VRels.mono hle h)
theorem VRels.mono {μ μ' : Inj} (hle : Inj.le μ μ') : ∀ {l L : List Value}, VRels μ l L → VRels μ' l L
  | _, _, .nil => .nil
  | _, _, .cons h hs => .cons (VRel.mono hle h) (VRels.mono hle hs)
end

theorem VRels.length {μ : Inj} : ∀ {l L : List Value}, VRels μ l L → l.length = L.length
  | _, _, .nil => rfl
  | _, _, .cons _ hs => by simp [VRels.length hs]

theorem VRels.get {μ : Inj} : ∀ {l L : List Value}, VRels μ l L → ∀ {j : Nat} {v : Value}, l[j]? = some v → ∃ V, L[j]? = some V ∧ VRel μ v V
  | _, _, .nil, j, v, h => by simp at h
  | _, _, .cons h0 hs, j, v, h => by
    cases j with
    | zero => simp at h; subst h; exact ⟨_, by simp, h0⟩
    | succ j => simp at h ⊢; exact VRels.get hs h

theorem VRels.of_get {μ : Inj} : ∀ {l L : List Value}, l.length = L.length → (∀ (j : Nat) (v V : Value), l[j]? = some v → L[j]? = some V → VRel μ v V) → VRels μ l L
  | [], [], _, _ => .nil
  | [], _ :: _, h, _ => by simp at h
  | _ :: _, [], h, _ => by simp at h
  | v :: l, V :: L, h, hh => .cons (hh 0 v V rfl rfl) (VRels.of_get (by simpa using h) fun j a b ha hb => hh (j + 1) a b (by simpa using ha) (by simpa using hb))

theorem VRels.append {μ : Inj} : ∀ {l L m M : List Value}, VRels μ l L → VRels μ m M → VRels μ (l ++ m) (L ++ M)
  | _, _, _, _, .nil, h => h
  | _, _, _, _, .cons h hs, k => .cons h (VRels.append hs k)

theorem VRels.map {μ : Inj} {α : Type} (f g : α → Value) : ∀ (l : List α), (∀ x ∈ l, VRel μ (f x) (g x)) → VRels μ (l.map f) (l.map g)
  | [], _ => .nil
  | x :: l, h => .cons (h x (by simp)) (VRels.map f g l fun y hy => h y (by simp [hy]))

theorem all_rels {μ : Inj} (p : Value → Bool) (hp : ∀ v, p v = true → VRel μ v v) : ∀ (l : List Value), l.all p = true → VRels μ l l
  | [], _ => .nil
  | v :: l, h => by simp at h; exact .cons (hp v h.1) (all_rels p hp l (by simpa using h.2))

theorem plainN_rel {μ : Inj} : ∀ (d : Nat) (v : Value), plainN d v = true → VRel μ v v
  | 0, _, h => by simp [plainN] at h
  | d + 1, v, h => by
    unfold plainN at h
    split at h
    any_goals (first | (cases h; done) | constructor; done)
    · exact .func .nil .nil
    · exact .agg (all_rels _ (plainN_rel d) _ h)
    · exact .tuple (all_rels _ (plainN_rel d) _ h)

theorem plain_rel {μ : Inj} {v : Value} (h : plain v = true) : VRel μ v v := plainN_rel 6 v h

theorem one_rel {μ : Inj} {v V : Value} (h1 : one v = true) (h : VRel μ v V) : V.oneCell' = true ∧ V.cells = #[V] := by
  cases h <;> first | (simp [one] at h1; done) | exact ⟨rfl, rfl⟩

theorem ones_rel {μ : Inj} : ∀ {l L : List Value}, l.all one = true → VRels μ l L → ∀ V ∈ L, V.oneCell' = true
  | _, _, _, .nil, V, h => by simp at h
  | _, _, h1, .cons h hs, V, hV => by
    simp only [List.all_cons, Bool.and_eq_true] at h1
    rcases List.mem_cons.1 hV with rfl | hV
    · exact (one_rel h1.1 h).1
    · exact ones_rel h1.2 hs V hV

theorem cellsOf_agg {cs : Array Value} {vs : List Value} (h : cellsOf (.agg cs) = some vs) : cs.toList.all one = true ∧ vs = cs.toList := by
  simp only [cellsOf] at h
  cases hc : cs.toList.all one <;> rw [hc] at h
  · cases h
  · simp only [cond_true, Option.some.injEq] at h
    exact ⟨rfl, h.symm⟩

theorem cellsOf_one {v : Value} {vs : List Value} (h : cellsOf v = some vs) : vs.all one = true := by
  cases v
  case agg cs =>
    obtain ⟨h1, rfl⟩ := cellsOf_agg h
    exact h1
  all_goals first | (cases h; done) | (injection h with h; subst h; rfl)

theorem cellsOf_rel {μ : Inj} {v V : Value} {vs : List Value} (h : cellsOf v = some vs) (hv : VRel μ v V) : VRels μ vs V.cells.toList := by
  have h1 := cellsOf_one h
  cases v
  case agg cs =>
    obtain ⟨_, rfl⟩ := cellsOf_agg h
    cases hv with
    | agg h => exact h
  all_goals first
    | (cases h; done)
    | (injection h with h; subst h
       simp only [List.all_cons, List.all_nil, Bool.and_true] at h1
       rw [(one_rel h1 hv).2]
       exact .cons hv .nil)

/-! ### Trees -/
theorem even_of {n : Nat} (h : Nat.beq (Nat.mod n 2) 0 = true) : n % 2 = 0 := Nat.eq_of_beq_eq_true h
theorem odd_of {n : Nat} (h : Nat.beq (Nat.mod n 2) 0 = false) : n % 2 = 1 := by
  have : n % 2 ≠ 0 := Nat.ne_of_beq_eq_false h
  omega
theorem div_def (n : Nat) : Nat.div n 2 = n / 2 := rfl

theorem Tr.get_one {α : Type} (v : α) : ∀ (f n m : Nat), n ≤ f → (Tr.one v f n).get m = if m = n then some v else none
  | 0, n, m, h => by
    obtain rfl : n = 0 := by omega
    cases m with
    | zero => rfl
    | succ m => cases hb : Nat.beq (Nat.mod m 2) 0 <;> simp [Tr.one_z, Tr.one_zero, Tr.one_succ, Tr.get_nil, Tr.get_zero, Tr.get_succ, hb]
  | f + 1, 0, m, h => by
    cases m with
    | zero => rfl
    | succ m => cases hb : Nat.beq (Nat.mod m 2) 0 <;> simp [Tr.one_z, Tr.one_zero, Tr.one_succ, Tr.get_nil, Tr.get_zero, Tr.get_succ, hb]
  | f + 1, n + 1, m, h => by
    have hd : Nat.div n 2 ≤ f := by rw [div_def]; omega
    have ih := fun k => Tr.get_one v f (Nat.div n 2) k hd
    cases hb : Nat.beq (Nat.mod n 2) 0 <;> cases m with
    | zero => simp [Tr.one_z, Tr.one_zero, Tr.one_succ, Tr.get_nil, Tr.get_zero, Tr.get_succ, hb]
    | succ m =>
      cases hc : Nat.beq (Nat.mod m 2) 0 <;> simp only [Tr.one_z, Tr.one_zero, Tr.one_succ, Tr.get_nil, Tr.get_zero, Tr.get_succ, hb, hc, cond_true, cond_false, ih] <;>
        (first | (have hb := even_of hb) | (have hb := odd_of hb)) <;> (first | (have hc := even_of hc) | (have hc := odd_of hc)) <;>
        (try simp only [div_def]) <;> first | (rw [if_neg (by omega)]; done) | (congr 1; simp only [eq_iff_iff]; omega)

theorem Tr.get_put {α : Type} (v : α) : ∀ (t : Tr α) (n m : Nat), (t.put n v).get m = if m = n then some v else t.get m
  | .nil, n, m => by
    simp only [Tr.put_nil, Tr.put_zero, Tr.put_succ, Tr.get_one v n n m (Nat.le_refl _), Tr.get_nil, Tr.get_zero, Tr.get_succ]
  | .node o l r, 0, m => by cases m <;> simp [Tr.put_nil, Tr.put_zero, Tr.put_succ, Tr.get_nil, Tr.get_zero, Tr.get_succ]
  | .node o l r, n + 1, 0 => by cases hb : Nat.beq (Nat.mod n 2) 0 <;> simp [Tr.put_nil, Tr.put_zero, Tr.put_succ, Tr.get_nil, Tr.get_zero, Tr.get_succ, hb]
  | .node o l r, n + 1, m + 1 => by
    have il := fun k => Tr.get_put v l (Nat.div n 2) k
    have ir := fun k => Tr.get_put v r (Nat.div n 2) k
    cases hb : Nat.beq (Nat.mod n 2) 0 <;> cases hc : Nat.beq (Nat.mod m 2) 0 <;> simp only [Tr.put_nil, Tr.put_zero, Tr.put_succ, Tr.get_nil, Tr.get_zero, Tr.get_succ, hb, hc, cond_true, cond_false, il, ir] <;>
      (first | (have hb := even_of hb) | (have hb := odd_of hb)) <;> (first | (have hc := even_of hc) | (have hc := odd_of hc)) <;>
      (try simp only [div_def]) <;> first | (rw [if_neg (by omega)]; done) | (congr 1; simp only [eq_iff_iff]; omega)

theorem Tr.get_upd {α : Type} (v : α) : ∀ (t : Tr α) (n m : Nat), (t.upd n v).get m = if m = n then (t.get m).map (fun _ => v) else t.get m
  | .nil, n, m => by simp [Tr.upd_nil, Tr.upd_zero, Tr.upd_succ, Tr.get_nil, Tr.get_zero, Tr.get_succ]
  | .node o l r, 0, m => by cases m <;> simp [Tr.upd_nil, Tr.upd_zero, Tr.upd_succ, Tr.get_nil, Tr.get_zero, Tr.get_succ]
  | .node o l r, n + 1, 0 => by cases hb : Nat.beq (Nat.mod n 2) 0 <;> simp [Tr.upd_nil, Tr.upd_zero, Tr.upd_succ, Tr.get_nil, Tr.get_zero, Tr.get_succ, hb]
  | .node o l r, n + 1, m + 1 => by
    have il := fun k => Tr.get_upd v l (Nat.div n 2) k
    have ir := fun k => Tr.get_upd v r (Nat.div n 2) k
    cases hb : Nat.beq (Nat.mod n 2) 0 <;> cases hc : Nat.beq (Nat.mod m 2) 0 <;> simp only [Tr.upd_nil, Tr.upd_zero, Tr.upd_succ, Tr.get_nil, Tr.get_zero, Tr.get_succ, hb, hc, cond_true, cond_false, il, ir] <;>
      (first | (have hb := even_of hb) | (have hb := odd_of hb)) <;> (first | (have hc := even_of hc) | (have hc := odd_of hc)) <;>
      (try simp only [div_def]) <;> first | (rw [if_neg (by omega)]; done) | (congr 1; simp only [eq_iff_iff]; omega)

theorem Tr.get_fill {α : Type} (v : α) : ∀ (f n m : Nat), n ≤ f → (Tr.fill v f n).get m = if m < n then some v else none
  | 0, n, m, h => by
    obtain rfl : n = 0 := by omega
    simp [Tr.fill_z, Tr.fill_zero, Tr.fill_succ, Tr.get_nil, Tr.get_zero, Tr.get_succ]
  | f + 1, 0, m, h => by simp [Tr.fill_z, Tr.fill_zero, Tr.fill_succ, Tr.get_nil, Tr.get_zero, Tr.get_succ]
  | f + 1, n + 1, 0, h => by simp [Tr.fill_z, Tr.fill_zero, Tr.fill_succ, Tr.get_nil, Tr.get_zero, Tr.get_succ]
  | f + 1, n + 1, m + 1, h => by
    have il := fun k => Tr.get_fill v f (Nat.div (n + 1) 2) k (by rw [div_def]; omega)
    have ir := fun k => Tr.get_fill v f (Nat.div n 2) k (by rw [div_def]; omega)
    cases hc : Nat.beq (Nat.mod m 2) 0 <;> simp only [Tr.fill_z, Tr.fill_zero, Tr.fill_succ, Tr.get_nil, Tr.get_zero, Tr.get_succ, hc, cond_true, cond_false, il, ir] <;>
      (first | (have hc := even_of hc) | (have hc := odd_of hc)) <;>
      (try simp only [div_def]) <;> (congr 1; simp only [eq_iff_iff]; omega)

theorem Heap.get_set (H : Heap) (i j : Nat) (o : Obj) : (H.set i o).get j = if j = i then some o else H.get j := Tr.get_put _ _ _ _
theorem Heap.get_new (H : Heap) (j : Nat) (o : Obj) : (H.new o).get j = if j = H.next then some o else H.get j := Tr.get_put _ _ _ _
@[simp] theorem Heap.next_set (H : Heap) (i : Nat) (o : Obj) : (H.set i o).next = H.next := rfl
@[simp] theorem Heap.next_new (H : Heap) (o : Obj) : (H.new o).next = H.next + 1 := rfl

/-! ### Memory -/
def cellsRel (μ : Inj) (c : List Value) (C : Array Value) (off : Nat) : Prop := ∀ j v, c[j]? = some v → ∃ V, C[off + j]? = some V ∧ VRel μ v V

theorem cellsRel.mono {μ μ' : Inj} (hle : Inj.le μ μ') {c : List Value} {C : Array Value} {off : Nat} (h : cellsRel μ c C off) : cellsRel μ' c C off :=
  fun j v e => let ⟨V, a, b⟩ := h j v e; ⟨V, a, b.mono hle⟩

inductive ERels (μ : Inj) : List MapEntry → List MapEntry → Prop
  | nil : ERels μ [] []
  | cons {e E : MapEntry} {l L : List MapEntry} (hk : VRel μ e.key E.key) (hv : VRel μ e.val E.val) (hb : e.born = E.born) (hs : ERels μ l L) : ERels μ (e :: l) (E :: L)

theorem ERels.mono {μ μ' : Inj} (hle : Inj.le μ μ') : ∀ {l L : List MapEntry}, ERels μ l L → ERels μ' l L
  | _, _, .nil => .nil
  | _, _, .cons hk hv hb hs => .cons (hk.mono hle) (hv.mono hle) hb (hs.mono hle)

def ORel (B0 : Nat) (μ : Inj) (w : World) (i : Nat) : Obj → Prop
  | .cells true z c => ∃ L C el, μ i = some L ∧ B0 ≤ L.blk ∧ L.esz = z ∧ w.heap[L.blk]? = some (.cells C el (0, 0)) ∧ c.length ≤ L.room ∧ L.off + L.room ≤ C.size ∧
      cellsRel μ c C L.off ∧ c.all one = true
  | .cells false z c => ∃ L, μ i = some L ∧ L.esz = z ∧ c.all one = true ∧ (c = [] ∨ ∃ C el fr, w.heap[L.blk]? = some (.cells C el fr) ∧ cellsRel μ c C L.off)
  | .map es clock => ∃ L ES, μ i = some L ∧ B0 ≤ L.blk ∧ w.heap[L.blk]? = some (.map ES clock) ∧ ERels μ es ES.toList
  | .dead => True

def Obj.isOwn : Obj → Bool
  | .cells b _ _ => b
  | .map _ _ => true
  | .dead => false

/-- It has cells that must stay. -/
def Obj.held : Obj → Bool
  | .cells b _ c => b || !c.isEmpty
  | .map _ _ => true
  | .dead => false
theorem held_of_own {o : Obj} (h : o.isOwn = true) : o.held = true := by
  cases o with
  | cells b z c =>
    have h : b = true := h
    subst h; rfl
  | map es ck => rfl
  | dead => cases h

structure HRel (E : Env) (B0 : Nat) (μ : Inj) (H : Heap) (w : World) : Prop where
  fresh : ∀ i, H.next ≤ i → μ i = none
  glob : ∀ g, g < E.ng → ∃ L, μ g = some L ∧ L.blk = g ∧ L.off = 0
  obj : ∀ i o, H.get i = some o → (∃ L, μ i = some L) → ORel B0 μ w i o
  apart : ∀ i j oi oj Li Lj, H.get i = some oi → H.get j = some oj → oi.isOwn = true → oj.held = true → μ i = some Li → μ j = some Lj → Li.blk = Lj.blk → i = j
  base : B0 ≤ w.heap.size

theorem ORel.mono {B0 : Nat} {μ μ' : Inj} (hle : Inj.le μ μ') {w : World} {i : Nat} : ∀ {o : Obj}, ORel B0 μ w i o → ORel B0 μ' w i o
  | .cells true _ _, ⟨L, C, el, h1, h2, h3, h4, h5, h6, h7, h8⟩ => ⟨L, C, el, hle _ _ h1, h2, h3, h4, h5, h6, h7.mono hle, h8⟩
  | .cells false _ _, ⟨L, h1, h3, h8, hc⟩ => ⟨L, hle _ _ h1, h3, h8, hc.imp id fun ⟨C, el, fr, h4, h7⟩ => ⟨C, el, fr, h4, h7.mono hle⟩⟩
  | .map _ _, ⟨L, ES, h1, h2, h3, h4⟩ => ⟨L, ES, hle _ _ h1, h2, h3, h4.mono hle⟩
  | .dead, _ => trivial

theorem ORel.own_loc {B0 : Nat} {μ : Inj} {w : World} {i : Nat} : ∀ {o : Obj}, ORel B0 μ w i o → o.isOwn = true → ∃ L, μ i = some L ∧ B0 ≤ L.blk ∧ L.blk < w.heap.size
  | .cells true _ _, ⟨L, C, el, h1, h2, h3, h4, _⟩, _ => ⟨L, h1, h2, by rcases Nat.lt_or_ge L.blk w.heap.size with h | h; exact h; rw [Array.getElem?_eq_none h] at h4; cases h4⟩
  | .map _ _, ⟨L, ES, h1, h2, h3, _⟩, _ => ⟨L, h1, h2, by rcases Nat.lt_or_ge L.blk w.heap.size with h | h; exact h; rw [Array.getElem?_eq_none h] at h3; cases h3⟩
  | .cells false _ _, _, h => by simp [Obj.isOwn] at h
  | .dead, _, h => by simp [Obj.isOwn] at h

theorem ORel.held_loc {B0 : Nat} {μ : Inj} {w : World} {i : Nat} : ∀ {o : Obj}, ORel B0 μ w i o → o.held = true → ∃ L, μ i = some L ∧ L.blk < w.heap.size
  | .cells true _ _, h, _ => let ⟨L, h1, _, h3⟩ := h.own_loc rfl; ⟨L, h1, h3⟩
  | .map _ _, h, _ => let ⟨L, h1, _, h3⟩ := h.own_loc rfl; ⟨L, h1, h3⟩
  | .cells false _ c, ⟨L, h1, _, _, hc⟩, hh => by
    rcases hc with hc | ⟨C, el, fr, h4, _⟩
    · subst hc; cases hh
    · exact ⟨L, h1, by rcases Nat.lt_or_ge L.blk w.heap.size with h | h; exact h; rw [Array.getElem?_eq_none h] at h4; cases h4⟩
  | .dead, _, h => by cases h

/-- What an object asks of the world is asked of its own block alone. -/
theorem ORel.world {B0 : Nat} {μ : Inj} {w w' : World} {i : Nat} : ∀ {o : Obj}, ORel B0 μ w i o → (∀ L, μ i = some L → L.blk < w.heap.size → w'.heap[L.blk]? = w.heap[L.blk]?) → ORel B0 μ w' i o
  | .cells true _ _, ⟨L, C, el, h1, h2, h3, h4, h5⟩, h => ⟨L, C, el, h1, h2, h3, by rw [h L h1 (lt_of h4)]; exact h4, h5⟩
  | .cells false _ _, ⟨L, h1, h3, h8, hc⟩, h => ⟨L, h1, h3, h8, hc.imp id fun ⟨C, el, fr, h4, h7⟩ => ⟨C, el, fr, by rw [h L h1 (lt_of h4)]; exact h4, h7⟩⟩
  | .map _ _, ⟨L, ES, h1, h2, h3, h4⟩, h => ⟨L, ES, h1, h2, by rw [h L h1 (lt_of h3)]; exact h3, h4⟩
  | .dead, _, _ => trivial
 where
  lt_of {w : World} {k : Nat} {x : Go.Obj} (h : w.heap[k]? = some x) : k < w.heap.size := by
    rcases Nat.lt_or_ge k w.heap.size with h' | h'
    · exact h'
    · rw [Array.getElem?_eq_none h'] at h; cases h

theorem HRel.world {E : Env} {B0 : Nat} {μ : Inj} {H : Heap} {w w' : World} (h : HRel E B0 μ H w) (hk : ∀ k, k < w.heap.size → w'.heap[k]? = w.heap[k]?) (hs : w.heap.size ≤ w'.heap.size) : HRel E B0 μ H w' where
  fresh := h.fresh
  glob := h.glob
  obj i o ho hm := (h.obj i o ho hm).world fun L _ hl => hk _ hl
  apart := h.apart
  base := Nat.le_trans h.base hs

theorem HRel.heap {E : Env} {B0 : Nat} {μ : Inj} {H : Heap} {w w' : World} (h : HRel E B0 μ H w) (hk : w'.heap = w.heap) : HRel E B0 μ H w' :=
  h.world (fun k _ => by rw [hk]) (by rw [hk]; exact Nat.le_refl _)

theorem HRel.drop {E : Env} {B0 : Nat} {μ : Inj} {H : Heap} {w : World} (h : HRel E B0 μ H w) (i : Nat) : HRel E B0 μ (H.set i .dead) w where
  fresh := h.fresh
  glob := h.glob
  obj j o ho hm := by
    rw [Heap.get_set] at ho
    split at ho
    · injection ho with ho; subst ho; trivial
    · exact h.obj j o ho hm
  apart := by
    intro a b oa ob La Lb ha hb wa wb ma mb hbl
    rw [Heap.get_set] at ha hb
    split at ha
    · injection ha with ha; subst ha; simp [Obj.isOwn] at wa
    · split at hb
      · injection hb with hb; subst hb; simp [Obj.held] at wb
      · exact h.apart a b oa ob La Lb ha hb wa wb ma mb hbl
  base := h.base

/-- A block of the model's that nothing owns is taken under a number that is free. -/
theorem HRel.adoptAt {E : Env} {B0 : Nat} {μ : Inj} {H H' : Heap} {w : World} (h : HRel E B0 μ H w) (d : Nat) (L : Loc) (o : Obj) (hd : μ d = none) (hg : ∀ j, H'.get j = if j = d then some o else H.get j)
    (hn : H.next ≤ H'.next) (hdn : d < H'.next) (hfree : ∀ i oi Li, H.get i = some oi → (o.isOwn = true ∧ oi.held = true ∨ oi.isOwn = true ∧ o.held = true) → μ i = some Li → Li.blk ≠ L.blk)
    (ho : ORel B0 (μ.add d L) w d o) : HRel E B0 (μ.add d L) H' w where
  fresh i hi := by
    unfold Inj.add
    rw [if_neg (by omega)]
    exact h.fresh i (by omega)
  glob g hg := by
    obtain ⟨K, h1, h2, h3⟩ := h.glob g hg
    exact ⟨K, Inj.le_add L hd _ _ h1, h2, h3⟩
  obj j x hx hm := by
    rw [hg] at hx
    split at hx
    · injection hx with hx; subst hx; subst_vars; exact ho
    · rename_i hne
      obtain ⟨K, hK⟩ := hm
      unfold Inj.add at hK
      rw [if_neg hne] at hK
      exact (h.obj j x hx ⟨K, hK⟩).mono (Inj.le_add L hd)
  apart := by
    intro a b oa ob La Lb ha hb wa wb ma mb hbl
    rw [hg] at ha hb
    unfold Inj.add at ma mb
    split at ha
    · rename_i e1
      split at hb
      · rename_i e2; rw [e1, e2]
      · rename_i e2
        rw [if_pos e1] at ma
        rw [if_neg e2] at mb
        injection ma with ma; subst ma
        injection ha with ha; subst ha
        exact absurd hbl.symm (hfree b ob Lb hb (.inl ⟨wa, wb⟩) mb)
    · rename_i e1
      rw [if_neg e1] at ma
      split at hb
      · rename_i e2
        rw [if_pos e2] at mb
        injection mb with mb; subst mb
        injection hb with hb; subst hb
        exact absurd hbl (hfree a oa La ha (.inr ⟨wa, wb⟩) ma)
      · rename_i e2
        rw [if_neg e2] at mb
        exact h.apart a b oa ob La Lb ha hb wa wb ma mb hbl
  base := h.base

theorem HRel.adopt {E : Env} {B0 : Nat} {μ : Inj} {H : Heap} {w : World} (h : HRel E B0 μ H w) (L : Loc) (o : Obj)
    (hfree : ∀ i oi Li, H.get i = some oi → (o.isOwn = true ∧ oi.held = true ∨ oi.isOwn = true ∧ o.held = true) → μ i = some Li → Li.blk ≠ L.blk)
    (ho : ORel B0 (μ.add H.next L) w H.next o) : HRel E B0 (μ.add H.next L) (H.new o) w :=
  h.adoptAt H.next L o (h.fresh _ (Nat.le_refl _)) (fun j => Heap.get_new H j o) (Nat.le_succ _) (Nat.lt_succ_self _) hfree ho

/-- The relation has grown: nothing that was has turned, what is new has new numbers. -/
def Grow (H : Heap) (μ : Inj) (H' : Heap) (μ' : Inj) : Prop := Inj.le μ μ' ∧ (∀ i, i < H.next → μ' i = μ i) ∧ H.next ≤ H'.next
theorem Grow.le {H H' : Heap} {μ μ' : Inj} (h : Grow H μ H' μ') : Inj.le μ μ' := h.1
theorem Grow.same {H H' : Heap} (μ : Inj) (h : H'.next = H.next) : Grow H μ H' μ := ⟨Inj.le_refl _, fun _ _ => rfl, by omega⟩
theorem Grow.refl (H : Heap) (μ : Inj) : Grow H μ H μ := Grow.same μ rfl
theorem Grow.trans {H H' H'' : Heap} {μ μ' μ'' : Inj} (h : Grow H μ H' μ') (k : Grow H' μ' H'' μ'') : Grow H μ H'' μ'' :=
  ⟨Inj.le_trans h.1 k.1, fun i hi => (k.2.1 i (by have := h.2.2; omega)).trans (h.2.1 i hi), Nat.le_trans h.2.2 k.2.2⟩
theorem Grow.new {H : Heap} {μ : Inj} (o : Obj) (L : Loc) (h : μ H.next = none) : Grow H μ (H.new o) (μ.add H.next L) :=
  ⟨Inj.le_add L h, fun i hi => by unfold Inj.add; rw [if_neg (by omega)], Nat.le_succ _⟩

theorem heap_alloc_self (w : World) (o : Go.Obj) : (w.alloc o).heap[w.heap.size]? = some o := by
  show (w.heap.push o)[w.heap.size]? = some o
  exact Array.getElem?_push_size

theorem HRel.alloc {E : Env} {B0 : Nat} {μ : Inj} {H : Heap} {w : World} (h : HRel E B0 μ H w) (o : Go.Obj) : HRel E B0 μ H (w.alloc o) :=
  h.world (fun k hk => Below.heap_alloc w o k hk) (by simp)

/-- A new row of cells. -/
theorem HRel.newCells {E : Env} {B0 : Nat} {μ : Inj} {H : Heap} {w : World} (h : HRel E B0 μ H w) (z room : Nat) (c : List Value) (C : Array Value) (el : TypeId)
    (hc : cellsRel μ c C 0) (h1 : c.length ≤ room) (h2 : room ≤ C.size) (hone : c.all one = true) :
    Grow H μ (H.new (.cells true z c)) (μ.add H.next ⟨w.heap.size, 0, room, z⟩) ∧ HRel E B0 (μ.add H.next ⟨w.heap.size, 0, room, z⟩) (H.new (.cells true z c)) (w.alloc (.cells C el)) ∧ Below B0 w (w.alloc (.cells C el)) := by
  have hle := Inj.le_add (⟨w.heap.size, 0, room, z⟩ : Loc) (h.fresh _ (Nat.le_refl _))
  refine ⟨Grow.new _ _ (h.fresh _ (Nat.le_refl _)), (h.alloc _).adopt _ _ ?_ ?_, (Below.refl _ _).alloc h.base _⟩
  · intro i oi Li hi hw hm
    obtain ⟨K, k1, k3⟩ := (h.obj i oi hi ⟨_, hm⟩).held_loc (hw.elim (fun h => h.2) fun h => held_of_own h.1)
    rw [hm] at k1
    injection k1 with k1
    subst k1
    exact fun e => by simp only at e; omega
  · exact ⟨_, C, el, Inj.add_self _ _ _, h.base, rfl, heap_alloc_self _ _, h1, by simpa using h2, hc.mono hle, hone⟩

theorem HRel.newMap {E : Env} {B0 : Nat} {μ : Inj} {H : Heap} {w : World} (h : HRel E B0 μ H w) (es : List MapEntry) (ES : Array MapEntry) (ck : Nat) (he : ERels μ es ES.toList) :
    Grow H μ (H.new (.map es ck)) (μ.add H.next ⟨w.heap.size, 0, 0, 0⟩) ∧ HRel E B0 (μ.add H.next ⟨w.heap.size, 0, 0, 0⟩) (H.new (.map es ck)) (w.alloc (.map ES ck)) ∧ Below B0 w (w.alloc (.map ES ck)) := by
  have hle := Inj.le_add (⟨w.heap.size, 0, 0, 0⟩ : Loc) (h.fresh _ (Nat.le_refl _))
  refine ⟨Grow.new _ _ (h.fresh _ (Nat.le_refl _)), (h.alloc _).adopt _ _ ?_ ?_, (Below.refl _ _).alloc h.base _⟩
  · intro i oi Li hi hw hm
    obtain ⟨K, k1, k3⟩ := (h.obj i oi hi ⟨_, hm⟩).held_loc (hw.elim (fun h => h.2) fun h => held_of_own h.1)
    rw [hm] at k1
    injection k1 with k1
    subst k1
    exact fun e => by simp only at e; omega
  · exact ⟨_, ES, Inj.add_self _ _ _, h.base, heap_alloc_self _ _, he.mono hle⟩

/-- A block of one's own is given another content. -/
theorem HRel.put {E : Env} {B0 : Nat} {μ : Inj} {H : Heap} {w w' : World} (h : HRel E B0 μ H w) {i : Nat} {o o' : Obj} {L : Loc} (hi : H.get i = some o) (hw : o.isOwn = true) (hw' : o'.isOwn = true) (hm : μ i = some L)
    (hk : ∀ k, k ≠ L.blk → w'.heap[k]? = w.heap[k]?) (hs : w'.heap.size = w.heap.size) (ho : ORel B0 μ w' i o') : HRel E B0 μ (H.set i o') w' where
  fresh := h.fresh
  glob := h.glob
  obj j x hx hmj := by
    rw [Heap.get_set] at hx
    split at hx
    · injection hx with hx; subst hx; subst_vars; exact ho
    · rename_i hne
      have hr := h.obj j x hx hmj
      obtain ⟨L', l1, l2, _⟩ := (h.obj i o hi ⟨_, hm⟩).own_loc hw
      rw [hm] at l1; injection l1 with l1; subst l1
      have key : ∀ K, μ j = some K → x.held = true → K.blk ≠ L.blk := fun K hK hx0 e => hne (h.apart i j o x L K hi hx hw hx0 hm hK e.symm).symm
      cases x with
      | dead => trivial
      | map es ck => exact hr.world fun K hK hlt => hk _ (key K hK rfl)
      | cells b z c =>
        cases b with
        | true => exact hr.world fun K hK hlt => hk _ (key K hK rfl)
        | false =>
          obtain ⟨K, q1, q2, q4, q5⟩ := hr
          by_cases hc : c = []
          · exact ⟨K, q1, q2, q4, .inl hc⟩
          · refine ⟨K, q1, q2, q4, q5.imp id fun ⟨C, el, fr, r2, r3⟩ => ⟨C, el, fr, ?_, r3⟩⟩
            rw [hk _ (key K q1 (by cases c with | nil => exact absurd rfl hc | cons v c => rfl))]
            exact r2
  apart := by
    intro a b oa ob La Lb ha hb wa wb ma mb hbl
    rw [Heap.get_set] at ha hb
    by_cases ea : a = i
    · by_cases eb : b = i
      · rw [ea, eb]
      · rw [if_neg eb] at hb
        subst ea
        exact h.apart _ b o ob La Lb hi hb hw wb ma mb hbl
    · rw [if_neg ea] at ha
      by_cases eb : b = i
      · subst eb
        exact h.apart a _ oa o La Lb ha hi wa (held_of_own hw) ma mb hbl
      · rw [if_neg eb] at hb
        exact h.apart a b oa ob La Lb ha hb wa wb ma mb hbl
  base := by rw [hs]; exact h.base

theorem setRow_other (w : World) (g k : Nat) (C : Array Value) (h : k ≠ g) : (w.setRow g C).heap[k]? = w.heap[k]? := by
  simp only [World.setRow, Array.getElem?_modify]
  rw [if_neg (fun e => h e.symm)]

theorem setRow_size (w : World) (g : Nat) (C : Array Value) : (w.setRow g C).heap.size = w.heap.size := by simp [World.setRow]

theorem setAt_length : ∀ (c : List Value) (o : Nat) (vs : List Value), (setAt c o vs).length = c.length
  | _, _, [] => rfl
  | c, o, v :: vs => by simp [setAt, setAt_length (c.set o v) (o + 1) vs]

theorem setAt_get : ∀ (vs c : List Value) (o j : Nat), o + vs.length ≤ c.length → (setAt c o vs)[j]? = if o ≤ j ∧ j < o + vs.length then vs[j - o]? else c[j]?
  | [], c, o, j, _ => by
    simp only [setAt, List.length_nil, Nat.add_zero]
    rw [if_neg (by omega)]
  | v :: vs, c, o, j, h => by
    simp only [List.length_cons] at h ⊢
    rw [setAt, setAt_get vs (c.set o v) (o + 1) j (by simp; omega)]
    by_cases h1 : o + 1 ≤ j ∧ j < o + 1 + vs.length
    · rw [if_pos h1, if_pos (by omega), show j - o = (j - (o + 1)) + 1 from by omega]
      rfl
    · rw [if_neg h1]
      by_cases h2 : o = j
      · subst h2
        rw [if_pos (by omega), List.getElem?_set_self (by omega), Nat.sub_self]
        rfl
      · rw [if_neg (by omega), List.getElem?_set_ne h2]

theorem setAt_one : ∀ (vs c : List Value) (o : Nat), c.all one = true → vs.all one = true → (setAt c o vs).all one = true
  | [], _, _, h, _ => h
  | v :: vs, c, o, h, h1 => by
    simp only [List.all_cons, Bool.and_eq_true] at h1
    refine setAt_one vs _ _ ?_ h1.2
    rw [List.all_eq_true] at h ⊢
    intro x hx
    rcases List.mem_or_eq_of_mem_set hx with hx | rfl
    · exact h x hx
    · exact h1.1

/-- The model's row with some cells from o on written over. -/
def spliced (C : Array Value) (o : Nat) (VS : List Value) : Array Value := (C.toList.take o ++ VS ++ C.toList.drop (o + VS.length)).toArray

theorem spliced_size (C : Array Value) (o : Nat) (VS : List Value) (h : o + VS.length ≤ C.size) : (spliced C o VS).size = C.size := by
  simp [spliced]; omega

theorem spliced_get (C : Array Value) (o : Nat) (VS : List Value) (h : o + VS.length ≤ C.size) (j : Nat) :
    (spliced C o VS)[j]? = if o ≤ j ∧ j < o + VS.length then VS[j - o]? else C[j]? := by
  unfold spliced
  rw [List.getElem?_toArray, List.append_assoc, List.getElem?_append]
  simp only [List.length_take, Array.length_toList]
  rw [Nat.min_eq_left (by omega)]
  by_cases h1 : j < o
  · rw [if_pos h1, if_neg (by omega), List.getElem?_take_of_lt h1, Array.getElem?_toList]
  · rw [if_neg h1, List.getElem?_append]
    by_cases h2 : j - o < VS.length
    · rw [if_pos h2, if_pos (by omega)]
    · rw [if_neg h2, if_neg (by omega), List.getElem?_drop, Array.getElem?_toList]
      congr 1; omega

theorem addr_add (g o n : Nat) : (⟨g, o, none⟩ : Addr).add n = ⟨g, o + n, none⟩ := by unfold Addr.add; split <;> simp_all

/-- Cells are stored into a block of one's own. -/
theorem HRel.storeCells {E : Env} {B0 : Nat} {μ : Inj} {H H' : Heap} {w : World} (h : HRel E B0 μ H w) {i o : Nat} {vs VS : List Value} {L : Loc} (hm : μ i = some L)
    (hs : storeCellsA H i o vs = some H') (hv : VRels μ vs VS) (h1 : vs.all one = true) (P : Program) :
    ∃ w', (Go.storeCells ⟨L.blk, L.off + o, none⟩ VS).run P w = .ok () w' ∧ HRel E B0 μ H' w' ∧ Below B0 w w' := by
  unfold storeCellsA at hs
  split at hs
  case h_2 => cases hs
  rename_i z c hg
  split at hs
  case isFalse => cases hs
  rename_i hl
  injection hs with hs; subst hs
  obtain ⟨L', C, el, k1, k2, k3, k4, k5, k6, k7, k8⟩ := h.obj i _ hg ⟨_, hm⟩
  rw [hm] at k1; injection k1 with k1; subst k1
  have hlen := hv.length
  have hrun := run_storeCells_at (P := P) L.blk (L.off + o) el VS 0 C w k4 (by omega) (ones_rel h1 hv)
  refine ⟨_, hrun, ?_, ?_⟩
  · have hsz : L.off + o + VS.length ≤ C.size := by omega
    refine h.put hg rfl rfl hm (fun k hk => setRow_other _ _ _ _ hk) (setRow_size _ _ _) ⟨L, spliced C (L.off + o) VS, el, hm, k2, k3, ?_, ?_, ?_, ?_, ?_⟩
    · simpa [spliced] using setRow_heap w L.blk C _ el _ k4
    · rw [setAt_length]; exact k5
    · rw [spliced_size _ _ _ hsz]; exact k6
    · intro j v hj
      rw [setAt_get _ _ _ _ hl] at hj
      rw [spliced_get _ _ _ hsz]
      split at hj
      · rename_i hb
        obtain ⟨V, hV, hr⟩ := hv.get hj
        rw [if_pos (by omega), show L.off + j - (L.off + o) = j - o from by omega]
        exact ⟨V, hV, hr⟩
      · rw [if_neg (by omega)]
        exact k7 j v hj
    · exact setAt_one _ _ _ k8 h1
  · refine ⟨rfl, rfl, rfl, by rw [setRow_size]; exact Nat.le_refl _, fun k hk => setRow_other _ _ _ _ (by omega)⟩
end Go.AS
