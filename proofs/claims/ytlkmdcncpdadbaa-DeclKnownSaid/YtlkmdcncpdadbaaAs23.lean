/-
  Words for proofs about what functions need: memory, maps, what stays.
-/
import Derived.Test.YtlkmdcncpdadbaaAs22
namespace Go.AS
open Go.RowKit
set_option linter.unusedVariables false

/-! ### Memory -/
theorem get_set (H : Heap) (i : Nat) (o : Obj) (j : Nat) : (H.set i o).get j = if j = i then some o else H.get j := Tr.get_put o H.tr i j
theorem get_new (H : Heap) (o : Obj) (j : Nat) : (H.new o).get j = if j = H.next then some o else H.get j := Tr.get_put o H.tr H.next j
theorem get_bump (H : Heap) (n j : Nat) : (H.bump n).get j = H.get j := rfl
theorem next_set (H : Heap) (i : Nat) (o : Obj) : (H.set i o).next = H.next := rfl
theorem next_new (H : Heap) (o : Obj) : (H.new o).next = H.next + 1 := rfl
theorem next_bump (H : Heap) (n : Nat) : (H.bump n).next = H.next + n := rfl
theorem get_set_self (H : Heap) (i : Nat) (o : Obj) : (H.set i o).get i = some o := by rw [get_set, if_pos rfl]
theorem get_set_ne {H : Heap} {i j : Nat} {o : Obj} (h : j ≠ i) : (H.set i o).get j = H.get j := by rw [get_set, if_neg h]
theorem get_new_self (H : Heap) (o : Obj) : (H.new o).get H.next = some o := by rw [get_new, if_pos rfl]
theorem get_new_lt {H : Heap} {j : Nat} {o : Obj} (h : j < H.next) : (H.new o).get j = H.get j := by rw [get_new, if_neg (by omega)]
theorem get_new_ne {H : Heap} {j : Nat} {o : Obj} (h : j ≠ H.next) : (H.new o).get j = H.get j := by rw [get_new, if_neg h]
theorem cell_bump (H : Heap) (n i o : Nat) : (H.bump n).cell i o = H.cell i o := rfl

theorem cell_of {H : Heap} {i : Nat} {w : Bool} {z : Nat} {c : List Value} (h : H.get i = some (.cells w z c)) (o : Nat) : H.cell i o = c[o]? := by
  unfold Heap.cell; rw [h]
theorem cellsAt_of {H : Heap} {i : Nat} {w : Bool} {z : Nat} {c : List Value} (h : H.get i = some (.cells w z c)) (o n : Nat) : H.cellsAt i o n = takeAt c o n := by
  unfold Heap.cellsAt; rw [h]
theorem entries_of {H : Heap} {i : Nat} {es : List MapEntry} {ck : Nat} (h : H.get i = some (.map es ck)) : entriesOf H (some i) = some es := by
  unfold entriesOf; simp only [h]

theorem stc_of {H : Heap} {i o z : Nat} {c vs : List Value} {K : Heap → Prop} (h : H.get i = some (.cells true z c)) (hl : o + vs.length ≤ c.length) (k : K (H.set i (.cells true z (setAt c o vs)))) : stc H i o vs K := ⟨z, c, h, hl, k⟩

theorem stc_of' {H : Heap} {i o z : Nat} {c vs : List Value} {K : Heap → Prop} (h : H.get i = some (.cells true z c)) (hl : o + vs.length ≤ c.length) (k : ∀ H', H' = H.set i (.cells true z (setAt c o vs)) → K H') : stc H i o vs K := ⟨z, c, h, hl, k _ rfl⟩

theorem nwH_in {H : Heap} {o : Obj} {K : Nat → Heap → Prop} (k : ∀ i H', i = H.next → H' = H.new o → K i H') : nwH H o K := k _ _ rfl rfl

/-- An append that makes a new row. -/
theorem apd_grow {H : Heap} {bytes es i o len n : Nat} {c old new : List Value} {K : Option Addr → Nat → Heap → Prop} (h : H.get i = some (.cells true es c)) (hn : 0 < n) (hc : c.length < o + (len + n) * es) (ho : takeAt c o (len * es) = some old)
    (hl : (len + n) * bytes ≤ 140737488355328) (k : ∀ j H', j = H.next → H' = (H.set i .dead).new (.cells true es (old ++ new)) → K (some ⟨j, 0, none⟩) (len + n) H') : apd H bytes es (some ⟨i, o, none⟩) len n new K :=
  .inr ⟨hn, .inr ⟨i, o, c, rfl, h, .inr ⟨hc, old, ho, hl, k _ _ rfl rfl⟩⟩⟩
theorem apd_first {H : Heap} {bytes es n : Nat} {new : List Value} {K : Option Addr → Nat → Heap → Prop} (hn : 0 < n) (hl : n * bytes ≤ 140737488355328) (k : ∀ j H', j = H.next → H' = H.new (.cells true es new) → K (some ⟨j, 0, none⟩) n H') : apd H bytes es none 0 n new K :=
  .inr ⟨hn, .inl ⟨rfl, rfl, hl, k _ _ rfl rfl⟩⟩

theorem asAddr_some {i o : Nat} {K : Nat → Nat → Prop} : asAddr (.pointer (some ⟨i, o, none⟩)) K = K i o := rfl
theorem asRow_some {i o : Nat} {K : Nat → Nat → Prop} : asRow (some ⟨i, o, none⟩) K = K i o := rfl
theorem asFn_func {f : FuncId} {fs cs : Array Value} {K : FuncId → List Value → List Value → Prop} : asFn (.func (.func f) fs cs) K = K f fs.toList cs.toList := rfl
theorem asInt_int {k : IntKind} {n : Int} {K : Int → Prop} : asInt k (.int k n) K = K n := by simp [asInt]
theorem asBool_bool {b : Bool} {K : Bool → Prop} : asBool (.bool b) K = K b := rfl
theorem asPtr_ptr {p : Option Addr} {K : Option Addr → Prop} : asPtr (.pointer p) K = K p := rfl
theorem asMap_map {p : Option Nat} {K : Option Nat → Prop} : asMap (.map p) K = K p := rfl
theorem asSl_slice {a : Option Addr} {l : Nat} {K : Option Addr → Nat → Prop} : asSl (.slice a l 0) K = K a l := rfl
theorem asSlice_slice {a : Option Addr} {l c : Nat} {K : Option Addr → Nat → Prop} : asSlice (.slice a l c) K = K a l := rfl

theorem cond_no {b : Bool} {p q : Prop} (h : b = false) (hq : q) : cond b p q := by subst h; exact hq
theorem cond_yes {b : Bool} {p q : Prop} (h : b = true) (hp : p) : cond b p q := by subst h; exact hp

/-- a test -/
theorem cond_of {b : Bool} {p q : Prop} (h1 : b = true → p) (h2 : b = false → q) : cond b p q := by
  cases b with
  | true => exact h1 rfl
  | false => exact h2 rfl

/-! ### What stays -/
/-- All blocks that were there, but for those named, are as they were. -/
def Frm (S : List Nat) (H H' : Heap) : Prop := H.next ≤ H'.next ∧ ∀ j, j < H.next → j ∉ S → H'.get j = H.get j

theorem Frm.refl (S : List Nat) (H : Heap) : Frm S H H := ⟨Nat.le_refl _, fun _ _ _ => rfl⟩
theorem Frm.trans {S S' : List Nat} {H H1 H2 : Heap} (h : Frm S H H1) (k : Frm S' H1 H2) (hs : ∀ j ∈ S', j ∈ S ∨ H.next ≤ j) : Frm S H H2 :=
  ⟨Nat.le_trans h.1 k.1, fun j hj hn => by
    rw [k.2 j (Nat.lt_of_lt_of_le hj h.1) (fun hm => by rcases hs j hm with h1 | h1; exact hn h1; omega), h.2 j hj hn]⟩
theorem Frm.mono {S S' : List Nat} {H H' : Heap} (h : Frm S H H') (hs : ∀ j ∈ S, j ∈ S') : Frm S' H H' := ⟨h.1, fun j hj hn => h.2 j hj fun hm => hn (hs j hm)⟩
theorem Frm.set {S : List Nat} {H H' : Heap} (h : Frm S H H') {i : Nat} (o : Obj) (hi : i ∈ S ∨ H.next ≤ i) : Frm S H (H'.set i o) :=
  ⟨h.1, fun j hj hn => by
    rw [get_set_ne (fun e => by subst e; rcases hi with h1 | h1; exact hn h1; omega), h.2 j hj hn]⟩
theorem Frm.new {S : List Nat} {H H' : Heap} (h : Frm S H H') (o : Obj) : Frm S H (H'.new o) :=
  ⟨Nat.le_succ_of_le h.1, fun j hj hn => by
    have := h.1
    rw [get_new_ne (by omega), h.2 j hj hn]⟩
theorem Frm.bump {S : List Nat} {H H' : Heap} (h : Frm S H H') (n : Nat) : Frm S H (H'.bump n) :=
  ⟨Nat.le_trans h.1 (Nat.le_add_right _ _), h.2⟩

/-! ### Maps with numbers as keys -/
section maps
variable {α : Type} (key : α → Int) (val : α → Value) (born : α → Nat) (ik : IntKind)

def ent (a : α) : MapEntry := { key := .int ik (key a), val := val a, born := born a }

theorem sameNow_int (k j : Int) : Instr.sameNow (.int ik) (.int ik k) (.int ik j) = some (k == j) := by simp [Instr.sameNow]

theorem findNow_int (k : Int) : ∀ (l : List α) (i : Nat),
    Instr.findNow (.int ik) (.int ik k) (l.map (ent key val born ik)) i = some (((l.findIdx? fun a => key a == k)).map fun j => (i + j, ((l[j]?).map val).getD undef))
  | [], i => by simp [Instr.findNow]
  | a :: l, i => by
    simp only [List.map_cons, Instr.findNow]
    have e : Instr.sameNow (.int ik) (.int ik k) (ent key val born ik a).key = some (k == key a) := by simp [Instr.sameNow, ent]
    rw [e]
    by_cases h : k = key a
    · subst h
      simp [ent, List.findIdx?_cons]
    · have h1 : (k == key a) = false := by simpa using h
      have h2 : (key a == k) = false := by simpa using Ne.symm h
      rw [h1]
      simp only
      rw [findNow_int k l (i + 1), List.findIdx?_cons, h2]
      simp only [Bool.false_eq_true, if_false, Option.map_map]
      congr 2
      funext j
      simp [Nat.add_assoc, Nat.add_comm 1 j]
end maps

/-! ### From the plain machine to the model -/
theorem CA_conseq {E : Env} {f : FuncId} {args : List Value} {H : Heap} {R R' : Value → Heap → Prop} (hr : ∀ v H', R v H' → R' v H') (h : CA E f args H R) : CA E f args H R' := h.mono hr

theorem calls_of_CA {E : Env} (hE : E.Ok) (hmix : E.prog.follows .mixedOrders = true) {f : FuncId} {args : List Value} {H : Heap} {b : Bool} (h : CA E f args H fun v _ => v = .bool b) {μ : Inj} {w : World} {ARGS : Array Value}
    (hH : HRel E w.heap.size μ H w) (ha : VRels μ args ARGS.toList) : Calls E.prog f ARGS w fun e w' => e = .returned (.bool b) ∧ Below w.heap.size w w' := by
  obtain ⟨n, v, H', h1, rfl⟩ := h
  refine (sem_ok hE hmix w.heap.size n f args H _ H' h1 μ w ARGS hH ha).mono ?_
  rintro e w' ⟨V, μ', rfl, h2, h3, h4, h5⟩
  cases h3
  exact ⟨rfl, h5⟩
end Go.AS
