/-
  What a piece of code needs, with cuts: behind a part of the text that may end in many ways, what is to hold there is said once.
-/
import Derived.Test.YtlkmdcncpdadbaaAs22
namespace Go.AS
open Go.RowKit
set_option linter.unusedVariables false

noncomputable section
def allOne (z : Value) (P : Value → Prop) : Prop :=
  match z with
  | .int k _ => ∀ n, P (.int k n)
  | .bool _ => ∀ b, P (.bool b)
  | .slice _ _ _ => ∀ a l, P (.slice a l 0)
  | .pointer _ => ∀ p, P (.pointer p)
  | .map _ => ∀ m, P (.map m)
  | _ => ∀ v, P v

def allCells : List Value → (List Value → Prop) → Prop
  | [], P => P []
  | z :: zs, P => allOne z fun v => allCells zs fun l => P (v :: l)

def allLike (z : Value) (P : Value → Prop) : Prop :=
  match z with
  | .agg cs => allCells cs.toList fun l => P (.agg ⟨l⟩)
  | z => allOne z P

def findS : Sorts → Nat → Option Value
  | [], _ => none
  | (k, v) :: l, w => bif Nat.beq k w then some v else findS l w

/-- Where the first part ends. -/
def cutOut (Z : Sorts) (xs : Fr) : List Nat → List Value → (List Value → Prop) → Prop
  | [], vs, K => K vs
  | w :: ws, vs, K => match findS Z w with
    | none => cutOut Z xs ws vs K
    | some z => asLike z (xs.getD w undef) fun v => cutOut Z xs ws (vs ++ [v]) K

/-- Where the second one begins. -/
def cutIn (Z : Sorts) (ys : Fr) : List Nat → Fr → List Value → (List Value → Fr → Prop) → Prop
  | [], acc, vs, K => K vs acc
  | w :: ws, acc, vs, K => match findS Z w with
    | none => cutIn Z ys ws (acc.set w (ys.getD w undef)) vs K
    | some z => allLike z fun v => cutIn Z ys ws (acc.set w v) (vs ++ [v]) K

def seqsN : Code → Nat
  | .seq a b => seqsN a + seqsN b + 1
  | .cond _ a b => seqsN a + seqsN b
  | .block _ b => seqsN b
  | .scope b => seqsN b
  | _ => 0

abbrev Cuts := List (Option Sorts)

def wpCodeC (E : Env) : Code → Cuts → List Sorts → Fr → Heap → (X → Fr → Heap → Prop) → Prop
  | .skip, _, _, xs, H, Q => Q .normal xs H
  | .label _, _, _, xs, H, Q => Q .normal xs H
  | .region _ ops d, _, _, xs, H, Q => bif d then wpDraw E ops xs H (Q .normal) else wpOps E ops ops.toList xs H (Q .normal)
  | .seq a b, C, Z, xs, H, Q => match C.headD none with
    | none => wpCodeC E a C.tail Z xs H fun x xs H => match x with
      | .normal => wpCodeC E b (C.tail.drop (seqsN a)) (Z.drop (loopsN a)) xs H Q
      | .exit id => Q (.exit id) xs H
      | .ret => Q .ret xs H
    | some S => ∃ J : List Value → Heap → Prop, (wpCodeC E a C.tail Z xs H fun x xs' H' => match x with
      | .normal => cutOut S xs' (writes a) [] fun vs => J vs H'
      | .exit id => Q (.exit id) xs' H'
      | .ret => Q .ret xs' H') ∧
      ∀ (ys : Fr) (H' : Heap), cutIn S ys (writes a) xs [] fun vs xs'' => J vs H' → wpCodeC E b (C.tail.drop (seqsN a)) (Z.drop (loopsN a)) xs'' H' Q
  | .cond c a b, C, Z, xs, H, Q => match c with
    | .tmp t => asBool (xs.getD t undef) fun v => cond v (wpCodeC E a C Z (xs.set t (.bool true)) H Q) (wpCodeC E b (C.drop (seqsN a)) (Z.drop (loopsN a)) (xs.set t (.bool false)) H Q)
    | c => asBool (evL E xs c) fun v => cond v (wpCodeC E a C Z xs H Q) (wpCodeC E b (C.drop (seqsN a)) (Z.drop (loopsN a)) xs H Q)
  | .block id b, C, Z, xs, H, Q => wpCodeC E b C Z xs H fun x xs H => match x with
    | .normal => Q .normal xs H
    | .exit j => bif Nat.beq j id then Q .normal xs H else Q (.exit j) xs H
    | .ret => Q .ret xs H
  | .loop b, _, Z, xs, H, Q => LA E b xs H ((exitsIn b []).map fun x => (x, fun xs' H' => outOf (Z.headD []) (writes b) xs (fun xs'' => Q x xs'' H') xs'))
  | .exit id, _, _, xs, H, Q => Q (.exit id) xs H
  | .ret, _, _, xs, H, Q => Q .ret xs H
  | .scope b, C, Z, xs, H, Q => wpCodeC E b C Z xs H Q
  | _, _, _, _, _, _ => False

def wpFnC (E : Env) (C : Cuts) (Z : List Sorts) (fn : Func) (args : List Value) (H : Heap) (R : Value → Heap → Prop) : Prop :=
  match fn.body with
  | some c => bif Nat.ble args.length fn.ntmps then wpCodeC E c C Z (fr0 fn.ntmps args) H (backL E fn R) else False
  | none => False
end

section
variable {E : Env}

theorem asLike0_all {z v : Value} {K P : Value → Prop} (h : asLike0 z v K) (k : allOne z P) : P v := by
  unfold asLike0 at h
  unfold allOne at k
  split at h
  · obtain ⟨n, rfl, _⟩ := asInt_elim h; exact k n
  · obtain ⟨n, rfl, _⟩ := asBool_elim h; exact k n
  · obtain ⟨a, l, rfl, _⟩ := asSl_elim h; exact k a l
  · obtain ⟨n, rfl, _⟩ := asPtr_elim h; exact k n
  · obtain ⟨n, rfl, _⟩ := asMap_elim h; exact k n
  · rename_i h1 h2 h3 h4 h5
    split at k
    · exact (h1 _ _ rfl).elim
    · exact (h2 _ rfl).elim
    · exact (h3 _ _ _ rfl).elim
    · exact (h4 _ rfl).elim
    · exact (h5 _ rfl).elim
    · exact k v

theorem asLikes_all : ∀ {zs vs : List Value} {K P : List Value → Prop}, asLikes zs vs K → allCells zs P → P vs
  | [], [], K, P, h, k => k
  | [], _ :: _, K, P, h, k => h.elim
  | _ :: _, [], K, P, h, k => h.elim
  | z :: zs, v :: vs, K, P, h, k => by
    have k1 : allCells zs fun l => P (v :: l) := asLike0_all h k
    exact asLikes_all (K := fun l => K (v :: l)) (P := fun l => P (v :: l)) (asLike0_self h) k1

theorem asLike_all {z v : Value} {K P : Value → Prop} (h : asLike z v K) (k : allLike z P) : P v := by
  unfold asLike at h
  unfold allLike at k
  split at h
  · obtain ⟨l, rfl, h⟩ := asAgg_elim h
    exact asLikes_all h k
  · rename_i hz
    split at k
    · exact (hz _ rfl).elim
    · exact asLike0_all h k

theorem cut_ok {Z : Sorts} {xs : Fr} {J : List Value → Prop} {B : Fr → Prop} : ∀ (ws : List Nat) (acc : Fr) (vs : List Value), acc.length = xs.length → (∀ k, k ∉ ws → acc[k]? = xs[k]?) →
    cutOut Z xs ws vs J → cutIn Z xs ws acc vs (fun vs xs'' => J vs → B xs'') → B xs
  | [], acc, vs, hl, hs, h1, h2 => by
    have : acc = xs := List.ext_getElem? fun k => hs k (by simp)
    subst this
    exact h2 h1
  | w :: ws, acc, vs, hl, hs, h1, h2 => by
    have next : ∀ k, k ∉ ws → (acc.set w (xs.getD w undef))[k]? = xs[k]? := by
      intro k hk
      by_cases e : k = w
      · subst e
        by_cases hlt : k < xs.length
        · rw [List.getElem?_set_self (by omega), List.getD_eq_getElem?_getD]
          simp [hlt]
        · rw [List.getElem?_eq_none (by simp; omega), List.getElem?_eq_none (by omega)]
      · rw [List.getElem?_set_ne (Ne.symm e)]
        exact hs k (by simp [e, hk])
    simp only [cutOut] at h1
    simp only [cutIn] at h2
    cases hf : findS Z w with
    | none =>
      rw [hf] at h1 h2
      exact cut_ok ws _ vs (by simpa using hl) next h1 h2
    | some z =>
      rw [hf] at h1 h2
      have k2 := asLike_all h1 h2
      exact cut_ok ws _ _ (by simpa using hl) next (asLike_self h1) k2

theorem wpCodeC_ok : ∀ (c : Code) {C : Cuts} {Z : List Sorts} {xs : Fr} {H : Heap} {Q : X → Fr → Heap → Prop}, wpCodeC E c C Z xs H Q →
    WA E c (ofL xs) H fun x T H' => ∃ xs', T = ofL xs' ∧ xs'.length = xs.length ∧ (∀ k, k ∉ writes c → xs'[k]? = xs[k]?) ∧ Q x xs' H' := by
  intro c
  induction c with
  | skip => intro C Z xs H Q h; exact WA_skip ⟨xs, rfl, rfl, fun _ _ => rfl, h⟩
  | label l => intro C Z xs H Q h; exact ⟨0, .normal, ⟨ofL xs, H⟩, rfl, xs, rfl, rfl, fun _ _ => rfl, h⟩
  | exit id => intro C Z xs H Q h; exact WA_exit ⟨xs, rfl, rfl, fun _ _ => rfl, h⟩
  | ret => intro C Z xs H Q h; exact WA_ret ⟨xs, rfl, rfl, fun _ _ => rfl, h⟩
  | scope b ih => intro C Z xs H Q h; exact WA_scope (ih h)
  | region id ops d =>
    intro C Z xs H Q h
    cases d with
    | false => exact WA_region (wpOps_ok h)
    | true =>
      obtain ⟨n, s, h1, h2⟩ := wpDraw_ok h
      exact ⟨n, .normal, s, by simp only [runCode, cond_true]; rw [h1], h2⟩
  | seq a b iha ihb =>
    intro C Z xs H Q h
    have goal : ∃ (Z' : List Sorts) (C' : Cuts), WA E a (ofL xs) H fun x T H' => ∃ xs', T = ofL xs' ∧ xs'.length = xs.length ∧ (∀ k, k ∉ writes a → xs'[k]? = xs[k]?) ∧
        (match x with
        | .normal => wpCodeC E b C' Z' xs' H' Q
        | .exit id => Q (.exit id) xs' H'
        | .ret => Q .ret xs' H') := by
      simp only [wpCodeC] at h
      split at h
      · exact ⟨_, _, iha h⟩
      · obtain ⟨J, h1, h2⟩ := h
        refine ⟨Z.drop (loopsN a), C.tail.drop (seqsN a), (iha h1).mono ?_⟩
        rintro x T H' ⟨xs', rfl, g1, g2, g3⟩
        refine ⟨xs', rfl, g1, g2, ?_⟩
        cases x with
        | normal => exact cut_ok (writes a) xs [] g1.symm (fun k hk => (g2 k hk).symm) g3 (h2 xs' H')
        | exit id => exact g3
        | ret => exact g3
    obtain ⟨Z', C', h⟩ := goal
    refine WA_seq (h.mono ?_)
    rintro x T H' ⟨xs', rfl, h1, h2, h3⟩
    have lift : ∀ xs'' : Fr, xs''.length = xs'.length → (∀ k, k ∉ writes b → xs''[k]? = xs'[k]?) → xs''.length = xs.length ∧ ∀ k, k ∉ writes (.seq a b) → xs''[k]? = xs[k]? := by
      intro xs'' g1 g2
      refine ⟨g1.trans h1, fun k hk => ?_⟩
      have : k ∉ writes a ∧ k ∉ writes b := by
        simp only [writes, writesIn] at hk
        rw [writesIn_iff] at hk
        exact ⟨fun e => hk (.inl e), fun e => hk (.inr e)⟩
      exact (g2 k this.2).trans (h2 k this.1)
    cases x with
    | normal =>
      simp only [XThen]
      refine (ihb h3).mono ?_
      rintro y T H' ⟨xs'', rfl, g1, g2, g3⟩
      exact ⟨xs'', rfl, (lift xs'' g1 g2).1, (lift xs'' g1 g2).2, g3⟩
    | exit id => exact ⟨xs', rfl, (lift xs' rfl fun _ _ => rfl).1, (lift xs' rfl fun _ _ => rfl).2, h3⟩
    | ret => exact ⟨xs', rfl, (lift xs' rfl fun _ _ => rfl).1, (lift xs' rfl fun _ _ => rfl).2, h3⟩
  | cond c a b iha ihb =>
    intro C Z xs H Q h
    have goal : ∃ t, ev E (ofL xs) c = .bool t ∧ if t = true then wpCodeC E a C Z xs H Q else wpCodeC E b (C.drop (seqsN a)) (Z.drop (loopsN a)) xs H Q := by
      simp only [wpCodeC] at h
      rw [ev_ofL]
      split at h
      · rename_i t
        obtain ⟨v, h1, h2⟩ := asBool_elim h
        refine ⟨v, h1, ?_⟩
        have hs : xs.set t (.bool v) = xs := by
          by_cases hlt : t < xs.length
          · refine set_self ?_
            rw [List.getD_eq_getElem?_getD] at h1
            simp only [hlt, List.getElem?_eq_getElem, Option.getD_some] at h1 ⊢
            rw [h1]
          · exact List.set_eq_of_length_le (Nat.le_of_not_lt hlt)
        cases v with
        | true => rw [if_pos rfl]; simp only [cond_true, hs] at h2; exact h2
        | false => rw [if_neg (by simp)]; simp only [cond_false, hs] at h2; exact h2
      · obtain ⟨v, h1, h2⟩ := asBool_elim h
        refine ⟨v, h1, ?_⟩
        cases v with
        | true => rw [if_pos rfl]; exact h2
        | false => rw [if_neg (by simp)]; exact h2
    obtain ⟨t, h1, h2⟩ := goal
    refine WA_cond h1 ?_
    have sub : ∀ k, k ∉ writes (.cond c a b) → k ∉ writes a ∧ k ∉ writes b := by
      intro k hk
      simp only [writes, writesIn] at hk
      rw [writesIn_iff] at hk
      exact ⟨fun e => hk (.inl e), fun e => hk (.inr e)⟩
    cases t with
    | true =>
      rw [if_pos rfl] at h2 ⊢
      refine (iha h2).mono ?_
      rintro x T H' ⟨xs', rfl, g1, g2, g3⟩
      exact ⟨xs', rfl, g1, fun k hk => g2 k (sub k hk).1, g3⟩
    | false =>
      rw [if_neg (by simp)] at h2 ⊢
      refine (ihb h2).mono ?_
      rintro x T H' ⟨xs', rfl, g1, g2, g3⟩
      exact ⟨xs', rfl, g1, fun k hk => g2 k (sub k hk).2, g3⟩
  | block id b ih =>
    intro C Z xs H Q h
    refine WA_block ((ih h).mono ?_)
    rintro x T H' ⟨xs', rfl, g1, g2, g3⟩
    cases x with
    | normal => exact ⟨xs', rfl, g1, g2, g3⟩
    | ret => exact ⟨xs', rfl, g1, g2, g3⟩
    | exit j =>
      simp only [XBlock]
      cases hb : Nat.beq j id with
      | true =>
        rw [if_pos (Nat.eq_of_beq_eq_true hb)]
        simp only [hb, cond_true] at g3
        exact ⟨xs', rfl, g1, g2, g3⟩
      | false =>
        rw [if_neg (Nat.ne_of_beq_eq_false hb)]
        simp only [hb, cond_false] at g3
        exact ⟨xs', rfl, g1, g2, g3⟩
  | loop b ih =>
    intro C Z xs H Q h
    have h0 : LA E b xs H ((exitsIn b []).map fun x => (x, fun xs' H' => outOf (Z.headD []) (writes b) xs (fun xs'' => Q x xs'' H') xs')) := h
    refine WA.mono h0 ?_
    rintro x T H' ⟨xs', rfl, g1, g2, p, hp, rfl, g3⟩
    refine ⟨xs', rfl, g1, g2, ?_⟩
    simp only [List.mem_map] at hp
    obtain ⟨y, hy, rfl⟩ := hp
    exact outOf_ok (writes b) xs g1.symm (fun k hk => (g2 k hk).symm) g3
  | _ => intro C Z xs H Q h; exact h.elim

theorem wpFnC_ok {f : FuncId} {fn : Func} (ht : E.truth f = false) (hf : E.fn f = some fn) {args : List Value} {H : Heap} {R : Value → Heap → Prop} {C : Cuts} {Z : List Sorts} (h : wpFnC E C Z fn args H R) : CA E f args H R := by
  unfold wpFnC at h
  split at h
  · rename_i c hc
    cases hb : Nat.ble args.length fn.ntmps with
    | false => rw [hb] at h; exact h.elim
    | true =>
      rw [hb] at h
      simp only [cond_true] at h
      refine CA_enter ht hf hc (initT_ofL (Nat.le_of_ble_eq_true hb)) ((wpCodeC_ok c h).mono ?_)
      rintro x T H' ⟨xs', rfl, g1, g2, g3⟩
      cases x with
      | normal => exact resOfL_ok g3
      | ret => exact resOfL_ok g3
      | exit id => exact g3.elim
  · exact h.elim

theorem LA_ruleC {b : Code} {xs : Fr} {C : Cuts} {Z : List Sorts} (P : Nat → Fr → Heap → Prop) {Ks : List (X × (Fr → Heap → Prop))}
    (hstep : ∀ n H, outAll (writes b) xs fun xs' => P n xs' H → wpCodeC E b C Z xs' H (loopQ P n Ks)) (n : Nat) (H : Heap) (h : P n xs H) : LA E b xs H Ks := by
  have key : ∀ n (xs1 : Fr) (H : Heap), xs1.length = xs.length → (∀ k, k ∉ writes b → xs1[k]? = xs[k]?) → P n xs1 H →
      WA E (.loop b) (ofL xs1) H fun x T H' => ∃ xs', T = ofL xs' ∧ xs'.length = xs.length ∧ (∀ k, k ∉ writes b → xs'[k]? = xs[k]?) ∧ ∃ p ∈ Ks, p.1 = x ∧ p.2 xs' H' := by
    intro n
    induction n using Nat.strongRecOn with
    | _ n ih =>
      intro xs1 H hl hs hP
      have h1 := outAll_ok (writes b) xs hl.symm (fun k hk => (hs k hk).symm) (hstep n H) hP
      refine WA_loop ((wpCodeC_ok b h1).mono ?_)
      rintro x T H' ⟨xs', rfl, g1, g2, g3⟩
      have s1 : xs'.length = xs.length := g1.trans hl
      have s2 : ∀ k, k ∉ writes b → xs'[k]? = xs[k]? := fun k hk => (g2 k hk).trans (hs k hk)
      cases x with
      | normal =>
        obtain ⟨m, hm, hP'⟩ := g3
        exact ih m hm xs' H' s1 s2 hP'
      | exit id => exact ⟨xs', rfl, s1, s2, atEnd_ok g3⟩
      | ret => exact ⟨xs', rfl, s1, s2, atEnd_ok g3⟩
  exact key n xs H rfl (fun _ _ => rfl) h
end
end Go.AS
