/-
  Operations and results that are copied, compared and spoilt; lists of lists of operations, of the outset.
-/
import Derived.Test.YtgpacebjbdhphaaGreatKit
import Derived.Test.YtgpacebjbdhphaaGreatAs49
namespace Go.Proofs.YtgpacebjbdhphaaGreat
open Go Go.AS Go.RowKit
set_option linter.unusedVariables false
variable {H H' H0 : Heap} {R : Value → Heap → Prop} {L M : List Asr} {a b : Option Addr} {ws vs : List (BitVec 64)}

def RdW (L : List Asr) (a : Option Addr) (ws : List (BitVec 64)) : Prop :=
  ∀ H', Sep H' L → ∀ (j : Nat) w, ws[j]? = some w → ∃ i, a = some ⟨i, 0, none⟩ ∧ H'.cell i (0 + j * 1) = some (W w)
abbrev wds (ws : List (BitVec 64)) : List Value := ws.map W
theorem rdw_gl {q : Option Nat} (hm : gl 1 q (wds ws) ∈ L) (hq : q = none → ws = []) : RdW L (addr q) ws := by
  intro H' hs j x hx
  cases q with
  | none => rw [hq rfl] at hx; simp at hx
  | some q =>
    have hg : H'.get q = some (.cells true 1 (wds ws)) := (hs.all _ hm) (bx q (.cells true 1 (wds ws))) (by simp)
    exact ⟨q, rfl, by rw [cell_of hg, Nat.zero_add, Nat.mul_one, List.getElem?_map, hx]; rfl⟩
theorem rdw_old {n : Nat} (o : OldS H0 a n (ws.map fun w => [W w])) (hm : old H0 ∈ L) : RdW L a ws := by
  intro H' hs j x hx
  exact o.cell0 hs hm (wmap_len ws) (by rw [List.getElem?_map, hx]; rfl) rfl
theorem RdW.tail' {A : Asr} (h : RdW L a ws) : RdW (A :: L) a ws := fun H' hs => h H' hs.tail

theorem CopyWords_s {n : Nat} (h : Sep H L) (ra : RdW L a ws) (hn' : n = ws.length) (hn : ws.length < 1000000000) (hR : ∀ H' q, (q = none → ws = []) → Sep H' (gl 1 q (wds ws) :: L) → R (.slice (addr q) ws.length 0) H') : CA en F.crossbarkit_CopyWords [.slice a n 0] H R := by
  subst hn'
  apply vc_crossbarkit_CopyWords
  refine use_crossbarkit_CopyWords_0 (fun k t3 t3l t4 H => ∃ (j : Nat) (q : Option Nat), j ≤ ws.length ∧ k = ws.length - j ∧ t4 = (j : Int) ∧ t3 = addr q ∧ t3l = j ∧ (q = none → j = 0) ∧ Sep H (gl 1 q (wds (ws.take j)) :: L)) ws.length ⟨0, none, by omega, rfl, rfl, rfl, rfl, fun _ => rfl, gl_none.2 h⟩ ?_
  clear h
  rintro k t3 t3l t4 ys H3 ⟨j, q, hj, rfl, rfl, rfl, rfl, hq, hs⟩
  refine cond_of (fun h1 => ?_) fun h1 => ?_
  · have hj' : t3l < ws.length := by simp only [decide_eq_true_eq] at h1; omega
    obtain ⟨x, hx⟩ : ∃ x, ws[t3l]? = some x := ⟨_, List.getElem?_eq_getElem hj'⟩
    obtain ⟨i, rfl, e1⟩ := ra _ hs.tail t3l x hx
    refine ⟨by unfold inB; omega, asRow_in ⟨_, e1, Sep.nw hs fun i4 H5 h5 => ⟨[W x], rowOf_bx (es := 1) (n := 1) (b := i4) (Sep.get0 h5) (by decide) rfl, ?_⟩⟩⟩
    refine apd_gl (b := q) (len := t3l) (n := 1) (cs := wds (ws.take t3l)) (new := [W x]) (Sep.up1 h5) (fun h => by rw [hq h]; rfl) (by decide) (by rw [List.length_map, List.length_take]; omega) (by decide) rfl (by omega) fun H' q' h' => ⟨ws.length - (t3l + 1), by omega, t3l + 1, some q', by omega, rfl, by rw [wrap_i64 (by omega)]; omega, rfl, rfl, (fun h => by cases h), ?_⟩
    rw [List.take_add_one, hx]
    have e : wds (ws.take t3l ++ (some x).toList) = wds (ws.take t3l) ++ [W x] := by simp
    rw [e]
    exact Sep.rm1 h'
  · have e : t3l = ws.length := by simp only [decide_eq_false_iff_not] at h1; omega
    subst e
    rw [List.take_length] at hs
    exact asSl_in (hR H3 q (fun h => List.eq_nil_of_length_eq_zero (hq h)) hs)

theorem SpoilWords_s {q : Option Nat} {n : Nat} (hn' : n = ws.length) (hl : ws.length < 100000) (n1 : q = none → ws = []) (hs : Sep H (gl 1 q (wds ws) :: L)) (hR : ∀ H', Sep H' L → R undef H') : CA en F.crossbarkit_SpoilWords [.slice (addr q) n 0] H R := by
  subst hn'
  apply vc_crossbarkit_SpoilWords
  refine use_crossbarkit_SpoilWords_0 (fun k t2 H => ∃ (j : Nat) (c : List Value), c.length = ws.length ∧ j ≤ ws.length ∧ k = ws.length - j ∧ t2 = (j : Int) ∧ Sep H (gl 1 q c :: L)) ws.length ⟨0, wds ws, by simp, by omega, rfl, rfl, hs⟩ ?_
  clear hs
  rintro k t2 ys H3 ⟨j, c, hl', hj, rfl, rfl, hs⟩
  refine cond_of (fun h1 => ?_) fun h1 => hR H3 hs.tail
  have hj' : j < ws.length := by simp only [decide_eq_true_eq] at h1; omega
  apply vc_crossbarkit_markWords
  refine ⟨_, rfl, by unfold inB; omega, ?_⟩
  cases q with
  | none => rw [n1 rfl] at hj'; simp at hj'
  | some q =>
    refine asRow_in (Sep.st0 (gl_some.1 hs) (by rw [Int.toNat_natCast]; simp only [List.length_cons, List.length_nil]; omega) fun H6 h6 => ⟨ws.length - (j + 1), by omega, j + 1, _, ?_, by omega, rfl, by rw [wrap_i64 (by omega)]; omega, gl_some.2 h6⟩)
    rw [setAt_length]; exact hl'

theorem SameWords_s {n k : Nat} (h : Sep H L) (ra : RdW L a ws) (rb : RdW L b ws) (hn' : n = ws.length) (hk' : k = ws.length) (hn : ws.length < 1000000000) (hR : ∀ H', Sep H' L → R (.bool true) H') : CA en F.crossbarkit_SameWords [.slice a n 0, .slice b k 0] H R := by
  subst hn' hk'
  apply vc_crossbarkit_SameWords
  refine cond_no (by simp) ?_
  refine use_crossbarkit_SameWords_0 (fun k _ t5 H => ∃ j : Nat, j ≤ ws.length ∧ k = ws.length - j ∧ t5 = (j : Int) ∧ Sep H L) ws.length ⟨0, by omega, rfl, rfl, h⟩ ?_
  clear h
  rintro k t4 t5 ys H3 ⟨j, hj, rfl, rfl, hs⟩
  refine cond_of (fun h1 => ?_) fun h1 => asBool_in (hR H3 hs)
  have hj' : j < ws.length := by simp only [decide_eq_true_eq] at h1; omega
  obtain ⟨x, hx⟩ : ∃ x, ws[j]? = some x := ⟨_, List.getElem?_eq_getElem hj'⟩
  have hB := hs.bump 9
  obtain ⟨i, rfl, e1⟩ := ra _ hB j x hx
  obtain ⟨i', rfl, e2⟩ := rb _ hB j x hx
  exact ⟨by unfold inB; omega, asRow_in ⟨_, e1, by unfold inB; omega, asRow_in ⟨_, e2, ⟨cond_no (by simp) ⟨ws.length - (j + 1), by omega, j + 1, by omega, rfl, by rw [wrap_i64 (by omega)]; omega, hB⟩, trivial⟩⟩⟩⟩

/-! ### Operations, results -/
abbrev opV (kind key flag cpu : Int) (a : Option Addr) (n : Nat) : List Value := [I kind, .int .u64 key, .slice a n 0, I flag, I cpu]
abbrev resV (no : Int) (a : Option Addr) (n : Nat) (key elem : Int) : List Value := [I no, .slice a n 0, .int .u64 key, I elem]

/-! ### Lists of lists -/
theorem pick_of {α β : Type} {P : α → β → Prop} : ∀ (css : List β), (∀ c ∈ css, ∃ o, P o c) → ∃ l : List α, l.length = css.length ∧ ∀ (j : Nat) o, l[j]? = some o → ∃ c, css[j]? = some c ∧ P o c
  | [], _ => ⟨[], rfl, by simp⟩
  | c :: css, h => by
    obtain ⟨o, ho⟩ := h c (by simp)
    obtain ⟨l, h1, h2⟩ := pick_of css fun c hc => h c (List.mem_cons_of_mem _ hc)
    refine ⟨o :: l, by simp [h1], fun j x hx => ?_⟩
    cases j with
    | zero => simp at hx; subst hx; exact ⟨c, rfl, ho⟩
    | succ j => exact h2 j x (by simpa using hx)

structure Op where
  kind : Int
  key : BitVec 64
  val : List (BitVec 64)
  flag : Int
  cpu : Int
def OpC (H0 : Heap) (o : Op) (c : List Value) : Prop := ∃ a n, c = opV o.kind o.key.toNat o.flag o.cpu a n ∧ OldS H0 a n (o.val.map fun w => [W w])
structure OpsL (H0 : Heap) (a : Option Addr) (n : Nat) (l : List Op) : Prop where
  len : n = l.length
  ex : ∃ css, OldS H0 a n css ∧ (∀ c ∈ css, c.length = 5) ∧ ∀ (j : Nat) o, l[j]? = some o → ∃ c, css[j]? = some c ∧ OpC H0 o c
def OpsC (H0 : Heap) (l : List Op) (c : List Value) : Prop := ∃ a n, c = [.slice a n 0] ∧ OpsL H0 a n l
structure OpsLL (H0 : Heap) (a : Option Addr) (n : Nat) (ll : List (List Op)) : Prop where
  len : n = ll.length
  ex : ∃ css, OldS H0 a n css ∧ (∀ c ∈ css, c.length = 1) ∧ ∀ (k : Nat) l, ll[k]? = some l → ∃ c, css[k]? = some c ∧ OpsC H0 l c

theorem OpsLL.at' {n : Nat} {ll : List (List Op)} (o : OpsLL H0 a n ll) (hs : Sep H L) (hm : old H0 ∈ L) {k : Nat} {l : List Op} (hk : ll[k]? = some l) :
    ∃ i a' n', a = some ⟨i, 0, none⟩ ∧ H.cell i (0 + k * 1) = some (.slice a' n' 0) ∧ OpsL H0 a' n' l := by
  obtain ⟨css, h1, h2, h3⟩ := o.ex
  obtain ⟨c, hc, a', n', rfl, h4⟩ := h3 k l hk
  obtain ⟨i, e, h5⟩ := h1.cell0 hs hm h2 hc rfl
  exact ⟨i, a', n', e, h5, h4⟩
theorem OpsL.at' {n : Nat} {l : List Op} (o : OpsL H0 a n l) (hs : Sep H L) (hm : old H0 ∈ L) {j : Nat} {x : Op} (hj : l[j]? = some x) :
    ∃ i a' n', a = some ⟨i, 0, none⟩ ∧ H.cellsAt i (0 + j * 5) 5 = some (opV x.kind x.key.toNat x.flag x.cpu a' n') ∧ n' = x.val.length ∧ RdW L a' x.val := by
  obtain ⟨css, h1, h2, h3⟩ := o.ex
  obtain ⟨c, hc, a', n', rfl, h4⟩ := h3 j x hj
  obtain ⟨i, e, h5, _⟩ := h1.row hs hm h2 hc
  exact ⟨i, a', n', e, h5, by rw [h4.len]; simp, rdw_old h4 hm⟩

def tot (ll : List (List Op)) : Nat := (ll.map List.length).sum
theorem tot_snoc (ll : List (List Op)) (l : List Op) : tot (ll ++ [l]) = tot ll + l.length := by simp [tot]
theorem len_le_tot : ∀ {ll : List (List Op)} {l : List Op}, l ∈ ll → l.length ≤ tot ll
  | l' :: ll, l, h => by
    have e : tot (l' :: ll) = l'.length + tot ll := by simp [tot]
    rcases List.mem_cons.1 h with rfl | h
    · omega
    · have := len_le_tot h; omega
theorem tot_take_le (ll : List (List Op)) (j : Nat) : tot (ll.take j) ≤ tot ll := by
  have e : tot ll = tot (ll.take j) + tot (ll.drop j) := by
    conv => lhs; rw [← List.take_append_drop j ll]
    unfold tot
    rw [List.map_append, List.sum_append]
  omega
end Go.Proofs.YtgpacebjbdhphaaGreat
