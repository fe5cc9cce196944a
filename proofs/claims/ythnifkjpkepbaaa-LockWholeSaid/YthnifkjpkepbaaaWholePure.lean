/-
  Words under a stamp: what a reader may have read, without the program.
-/
import Derived.Test.YthnifkjpkepbaaaLockTurns
namespace Go.Proofs.Ythnifkjpkepbaaa
open Go Go.AS Go.RowKit
set_option linter.unusedVariables false

/-- A reader: where it is, the stamp, what it read. -/
structure Rd where
  at' : Nat
  n : BitVec 64
  a : BitVec 64
  b : BitVec 64
  c : BitVec 64

def Rd.cells (r : Rd) : List Value := [I r.at', W r.n, W r.a, W r.b, W r.c]
def Rd.rd (r : Rd) (j : Nat) : BitVec 64 := if j = 0 then r.a else if j = 1 then r.b else r.c

theorem rd_len (Rs : List Rd) : ∀ c ∈ Rs.map Rd.cells, c.length = 5 := by
  intro c hc
  obtain ⟨a, _, rfl⟩ := List.mem_map.1 hc
  rfl

abbrev busy (pos : Nat) : Prop := 1 ≤ pos ∧ pos ≤ 4
def stN (nu pos : Nat) : Nat := if busy pos then 2 * nu - 1 else 2 * nu
def whN (nu pos : Nat) : Nat := if busy pos then nu - 1 else nu
def wdN (nu pos j : Nat) : Nat := if busy pos then (if j < pos then nu else nu - 1) else nu

abbrev B (n : Nat) : BitVec 64 := BitVec.ofNat 64 n

structure RdOk (st wh nu : Nat) (r : Rd) (l : BitVec 64) : Prop where
  le4 : r.at' ≤ 4
  last : ∃ lN, l = B lN ∧ lN ≤ wh ∧ (1 ≤ r.at' → ∃ q, r.n = B (2 * q) ∧ 2 * q ≤ st ∧ lN ≤ q ∧ (2 * q = st → ∀ j, j + 1 < r.at' → r.rd j = B nu))

theorem RdOk.mono {st wh nu st' wh' nu' : Nat} {r : Rd} {l : BitVec 64} (h : RdOk st wh nu r l) (h1 : st ≤ st') (h2 : wh ≤ wh') (h3 : ∀ q, 2 * q ≤ st → 2 * q = st' → st' = st ∧ nu' = nu) : RdOk st' wh' nu' r l := by
  obtain ⟨lN, e, hl, hr⟩ := h.last
  refine ⟨h.le4, lN, e, by omega, fun ha => ?_⟩
  obtain ⟨q, e1, e2, e3, e4⟩ := hr ha
  refine ⟨q, e1, by omega, e3, fun hq => ?_⟩
  obtain ⟨e5, e6⟩ := h3 q e2 hq
  rw [e6]
  exact e4 (by omega)

/-- A writer's step. -/
theorem RdOk.write {nu pos nu' pos' : Nat} {r : Rd} {l : BitVec 64} (h : RdOk (stN nu pos) (whN nu pos) nu r l)
    (hp : (pos = 0 ∧ nu' = nu + 1 ∧ pos' = 1) ∨ (1 ≤ pos ∧ pos ≤ 4 ∧ 1 ≤ nu ∧ nu' = nu ∧ pos' = pos + 1) ∨ (pos = 5 ∧ nu' = nu ∧ pos' = 0)) : RdOk (stN nu' pos') (whN nu' pos') nu' r l := by
  refine h.mono ?_ ?_ ?_
  · unfold stN; split <;> split <;> omega
  · unfold whN; split <;> split <;> omega
  · unfold stN
    intro q
    split <;> split <;> omega

theorem B_toNat {n : Nat} (h : n < 10000) : (B n).toNat = n := by
  show n % 2 ^ 64 = n
  exact Nat.mod_eq_of_lt (by omega)

theorem B_inj {a b : Nat} (ha : a < 10000) (hb : b < 10000) : (B a = B b) ↔ a = b := ofNat_inj ha hb

/-- A reader reads the stamp. -/
theorem RdOk.read0 {nu pos : Nat} {r : Rd} {l : BitVec 64} (h : RdOk (stN nu pos) (whN nu pos) nu r l) (h0 : r.at' = 0) (hn : pos = 0 ∨ 1 ≤ nu) :
    RdOk (stN nu pos) (whN nu pos) nu ⟨if stN nu pos % 2 = 0 then 1 else 0, B (stN nu pos), r.a, r.b, r.c⟩ l := by
  obtain ⟨lN, e, hl, hr⟩ := h.last
  refine ⟨by simp only; split <;> omega, lN, e, hl, fun ha => ?_⟩
  simp only at ha
  have hev : stN nu pos % 2 = 0 := by
    refine Classical.byContradiction fun hne => ?_
    rw [if_neg hne] at ha; omega
  refine ⟨stN nu pos / 2, ?_, by omega, ?_, fun _ j hj => ?_⟩
  · rw [show 2 * (stN nu pos / 2) = stN nu pos by omega]
  · have : whN nu pos ≤ stN nu pos / 2 := by unfold whN stN; split <;> omega
    omega
  · simp only at hj
    rw [if_pos hev] at hj; omega

theorem stN_even {nu pos q : Nat} (hn : pos = 0 ∨ 1 ≤ nu) (h : 2 * q = stN nu pos) : ¬ busy pos ∧ q = nu := by
  unfold stN at h
  split at h
  · rename_i hb; omega
  · rename_i hb; exact ⟨hb, by omega⟩

/-- It reads a word. -/
theorem RdOk.readw {nu pos : Nat} {r r' : Rd} {l : BitVec 64} (h : RdOk (stN nu pos) (whN nu pos) nu r l) (h1 : 1 ≤ r.at' ∧ r.at' ≤ 3) (hn : pos = 0 ∨ 1 ≤ nu)
    (e1 : r'.at' = r.at' + 1) (e2 : r'.n = r.n) (e3 : r'.rd (r.at' - 1) = B (wdN nu pos r.at')) (e4 : ∀ j, j + 1 < r.at' → r'.rd j = r.rd j) : RdOk (stN nu pos) (whN nu pos) nu r' l := by
  obtain ⟨lN, e, hl, hr⟩ := h.last
  refine ⟨by omega, lN, e, hl, fun _ => ?_⟩
  obtain ⟨q, f1, f2, f3, f4⟩ := hr h1.1
  refine ⟨q, by rw [e2, f1], f2, f3, fun hq j hj => ?_⟩
  by_cases hj2 : j + 1 < r.at'
  · rw [e4 j hj2]; exact f4 hq j hj2
  · have : j = r.at' - 1 := by omega
    rw [this, e3]
    have := (stN_even hn hq).1
    unfold wdN
    rw [if_neg this]

/-- It looks at the stamp again. -/
theorem RdOk.same {nu pos : Nat} {r : Rd} {l : BitVec 64} (h : RdOk (stN nu pos) (whN nu pos) nu r l) (h1 : r.at' = 4) (hn : pos = 0 ∨ 1 ≤ nu) (hb : stN nu pos < 10000) (hs : B (stN nu pos) = r.n) :
    whN nu pos = nu ∧ r.a = B nu ∧ r.b = B nu ∧ r.c = B nu ∧ ∃ lN, l = B lN ∧ lN ≤ nu := by
  obtain ⟨lN, e, hl, hr⟩ := h.last
  obtain ⟨q, f1, f2, f3, f4⟩ := hr (by omega)
  have hq : 2 * q = stN nu pos := by
    rw [f1] at hs
    exact ((B_inj hb (by omega)).1 hs).symm
  obtain ⟨hnb, rfl⟩ := stN_even hn hq
  have e0 := f4 hq 0 (by omega)
  have e1 := f4 hq 1 (by omega)
  have e2 := f4 hq 2 (by omega)
  refine ⟨by unfold whN; rw [if_neg hnb], e0, e1, e2, lN, e, f3⟩

theorem RdOk.done {st wh nu : Nat} {r : Rd} {l : BitVec 64} (h : RdOk st wh nu r l) (n a b c : BitVec 64) : RdOk st wh nu ⟨0, n, a, b, c⟩ l := by
  obtain ⟨lN, e, hl, _⟩ := h.last
  exact ⟨Nat.zero_le _, lN, e, hl, fun hc => by simp at hc⟩

/-- Who holds it is where the words are. -/
structure Hold (As : List Ag) (pos : Nat) : Prop where
  at' : ∀ a ∈ As, a.held = true → a.at' = (pos : Int)
  no : (∀ a ∈ As, a.held = false) → pos = 0

variable {As : List Ag} {a a' : Ag} {k pos dr sv : Nat}

theorem Hold.free (h : Hold As pos) (hk : As[k]? = some a) (ha : a.held = false) (ha' : a'.held = false) : Hold (As.set k a') pos := by
  have hkl : k < As.length := (List.getElem?_eq_some_iff.1 hk).1
  refine ⟨fun x hx hl => ?_, fun hall => h.no fun x hx => ?_⟩
  · rcases mem_set hx with rfl | ⟨i, _, hi⟩
    · rw [ha'] at hl; cases hl
    · exact h.at' x (List.mem_of_getElem? hi) hl
  · obtain ⟨i, hi⟩ := List.mem_iff_getElem?.1 hx
    by_cases e : i = k
    · subst e
      rw [hk] at hi
      obtain rfl := Option.some.inj hi
      exact ha
    · refine hall x (List.mem_of_getElem? (i := i) ?_)
      rw [List.getElem?_set_ne (fun h => e h.symm)]; exact hi

theorem Hold.got (h : Hold As pos) (f : Fair As dr sv) (hk : As[k]? = some a) (ht : a.t ≠ none) (hs : a.turn = sv) (hh : a.held = false) (ha' : a'.at' = 0) : Hold (As.set k a') 0 ∧ pos = 0 := by
  have hall : ∀ x ∈ As, x.held = false := by
    intro x hx
    refine Classical.byContradiction fun hc => ?_
    have hc : x.held = true := by cases hxx : x.held <;> simp_all
    obtain ⟨i, hi⟩ := List.mem_iff_getElem?.1 hx
    by_cases e : i = k
    · subst e
      rw [hk] at hi
      obtain rfl := Option.some.inj hi
      rw [hh] at hc; cases hc
    · have tx : x.t ≠ none := fun e => by have := f.idle x hx e; rw [this] at hc; cases hc
      exact f.dist i k x a hi hk e tx ht (by rw [hs, f.held x hx hc])
  refine ⟨⟨fun x hx hl => ?_, fun _ => rfl⟩, h.no hall⟩
  rcases mem_set hx with rfl | ⟨i, _, hi⟩
  · exact ha'
  · have := hall x (List.mem_of_getElem? hi)
    rw [this] at hl; cases hl

theorem Hold.step (f : Fair As dr sv) (hk : As[k]? = some a) (hh : a.held = true) (hh' : a'.held = true) (e : a'.at' = (pos : Int)) : Hold (As.set k a') pos := by
  have hkl : k < As.length := (List.getElem?_eq_some_iff.1 hk).1
  refine ⟨fun x hx hl => ?_, fun hall => ?_⟩
  · rcases mem_set hx with rfl | ⟨i, hik, hi⟩
    · exact e
    · exact (hik (f.one hi hk hl hh)).elim
  · have := hall a' (List.mem_of_getElem? (i := k) (by rw [List.getElem?_set_self hkl]))
    rw [hh'] at this; cases this

theorem Hold.drop (f : Fair As dr sv) (hk : As[k]? = some a) (hh : a.held = true) (hh' : a'.held = false) : Hold (As.set k a') 0 := by
  refine ⟨fun x hx hl => ?_, fun _ => rfl⟩
  rcases mem_set hx with rfl | ⟨i, hik, hi⟩
  · rw [hh'] at hl; cases hl
  · exact (hik (f.one hi hk hl hh)).elim

/-- The words. -/
def wds (dr sv nu pos : Nat) : List (BitVec 64) := [B dr, B sv, B (stN nu pos), B (wdN nu pos 1), B (wdN nu pos 2), B (wdN nu pos 3)]

theorem wds_draw {nu : Nat} : (wds dr sv nu pos).set 0 ((wds dr sv nu pos).getD 0 0 + 1) = wds (dr + 1) sv nu pos := by
  simp only [wds, List.getD_cons_zero, List.set_cons_zero, ofNat_succ]
theorem wds_drop {nu : Nat} : (wds dr sv nu 5).set 1 ((wds dr sv nu 5).getD 1 0 + 1) = wds dr (sv + 1) nu 0 := by
  simp only [wds, List.getD_cons_zero, List.getD_cons_succ, List.set_cons_succ, List.set_cons_zero, ofNat_succ]; rfl
theorem wds_begin {nu : Nat} : (wds dr sv nu 0).set 2 ((wds dr sv nu 0).getD 2 0 + 1) = wds dr sv (nu + 1) 1 := by
  simp only [wds, List.getD_cons_zero, List.getD_cons_succ, List.set_cons_succ, List.set_cons_zero, ofNat_succ]
  rfl
theorem wds_end {nu : Nat} (h : 1 ≤ nu) : (wds dr sv nu 4).set 2 ((wds dr sv nu 4).getD 2 0 + 1) = wds dr sv nu 5 := by
  simp only [wds, List.getD_cons_zero, List.getD_cons_succ, List.set_cons_succ, List.set_cons_zero, ofNat_succ]
  obtain ⟨n, rfl⟩ : ∃ n, nu = n + 1 := ⟨nu - 1, by omega⟩
  rfl
theorem wds_write {nu : Nat} (h : 1 ≤ pos ∧ pos ≤ 3) : (wds dr sv nu pos).set (2 + pos) (B nu) = wds dr sv nu (pos + 1) := by
  obtain rfl | rfl | rfl : pos = 1 ∨ pos = 2 ∨ pos = 3 := by omega
  all_goals rfl
theorem wds_len {nu : Nat} : (wds dr sv nu pos).length = 6 := rfl
theorem wds_word {nu : Nat} {j : Nat} (h : 1 ≤ j ∧ j ≤ 3) : (wds dr sv nu pos).getD (2 + j) 0 = B (wdN nu pos j) := by
  obtain rfl | rfl | rfl : j = 1 ∨ j = 2 ∨ j = 3 := by omega
  all_goals rfl

def Ag.wcells (a : Ag) : List Value := [.pointer (a.t.map fun b => ⟨b, 0, none⟩), I a.at', .bool a.held, .bool false, I 0]
theorem wag_len (As : List Ag) : ∀ c ∈ As.map Ag.wcells, c.length = 5 := by
  intro c hc
  obtain ⟨a, _, rfl⟩ := List.mem_map.1 hc
  rfl

/-- A reader's step. -/
def Rd.next (r : Rd) (ws : List (BitVec 64)) : Rd :=
  if r.at' = 0 then ⟨if (ws.getD 2 0).toNat % 2 = 0 then 1 else 0, ws.getD 2 0, r.a, r.b, r.c⟩
  else if r.at' ≤ 3 then ⟨r.at' + 1, r.n, if r.at' = 1 then ws.getD 3 0 else r.a, if r.at' = 2 then ws.getD 4 0 else r.b, if r.at' = 3 then ws.getD 5 0 else r.c⟩
  else ⟨0, r.n, r.a, r.b, r.c⟩
def Rd.ans (r : Rd) (ws : List (BitVec 64)) : Bool := decide (3 < r.at' ∧ ws.getD 2 0 = r.n)

theorem RdOk.next {nu : Nat} {r : Rd} {l : BitVec 64} (h : RdOk (stN nu pos) (whN nu pos) nu r l) (hn : 1 ≤ pos → 1 ≤ nu) (hb : nu < 4000) : RdOk (stN nu pos) (whN nu pos) nu (r.next (wds dr sv nu pos)) l := by
  have hn' : pos = 0 ∨ 1 ≤ nu := by
    rcases Nat.eq_zero_or_pos pos with h | h
    · exact .inl h
    · exact .inr (hn h)
  have hst : stN nu pos < 10000 := by unfold stN; split <;> omega
  unfold Rd.next
  split
  · rename_i h0
    have := h.read0 h0 hn'
    rw [show (wds dr sv nu pos).getD 2 0 = B (stN nu pos) from rfl, B_toNat hst]
    exact this
  · split
    · rename_i h0 h3
      refine h.readw ⟨by omega, h3⟩ hn' rfl rfl ?_ ?_
      · rw [← wds_word (dr := dr) (sv := sv) ⟨by omega, h3⟩]
        obtain e | e | e : r.at' = 1 ∨ r.at' = 2 ∨ r.at' = 3 := by omega
        all_goals simp [Rd.rd, e]
      · intro j hj
        obtain e | e | e : r.at' = 1 ∨ r.at' = 2 ∨ r.at' = 3 := by omega
        · omega
        · obtain rfl : j = 0 := by omega
          simp [Rd.rd, e]
        · obtain rfl | rfl : j = 0 ∨ j = 1 := by omega
          all_goals simp [Rd.rd, e]
    · exact h.done _ _ _ _

theorem RdOk.ans {nu : Nat} {r : Rd} {l : BitVec 64} (h : RdOk (stN nu pos) (whN nu pos) nu r l) (hn : 1 ≤ pos → 1 ≤ nu) (hb : nu < 4000) (ha : r.ans (wds dr sv nu pos) = true) :
    whN nu pos = nu ∧ r.a = B nu ∧ r.b = B nu ∧ r.c = B nu ∧ ∃ lN, l = B lN ∧ lN ≤ nu := by
  have hn' : pos = 0 ∨ 1 ≤ nu := by
    rcases Nat.eq_zero_or_pos pos with h | h
    · exact .inl h
    · exact .inr (hn h)
  have hst : stN nu pos < 10000 := by unfold stN; split <;> omega
  simp only [Rd.ans, decide_eq_true_eq] at ha
  exact h.same (by have := h.le4; omega) hn' hst ha.2

/-- It counts: the number is its last one. -/
theorem RdOk.count {nu : Nat} {r : Rd} (h0 : r.at' = 0) (e : whN nu pos = nu) : RdOk (stN nu pos) (whN nu pos) nu r (B nu) :=
  ⟨by omega, nu, rfl, by omega, fun h => by omega⟩
end Go.Proofs.Ythnifkjpkepbaaa
