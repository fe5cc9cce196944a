/-
  Words under a lock and a stamp: what writers and readers leave, without the program.
-/
import Derived.Test.YtgpacebjbdhphaaRecord
namespace Go.Proofs.Ytgpacebjbdhphaa
open Go Go.AS Go.RowKit
set_option linter.unusedVariables false

abbrev Bn (n : Nat) : BitVec 64 := BitVec.ofNat 64 n
theorem Bn_inj {a b : Nat} (ha : a < 10000) (hb : b < 10000) : (Bn a = Bn b) ↔ a = b := by
  constructor
  · intro h
    have := congrArg BitVec.toNat h
    simp only [BitVec.toNat_ofNat] at this
    omega
  · intro h; rw [h]
theorem Bn_succ (a : Nat) : Bn a + 1 = Bn (a + 1) := by
  show BitVec.ofNat 64 a + BitVec.ofNat 64 1 = _
  rw [← BitVec.ofNat_add]
theorem Bn_nat {n : Nat} (h : n < 10000) : (Bn n).toNat = n := by
  show n % 2 ^ 64 = n
  exact Nat.mod_eq_of_lt (by omega)

/-- An agent under way: a writer (0 draws, 1 waits, 2 begins, 3 stores, 4 ends, 5 drops), a reader (0 looks, 1 loads, 2 looks again). -/
structure RG where
  w : Bool
  ph : Nat
  n : Nat
  seen : Nat
  v : Nat
  turn : Nat
  vals : List (BitVec 64)
  r : Nat
  tb : Nat
  ov : Option Nat
  rv : Option Nat
  no : Int
abbrev Ags := List (Option RG)
def At (As : Ags) (i : Nat) (a : RG) : Prop := As[i]? = some (some a)
theorem At.set {As : Ags} {k i : Nat} {x : Option RG} {a : RG} (h : At (As.set k x) i a) : (i = k ∧ x = some a) ∨ (i ≠ k ∧ At As i a) := by
  unfold At at h ⊢
  rw [List.getElem?_set] at h
  by_cases e : k = i
  · rw [if_pos e] at h
    split at h
    · exact .inl ⟨e.symm, Option.some.inj h⟩
    · cases h
  · rw [if_neg e] at h
    exact .inr ⟨fun h => e h.symm, h⟩

structure Inv (N : Nat) (As : Ags) (dr sv st cur num : Nat) (Wd : List (BitVec 64)) : Prop where
  len : Wd.length = N
  le : sv ≤ dr
  tk : ∀ i a, At As i a → a.w = true → 1 ≤ a.ph → sv ≤ a.turn ∧ a.turn < dr
  dist : ∀ i j a b, At As i a → At As j b → i ≠ j → a.w = true → b.w = true → 1 ≤ a.ph → 1 ≤ b.ph → a.turn ≠ b.turn
  hold : ∀ i a, At As i a → a.w = true → 2 ≤ a.ph → a.turn = sv
  even : (∀ i a, At As i a → a.w = true → ¬ (a.ph = 3 ∨ a.ph = 4)) → st % 2 = 0 ∧ Wd = List.replicate N (Bn cur)
  b3 : ∀ i a, At As i a → a.w = true → a.ph = 3 → st % 2 = 1 ∧ a.n < N ∧ Wd = List.replicate a.n (Bn a.v) ++ List.replicate (N - a.n) (Bn cur)
  b4 : ∀ i a, At As i a → a.w = true → a.ph = 4 → st % 2 = 1 ∧ Wd = List.replicate N (Bn a.v)
  wv : ∀ i a, At As i a → a.w = true → a.v ≤ num ∧ a.ph ≤ 5
  cn : cur ≤ num
  rd : ∀ i a, At As i a → a.w = false → a.ph ≤ 2 ∧ (1 ≤ a.ph → a.vals.length = a.n ∧ a.n ≤ N ∧ (a.ph = 1 → a.n < N) ∧ (a.ph = 2 → a.n = N) ∧ a.seen % 2 = 0 ∧ a.seen ≤ st ∧ (a.seen = st → a.vals = List.replicate a.n (Bn cur)))

variable {N : Nat} {As : Ags} {dr sv st cur num k : Nat} {Wd : List (BitVec 64)} {a a' : RG}

theorem Inv.one (h : Inv N As dr sv st cur num Wd) {i j : Nat} {x y : RG} (hi : At As i x) (hj : At As j y) (wx : x.w = true) (wy : y.w = true) (px : 2 ≤ x.ph) (py : 2 ≤ y.ph) : i = j := by
  refine Classical.byContradiction fun e => h.dist i j x y hi hj e wx wy (by omega) (by omega) ?_
  rw [h.hold i x hi wx px, h.hold j y hj wy py]

/-- A new agent, or one that has gone. -/
theorem Inv.fresh (h : Inv N As dr sv st cur num Wd) (hk : As[k]? = some none) (hp : a'.ph = 0) (num' : Nat) (hn : num ≤ num') (hv : a'.v ≤ num') : Inv N (As.set k (some a')) dr sv st cur num' Wd := by
  refine ⟨h.len, h.le, fun i x hx wx px => ?_, fun i j x y hx hy hij wx wy px py => ?_, fun i x hx wx px => ?_, fun hall => h.even fun i x hx wx => ?_, fun i x hx wx px => ?_, fun i x hx wx px => ?_, fun i x hx wx => ?_, Nat.le_trans h.cn hn, fun i x hx wx => ?_⟩
  · rcases hx.set with ⟨_, e⟩ | ⟨_, hx⟩
    · cases e; omega
    · exact h.tk i x hx wx px
  · rcases hx.set with ⟨_, e⟩ | ⟨_, hx⟩
    · cases e; omega
    · rcases hy.set with ⟨_, e⟩ | ⟨_, hy⟩
      · cases e; omega
      · exact h.dist i j x y hx hy hij wx wy px py
  · rcases hx.set with ⟨_, e⟩ | ⟨_, hx⟩
    · cases e; omega
    · exact h.hold i x hx wx px
  · refine hall i x ?_ wx
    have hik : ¬ k = i := by
      rintro rfl
      unfold At at hx
      rw [hk] at hx; cases hx
    unfold At
    rw [List.getElem?_set_ne hik]; exact hx
  · rcases hx.set with ⟨_, e⟩ | ⟨_, hx⟩
    · cases e; omega
    · exact h.b3 i x hx wx px
  · rcases hx.set with ⟨_, e⟩ | ⟨_, hx⟩
    · cases e; omega
    · exact h.b4 i x hx wx px
  · rcases hx.set with ⟨_, e⟩ | ⟨_, hx⟩
    · cases e; omega
    · have := h.wv i x hx wx; omega
  · rcases hx.set with ⟨_, e⟩ | ⟨_, hx⟩
    · cases e
      exact ⟨by omega, fun h => by omega⟩
    · exact h.rd i x hx wx

/-- A reader's step. -/
theorem Inv.read (h : Inv N As dr sv st cur num Wd) (hk : At As k a) (wa : a.w = false) (wa' : a'.w = false)
    (hr : a'.ph ≤ 2 ∧ (1 ≤ a'.ph → a'.vals.length = a'.n ∧ a'.n ≤ N ∧ (a'.ph = 1 → a'.n < N) ∧ (a'.ph = 2 → a'.n = N) ∧ a'.seen % 2 = 0 ∧ a'.seen ≤ st ∧ (a'.seen = st → a'.vals = List.replicate a'.n (Bn cur)))) : Inv N (As.set k (some a')) dr sv st cur num Wd := by
  refine ⟨h.len, h.le, fun i x hx wx px => ?_, fun i j x y hx hy hij wx wy px py => ?_, fun i x hx wx px => ?_, fun hall => h.even fun i x hx wx => ?_, fun i x hx wx px => ?_, fun i x hx wx px => ?_, fun i x hx wx => ?_, h.cn, fun i x hx wx => ?_⟩
  · rcases hx.set with ⟨_, e⟩ | ⟨_, hx⟩
    · cases e; rw [wa'] at wx; cases wx
    · exact h.tk i x hx wx px
  · rcases hx.set with ⟨_, e⟩ | ⟨_, hx⟩
    · cases e; rw [wa'] at wx; cases wx
    · rcases hy.set with ⟨_, e⟩ | ⟨_, hy⟩
      · cases e; rw [wa'] at wy; cases wy
      · exact h.dist i j x y hx hy hij wx wy px py
  · rcases hx.set with ⟨_, e⟩ | ⟨_, hx⟩
    · cases e; rw [wa'] at wx; cases wx
    · exact h.hold i x hx wx px
  · refine hall i x ?_ wx
    have hik : ¬ k = i := by
      rintro rfl
      unfold At at hx hk
      rw [hk] at hx; cases hx; rw [wa] at wx; cases wx
    unfold At
    rw [List.getElem?_set_ne hik]; exact hx
  · rcases hx.set with ⟨_, e⟩ | ⟨_, hx⟩
    · cases e; rw [wa'] at wx; cases wx
    · exact h.b3 i x hx wx px
  · rcases hx.set with ⟨_, e⟩ | ⟨_, hx⟩
    · cases e; rw [wa'] at wx; cases wx
    · exact h.b4 i x hx wx px
  · rcases hx.set with ⟨_, e⟩ | ⟨_, hx⟩
    · cases e; rw [wa'] at wx; cases wx
    · exact h.wv i x hx wx
  · rcases hx.set with ⟨_, e⟩ | ⟨_, hx⟩
    · cases e; exact hr
    · exact h.rd i x hx wx

theorem Inv.gone (h : Inv N As dr sv st cur num Wd) (hk : At As k a) (wa : a.w = false) : Inv N (As.set k none) dr sv st cur num Wd := by
  have hn : ∀ {i x}, At (As.set k none) i x → i ≠ k ∧ At As i x := fun hx => by
    rcases hx.set with ⟨_, e⟩ | hx
    · cases e
    · exact hx
  refine ⟨h.len, h.le, fun i x hx wx px => h.tk i x (hn hx).2 wx px, fun i j x y hx hy hij wx wy px py => h.dist i j x y (hn hx).2 (hn hy).2 hij wx wy px py, fun i x hx wx px => h.hold i x (hn hx).2 wx px, fun hall => h.even fun i x hx wx => ?_, fun i x hx wx px => h.b3 i x (hn hx).2 wx px, fun i x hx wx px => h.b4 i x (hn hx).2 wx px, fun i x hx wx => h.wv i x (hn hx).2 wx, h.cn, fun i x hx wx => h.rd i x (hn hx).2 wx⟩
  refine hall i x ?_ wx
  have hik : ¬ k = i := by
    rintro rfl
    unfold At at hx hk
    rw [hk] at hx; cases hx; rw [wa] at wx; cases wx
  unfold At
  rw [List.getElem?_set_ne hik]; exact hx

/-- A word is read under an even stamp. -/
theorem Inv.word (h : Inv N As dr sv st cur num Wd) (he : st % 2 = 0) : Wd = List.replicate N (Bn cur) := by
  refine (h.even fun i x hx wx hp => ?_).2
  rcases hp with hp | hp
  · have := (h.b3 i x hx wx hp).1; omega
  · have := (h.b4 i x hx wx hp).1; omega

/-- A writer's step that keeps the words and the stamp. -/
theorem Inv.write (h : Inv N As dr sv st cur num Wd) (hk : At As k a) (wa : a.w = true) (wa' : a'.w = true) (hv : a'.v = a.v) (hp : a.ph ≤ 1 ∧ a'.ph ≤ 2 ∧ 1 ≤ a'.ph) (dr' : Nat) (hd : dr ≤ dr')
    (ht : sv ≤ a'.turn ∧ a'.turn < dr' ∧ (a'.ph = 2 → a'.turn = sv)) (hne : ∀ i x, At As i x → i ≠ k → x.w = true → 1 ≤ x.ph → x.turn ≠ a'.turn) : Inv N (As.set k (some a')) dr' sv st cur num Wd := by
  have hle := h.le
  refine ⟨h.len, by omega, fun i x hx wx px => ?_, fun i j x y hx hy hij wx wy px py => ?_, fun i x hx wx px => ?_, fun hall => h.even fun i x hx wx => ?_, fun i x hx wx px => ?_, fun i x hx wx px => ?_, fun i x hx wx => ?_, h.cn, fun i x hx wx => ?_⟩
  · rcases hx.set with ⟨_, e⟩ | ⟨_, hx⟩
    · cases e; omega
    · have := h.tk i x hx wx px; omega
  · rcases hx.set with ⟨ei, e⟩ | ⟨ei, hx⟩
    · cases e
      rcases hy.set with ⟨ej, e⟩ | ⟨ej, hy⟩
      · omega
      · exact fun e => hne j y hy ej wy py e.symm
    · rcases hy.set with ⟨ej, e⟩ | ⟨ej, hy⟩
      · cases e; exact hne i x hx ei wx px
      · exact h.dist i j x y hx hy hij wx wy px py
  · rcases hx.set with ⟨_, e⟩ | ⟨_, hx⟩
    · cases e; exact ht.2.2 (by omega)
    · exact h.hold i x hx wx px
  · by_cases e : i = k
    · subst e
      unfold At at hx hk
      rw [hk] at hx; cases hx; omega
    · refine hall i x ?_ wx
      unfold At
      rw [List.getElem?_set_ne (fun h => e h.symm)]; exact hx
  · rcases hx.set with ⟨_, e⟩ | ⟨_, hx⟩
    · cases e; omega
    · exact h.b3 i x hx wx px
  · rcases hx.set with ⟨_, e⟩ | ⟨_, hx⟩
    · cases e; omega
    · exact h.b4 i x hx wx px
  · rcases hx.set with ⟨_, e⟩ | ⟨_, hx⟩
    · cases e
      have := h.wv k a hk wa; omega
    · exact h.wv i x hx wx
  · rcases hx.set with ⟨_, e⟩ | ⟨_, hx⟩
    · cases e; rw [wa'] at wx; cases wx
    · exact h.rd i x hx wx

/-- A holder's step: the words, the stamp, what is whole. -/
theorem Inv.held (h : Inv N As dr sv st cur num Wd) (hk : At As k a) (wa : a.w = true) (pa : 2 ≤ a.ph) (wa' : a'.w = true) (hv : a'.v = a.v) (ht : a'.turn = a.turn) (pa' : 2 ≤ a'.ph ∧ a'.ph ≤ 5) (st' cur' : Nat) (Wd' : List (BitVec 64))
    (hl : Wd'.length = N) (hc : cur' ≤ num)
    (h5 : ¬ (a'.ph = 3 ∨ a'.ph = 4) → st' % 2 = 0 ∧ Wd' = List.replicate N (Bn cur'))
    (h3 : a'.ph = 3 → st' % 2 = 1 ∧ a'.n < N ∧ Wd' = List.replicate a'.n (Bn a'.v) ++ List.replicate (N - a'.n) (Bn cur'))
    (h4 : a'.ph = 4 → st' % 2 = 1 ∧ Wd' = List.replicate N (Bn a'.v))
    (hs : st' = st ∧ cur' = cur ∨ st' = st + 1) : Inv N (As.set k (some a')) dr sv st' cur' num Wd' := by
  have ha := h.hold k a hk wa pa
  have hle := h.le
  have hkl : k < As.length := (List.getElem?_eq_some_iff.1 hk).1
  have self : At (As.set k (some a')) k a' := by unfold At; rw [List.getElem?_set_self hkl]
  refine ⟨hl, hle, fun i x hx wx px => ?_, fun i j x y hx hy hij wx wy px py => ?_, fun i x hx wx px => ?_, fun hall => h5 (hall k a' self wa'), fun i x hx wx px => ?_, fun i x hx wx px => ?_, fun i x hx wx => ?_, hc, fun i x hx wx => ?_⟩
  · rcases hx.set with ⟨_, e⟩ | ⟨_, hx⟩
    · cases e
      have := h.tk k a hk wa (by omega)
      omega
    · exact h.tk i x hx wx px
  · rcases hx.set with ⟨ei, e⟩ | ⟨ei, hx⟩
    · cases e
      rcases hy.set with ⟨ej, e⟩ | ⟨ej, hy⟩
      · omega
      · rw [ht]; exact h.dist k j a y hk hy (fun e => ej e.symm) wa wy (by omega) py
    · rcases hy.set with ⟨ej, e⟩ | ⟨ej, hy⟩
      · cases e; rw [ht]; exact h.dist i k x a hx hk ei wx wa px (by omega)
      · exact h.dist i j x y hx hy hij wx wy px py
  · rcases hx.set with ⟨_, e⟩ | ⟨_, hx⟩
    · cases e; rw [ht, ha]
    · exact h.hold i x hx wx px
  · rcases hx.set with ⟨_, e⟩ | ⟨ei, hx⟩
    · cases e; exact h3 px
    · exact (ei (h.one hx hk wx wa (by omega) pa)).elim
  · rcases hx.set with ⟨_, e⟩ | ⟨ei, hx⟩
    · cases e; exact h4 px
    · exact (ei (h.one hx hk wx wa (by omega) pa)).elim
  · rcases hx.set with ⟨_, e⟩ | ⟨_, hx⟩
    · cases e
      have := h.wv k a hk wa
      omega
    · exact h.wv i x hx wx
  · rcases hx.set with ⟨_, e⟩ | ⟨_, hx⟩
    · cases e; rw [wa'] at wx; cases wx
    · obtain ⟨r1, r2⟩ := h.rd i x hx wx
      refine ⟨r1, fun p => ?_⟩
      obtain ⟨s1, s2, s3, s4, s5, s6, s7⟩ := r2 p
      refine ⟨s1, s2, s3, s4, s5, by omega, fun e => ?_⟩
      rcases hs with ⟨rfl, rfl⟩ | rfl
      · exact s7 e
      · omega

/-- It lets go. -/
theorem Inv.drop (h : Inv N As dr sv st cur num Wd) (hk : At As k a) (wa : a.w = true) (pa : a.ph = 5) : Inv N (As.set k none) dr (sv + 1) st cur num Wd := by
  have hn : ∀ {i x}, At (As.set k none) i x → i ≠ k ∧ At As i x := fun hx => by
    rcases hx.set with ⟨_, e⟩ | hx
    · cases e
    · exact hx
  have ha := h.hold k a hk wa (by omega)
  have hta := h.tk k a hk wa (by omega)
  have no2 : ∀ i x, At As i x → i ≠ k → x.w = true → ¬ 2 ≤ x.ph := fun i x hx e wx px => e (h.one hx hk wx wa px (by omega))
  refine ⟨h.len, by omega, fun i x hx wx px => ?_, fun i j x y hx hy hij wx wy px py => h.dist i j x y (hn hx).2 (hn hy).2 hij wx wy px py, fun i x hx wx px => (no2 i x (hn hx).2 (hn hx).1 wx px).elim, fun hall => h.even fun i x hx wx hp => ?_, fun i x hx wx px => (no2 i x (hn hx).2 (hn hx).1 wx (by omega)).elim, fun i x hx wx px => (no2 i x (hn hx).2 (hn hx).1 wx (by omega)).elim, fun i x hx wx => h.wv i x (hn hx).2 wx, h.cn, fun i x hx wx => h.rd i x (hn hx).2 wx⟩
  · have h1 := h.tk i x (hn hx).2 wx px
    have h2 := h.dist i k x a (hn hx).2 hk (hn hx).1 wx wa px (by omega)
    omega
  · by_cases e : i = k
    · subst e
      unfold At at hx hk
      rw [hk] at hx; cases hx; omega
    · exact no2 i x hx e wx (by omega)
end Go.Proofs.Ytgpacebjbdhphaa
