/-
  Written by merge.py: Decl DeclBits DeclRef DeclTells DeclChecks DeclOne DeclLoops Bloom Harness Fit BloomSide
-/
import Derived.Test.YtlkmdcncpdadbaaVc1
import Derived.Test.YtlkmdcncpdadbaaKit
import Derived.Test.YtlkmdcncpdadbaaVc2
import Derived.Test.YtlkmdcncpdadbaaArgs
import Derived.Test.YtlkmdcncpdadbaaVc3
import Derived.Test.YtlkmdcncpdadbaaAs40
import Derived.Test.YtlkmdcncpdadbaaSmemOne
import Derived.Test.YtlkmdcncpdadbaaAs43
import Derived.Test.YtlkmdcncpdadbaaVcBl
import Derived.Test.YtlkmdcncpdadbaaAs49
import Derived.Test.YtlkmdcncpdadbaaVcBr
/-
  What maps may be like: what the functions of the program do.
-/
namespace Go.Proofs.Ytlkmdcncpdadbaa
open Go Go.AS Go.RowKit
set_option linter.unusedVariables false

variable {H : Heap} {R : Value → Heap → Prop}

/-- The hash of a key. -/
def hsh (k : BitVec 64) : Nat := (k * 11400714819323198485#64).toNat / 4294967296
def bkt (k : BitVec 64) (n : Int) : Int := if n < 1 then 0 else (hsh k : Int) % n

theorem hsh_lt (k : BitVec 64) : hsh k < 4294967296 := by
  have := (k * 11400714819323198485#64).isLt
  unfold hsh; omega

theorem mul_wrap (k : BitVec 64) (c : Nat) (hc : c < 18446744073709551616) : IntKind.u64.wrap ((k.toNat : Int) * (c : Int)) = (((k * BitVec.ofNat 64 c).toNat : Nat) : Int) := by
  rw [wrap_u64]
  congr 2
  have e : (c : Int) = ((BitVec.ofNat 64 c).toNat : Int) := by simp [BitVec.toNat_ofNat, Nat.mod_eq_of_lt hc]
  rw [e, BitVec.ofInt_mul, ofInt_bv, ofInt_bv]

theorem u64_self {n : Int} (h0 : 0 ≤ n) (h1 : n < 18446744073709551616) : IntKind.u64.wrap n = n := by
  have e : IntKind.u64.wrap n = n % 18446744073709551616 := rfl
  rw [e]; omega

theorem Bucket_ok {k : BitVec 64} {n : Int} (hn : n < 9223372036854775808) (hR : R (I (bkt k n)) H) : CA en F.decl_Bucket [W k, I n] H R := by
  apply vc_decl_Bucket
  by_cases h : n < 1
  · refine cond_yes (by simpa using h) ?_
    have : bkt k n = 0 := by unfold bkt; rw [if_pos h]
    rw [this] at hR
    exact hR
  · refine cond_no (by simpa using h) ⟨by unfold nn; decide, ?_, ?_⟩
    · rw [u64_self (by omega) (by omega)]; unfold nz; omega
    · rw [u64_self (n := n) (by omega) (by omega)]
      have e := mul_wrap k 11400714819323198485 (by decide)
      rw [show ((k.toNat : Int) * 11400714819323198485) = ((k.toNat : Int) * ((11400714819323198485 : Nat) : Int)) from rfl, e]
      have e2 : ((((k * BitVec.ofNat 64 11400714819323198485).toNat : Nat) : Int).fdiv 4294967296) = (hsh k : Int) := by
        unfold hsh
        rw [Int.fdiv_eq_ediv_of_nonneg _ (by decide)]
        rfl
      rw [e2, Int.tmod_eq_emod_of_nonneg (by omega)]
      have hb := hsh_lt k
      have e3 : (hsh k : Int) % n = ((hsh k % n.toNat : Nat) : Int) := by rw [Int.natCast_emod, Int.toNat_of_nonneg (by omega)]
      have e4 := Nat.mod_le (hsh k) n.toNat
      have h1 : (hsh k : Int) % n < 4294967296 := by omega
      have h2 : 0 ≤ (hsh k : Int) % n := Int.emod_nonneg _ (by omega)
      rw [wrap_i64 (by omega)]
      have : bkt k n = (hsh k : Int) % n := by unfold bkt; rw [if_neg h]
      rw [this] at hR
      exact hR

/-! ### Kinds -/
structure Kind where
  words : Int
  buckets : Bool
  nested : Bool
  does : List Int
  bucketed : Bool

def kindOf (k : Int) : Option Kind :=
  if k = 1 then some ⟨1, false, false, [1, 2, 4], false⟩
  else if k = 2 then some ⟨1, false, false, [1, 2, 4], false⟩
  else if k = 3 then some ⟨4, false, false, [1, 2, 4], false⟩
  else if k = 4 then some ⟨1, true, false, [3, 5, 1, 2, 4], true⟩
  else if k = 5 then some ⟨1, false, false, [3, 5, 1, 2, 4], false⟩
  else if k = 6 then some ⟨4, false, false, [6, 7, 8], false⟩
  else if k = 7 then some ⟨4, false, false, [6, 7, 8], false⟩
  else if k = 8 then some ⟨1, true, false, [6, 8], false⟩
  else if k = 9 then some ⟨1, false, true, [3, 1, 2, 4], false⟩
  else if k = 10 then some ⟨1, true, true, [3, 1, 2, 4], true⟩
  else none

def kindD (k : Int) : Kind := (kindOf k).getD ⟨0, false, false, [], false⟩

/-- A row of numbers. -/
def Ints (H : Heap) (a : Option Addr) (l : Nat) (xs : List Int) : Prop :=
  l = xs.length ∧ (xs = [] ∨ ∃ i w, a = some ⟨i, 0, none⟩ ∧ i < H.next ∧ H.get i = some (.cells w 1 (xs.map I)))

theorem kinds_ok {x : Int} (hR : ∀ H' a l, Frm [] H H' → Ints H' a l (kindD x).does → R (.tuple #[.agg #[I (kindD x).words, .bool (kindD x).buckets, .bool (kindD x).nested, .slice a l 0, .bool (kindD x).bucketed], .bool (kindOf x).isSome]) H') :
    CA en F.decl_kinds [I x] H R := by
  apply vc_decl_kinds
  refine nwH_in fun i1 H2 e1 h2 => nwH_in fun i3 H4 e3 h4 => nwH_in fun i5 H6 e5 h6 => nwH_in fun i7 H8 e7 h8 => ?_
  have g8 : H8.get i1 = some (.cells true 0 [I 0, .bool false, .bool false, .slice none 0 0, .bool false]) ∧ H8.get i3 = some (.cells true 1 [I 1, I 2, I 4]) ∧ H8.get i5 = some (.cells true 1 [I 6, I 7, I 8]) ∧ H8.get i7 = some (.cells true 1 [I 3, I 5]) ∧ H8.next = H.next + 4 ∧ i1 = H.next ∧ i3 = H.next + 1 ∧ i5 = H.next + 2 ∧ i7 = H.next + 3 := by
    subst_vars
    simp only [get_new, next_new]
    refine ⟨?_, ?_, ?_, ?_, ?_, ?_, ?_, ?_, ?_⟩ <;> first | trivial | omega | ((repeat (first | rw [if_pos trivial] | rw [if_pos rfl] | rw [if_neg (by omega)])); try (first | rfl | assumption))
  have f8 : Frm [] H H8 := by subst_vars; exact ((((Frm.refl _ _).new _).new _).new _).new _
  clear e1 h2 e3 h4 e5 h6 e7 h8
  obtain ⟨g1, g3, g5, g7, n8, i1e, i3e, i5e, i7e⟩ := g8
  refine ⟨[I 1, I 2, I 4], by simp [rowOf, firstCellsA, g3, takeAt], ?_⟩
  refine apd_grow (old := [I 3, I 5]) g7 (by decide) (by decide) rfl (by decide) fun j H11 ej hj => ?_
  refine nwH_in fun i12 H13 e12 h13 => ?_
  have g13 : H13.get i1 = some (.cells true 0 [I 0, .bool false, .bool false, .slice none 0 0, .bool false]) ∧ H13.get i3 = some (.cells true 1 [I 1, I 2, I 4]) ∧ H13.get i5 = some (.cells true 1 [I 6, I 7, I 8]) ∧ H13.get j = some (.cells true 1 [I 3, I 5, I 1, I 2, I 4]) ∧ H13.get i12 = some (.cells true 1 [I 3]) ∧ H13.next = H.next + 6 ∧ j = H.next + 4 ∧ i12 = H.next + 5 := by
    subst e12 h13 ej hj
    simp only [get_new, get_set, next_new, next_set]
    refine ⟨?_, ?_, ?_, ?_, ?_, by omega, by omega, by omega⟩ <;> (first | trivial | omega | ((repeat (first | rw [if_pos trivial] | rw [if_pos rfl] | rw [if_neg (by omega)])); try (first | rfl | assumption)))
  have f13 : Frm [] H H13 := by subst e12 h13 ej hj; exact ((f8.set _ (by right; omega)).new _).new _
  clear e12 h13 ej hj g1 g3 g5 g7
  obtain ⟨g1, g3, g5, gj, g12, n13, je, i12e⟩ := g13
  refine ⟨[I 1, I 2, I 4], by simp [rowOf, firstCellsA, g3, takeAt], ?_⟩
  refine apd_grow (old := [I 3]) g12 (by decide) (by decide) rfl (by decide) fun q H16 eq hq => ?_
  refine nwH_in fun i17 H18 e17 h18 => nwH_in fun i19 H20 e19 h20 => ?_
  have g20 : H20.get i1 = some (.cells true 0 [I 0, .bool false, .bool false, .slice none 0 0, .bool false]) ∧ H20.get i3 = some (.cells true 1 [I 1, I 2, I 4]) ∧ H20.get i5 = some (.cells true 1 [I 6, I 7, I 8]) ∧ H20.get j = some (.cells true 1 [I 3, I 5, I 1, I 2, I 4]) ∧ H20.get q = some (.cells true 1 [I 3, I 1, I 2, I 4]) ∧ H20.get i17 = some (.cells true 1 [I 6, I 8]) ∧ (∃ c, H20.get i19 = some (.cells true 0 c) ∧ c.length = 55) ∧ H20.next = H.next + 9 ∧ q = H.next + 6 ∧ i17 = H.next + 7 ∧ i19 = H.next + 8 := by
    subst e17 h18 e19 h20 eq hq
    simp only [get_new, get_set, next_new, next_set]
    refine ⟨?_, ?_, ?_, ?_, ?_, ?_, ⟨_, if_pos trivial, rfl⟩, by omega, by omega, by omega, by omega⟩ <;> (first | trivial | omega | ((repeat (first | rw [if_pos trivial] | rw [if_pos rfl] | rw [if_neg (by omega)])); try (first | rfl | assumption)))
  have f20 : Frm [] H H20 := by subst e17 h18 e19 h20 eq hq; exact (((f13.set _ (by right; omega)).new _).new _).new _
  clear e17 h18 e19 h20 eq hq g1 g3 g5 gj g12
  obtain ⟨g1, g3, g5, gj, gq, g17, ⟨c, g19, hc⟩, n20, qe, i17e, i19e⟩ := g20
  refine stc_of' g19 (by rw [hc]; exact Nat.le_refl _) fun H23 e23 => ?_
  have hset : ∀ vs : List Value, vs.length = 55 → setAt c 0 vs = vs := by
    intro vs hv
    have key : ∀ (vs c pre : List Value), vs.length = c.length → setAt (pre ++ c) pre.length vs = pre ++ vs := by
      intro vs
      induction vs with
      | nil => intro c pre h; cases c with | nil => simp [setAt] | cons => simp at h
      | cons v vs ih =>
        intro c pre h
        cases c with
        | nil => simp at h
        | cons x c =>
          simp only [setAt]
          rw [List.set_append_right _ _ (Nat.le_refl _), Nat.sub_self, List.set_cons_zero]
          have := ih c (pre ++ [v]) (by simpa using h)
          simpa using this
    have := key vs c [] (by omega)
    simpa using this
  rw [hset _ rfl] at e23
  have t19 := (congrArg (fun h : Heap => h.get i19) e23).trans (get_set_self _ _ _)
  have f23 : Frm [] H H23 := by rw [e23]; exact f20.set _ (by right; omega)
  have n23 : H23.next = H.next + 9 := by rw [e23, next_set]; exact n20
  have s1 : H23.get i1 = some (.cells true 0 [I 0, .bool false, .bool false, .slice none 0 0, .bool false]) := by rw [e23, get_set_ne (by omega)]; exact g1
  have s3 : H23.get i3 = some (.cells true 1 [I 1, I 2, I 4]) := by rw [e23, get_set_ne (by omega)]; exact g3
  have s5 : H23.get i5 = some (.cells true 1 [I 6, I 7, I 8]) := by rw [e23, get_set_ne (by omega)]; exact g5
  have sj : H23.get j = some (.cells true 1 [I 3, I 5, I 1, I 2, I 4]) := by rw [e23, get_set_ne (by omega)]; exact gj
  have sq : H23.get q = some (.cells true 1 [I 3, I 1, I 2, I 4]) := by rw [e23, get_set_ne (by omega)]; exact gq
  have s17 : H23.get i17 = some (.cells true 1 [I 6, I 8]) := by rw [e23, get_set_ne (by omega)]; exact g17
  clear e23 g1 g3 g5 gj gq g17 g19
  have none1 : kindOf x = none → stc H23 i1 0 [I 0, .bool false, .bool false, .slice none 0 0, .bool false] fun H24 => ∃ n25 b26 b27 a28 i29 b30, H24.cellsAt i1 0 5 = some [I n25, .bool b26, .bool b27, .slice a28 i29 0, .bool b30] ∧ R (.tuple #[.agg #[I n25, .bool b26, .bool b27, .slice a28 i29 0, .bool b30], .bool false]) H24 := by
    intro hk
    refine stc_of' s1 (by decide) fun H24 e24 => ?_
    have hD : kindD x = ⟨0, false, false, [], false⟩ := by unfold kindD; rw [hk]; rfl
    have := hR H24 none 0 (by rw [e24]; exact f23.set _ (by right; omega)) (by rw [hD]; exact ⟨rfl, .inl rfl⟩)
    rw [hD, hk] at this
    exact ⟨0, false, false, none, 0, false, by rw [e24, cellsAt_of (get_set_self _ _ _)]; rfl, this⟩
  have some1 : ∀ (K : Kind) (a : Option Addr) (i : Nat) (b : Bool), kindOf x = some K → a = some ⟨i, 0, none⟩ → i ≠ i1 → i < H.next + 9 → H23.get i = some (.cells b 1 (K.does.map I)) → ∀ l, l = K.does.length →
      H23.cellsAt i19 (0 + x.toNat * 5) 5 = some [I K.words, .bool K.buckets, .bool K.nested, .slice a l 0, .bool K.bucketed] →
      ∃ n38 b39 b40 a41 i42 b43, H23.cellsAt i19 (0 + x.toNat * 5) 5 = some [I n38, .bool b39, .bool b40, .slice a41 i42 0, .bool b43] ∧
        stc H23 i1 0 [I n38, .bool b39, .bool b40, .slice a41 i42 0, .bool b43] fun H44 => ∃ n45 b46 b47 a48 i49 b50, H44.cellsAt i1 0 5 = some [I n45, .bool b46, .bool b47, .slice a48 i49 0, .bool b50] ∧
          R (.tuple #[.agg #[I n45, .bool b46, .bool b47, .slice a48 i49 0, .bool b50], .bool true]) H44 := by
    intro K a i b hk ha hne hlt hg l hl hcell
    refine ⟨_, _, _, _, _, _, hcell, ?_⟩
    refine stc_of' s1 (Nat.le_refl _) fun H44 e44 => ?_
    have hD : kindD x = K := by unfold kindD; rw [hk]; rfl
    have := hR H44 a l (by rw [e44]; exact f23.set _ (by right; omega)) (by rw [hD]; exact ⟨hl, .inr ⟨i, b, ha, by rw [e44, next_set]; omega, by rw [e44, get_set_ne hne]; exact hg⟩⟩)
    rw [hD, hk] at this
    exact ⟨K.words, K.buckets, K.nested, a, l, K.bucketed, by rw [e44, cellsAt_of (get_set_self _ _ _)]; rfl, this⟩
  refine cond_of (fun h => none1 ?_) fun h => cond_of (fun h' => none1 ?_) fun h' => ⟨?_, ?_⟩
  · simp only [decide_eq_true_eq] at h
    unfold kindOf
    repeat rw [if_neg (by omega)]
  · simp only [decide_eq_true_eq, ge_iff_le] at h'
    unfold kindOf
    repeat rw [if_neg (by omega)]
  · simp only [decide_eq_false_iff_not, ge_iff_le] at h h'
    exact ⟨by omega, by omega⟩
  · simp only [decide_eq_false_iff_not, ge_iff_le] at h h'
    have hx : x = 1 ∨ x = 2 ∨ x = 3 ∨ x = 4 ∨ x = 5 ∨ x = 6 ∨ x = 7 ∨ x = 8 ∨ x = 9 ∨ x = 10 := by omega
    rcases hx with rfl | rfl | rfl | rfl | rfl | rfl | rfl | rfl | rfl | rfl
    · exact some1 ⟨1, false, false, [1, 2, 4], false⟩ _ i3 true rfl rfl (by omega) (by omega) s3 _ rfl (by rw [cellsAt_of t19]; rfl)
    · exact some1 ⟨1, false, false, [1, 2, 4], false⟩ _ i3 true rfl rfl (by omega) (by omega) s3 _ rfl (by rw [cellsAt_of t19]; rfl)
    · exact some1 ⟨4, false, false, [1, 2, 4], false⟩ _ i3 true rfl rfl (by omega) (by omega) s3 _ rfl (by rw [cellsAt_of t19]; rfl)
    · exact some1 ⟨1, true, false, [3, 5, 1, 2, 4], true⟩ _ j true rfl rfl (by omega) (by omega) sj _ rfl (by rw [cellsAt_of t19]; rfl)
    · exact some1 ⟨1, false, false, [3, 5, 1, 2, 4], false⟩ _ j true rfl rfl (by omega) (by omega) sj _ rfl (by rw [cellsAt_of t19]; rfl)
    · exact some1 ⟨4, false, false, [6, 7, 8], false⟩ _ i5 true rfl rfl (by omega) (by omega) s5 _ rfl (by rw [cellsAt_of t19]; rfl)
    · exact some1 ⟨4, false, false, [6, 7, 8], false⟩ _ i5 true rfl rfl (by omega) (by omega) s5 _ rfl (by rw [cellsAt_of t19]; rfl)
    · exact some1 ⟨1, true, false, [6, 8], false⟩ _ i17 true rfl rfl (by omega) (by omega) s17 _ rfl (by rw [cellsAt_of t19]; rfl)
    · exact some1 ⟨1, false, true, [3, 1, 2, 4], false⟩ _ q true rfl rfl (by omega) (by omega) sq _ rfl (by rw [cellsAt_of t19]; rfl)
    · exact some1 ⟨1, true, true, [3, 1, 2, 4], true⟩ _ q true rfl rfl (by omega) (by omega) sq _ rfl (by rw [cellsAt_of t19]; rfl)

/-! ### The order of keys -/
def ahd (k n : Int) (a b : BitVec 64) : Bool :=
  let m := if (kindD k).bucketed then n else 0
  if bkt a m ≠ bkt b m then decide (bkt a m < bkt b m) else decide ((a.toNat : Int) < (b.toNat : Int))

structure Dc where
  kind : Int
  entries : Int
  words : Int
  buckets : Int
  inner : Int

abbrev Dc.cells (d : Dc) : List Value := [I d.kind, I d.entries, I d.words, I d.buckets, I d.inner]
abbrev Dc.val (d : Dc) : Value := .agg #[I d.kind, I d.entries, I d.words, I d.buckets, I d.inner]

theorem Ahead_ok {d : Dc} {a b : BitVec 64} (hn : d.buckets < 9223372036854775808) (hR : ∀ H', Frm [] H H' → R (.bool (ahd d.kind d.buckets a b)) H') : CA en F.decl_Ahead [d.val, W a, W b] H R := by
  apply vc_decl_Ahead
  refine nwH_in fun i1 H2 e1 h2 => ?_
  have g2 : H2.get i1 = some (.cells true 0 d.cells) := by subst e1 h2; exact get_new_self _ _
  have l2 : i1 < H2.next := by subst e1 h2; rw [next_new]; omega
  have f2 : Frm [] H H2 := by subst h2; exact (Frm.refl _ _).new _
  have ie : H.next ≤ i1 := by omega
  clear e1 h2
  refine ⟨d.kind, by rw [cell_of g2]; rfl, kinds_ok fun H5 al l f5 hi => ⟨_, _, _, _, _, _, _, rfl, ?_⟩⟩
  refine nwH_in fun i13 H14 e13 h14 => ?_
  have g14 : H14.get i13 = some (.cells true 0 [I 0, .bool false, .bool false, .slice none 0 0, .bool false]) := by subst e13 h14; exact get_new_self _ _
  refine stc_of' g14 (Nat.le_refl _) fun H15 e15 => ?_
  have f15 : Frm [] H2 H15 := by
    subst e15 h14
    exact (f5.new _).set _ (by right; have := f5.1; omega)
  have g15 : H15.get i1 = some (.cells true 0 d.cells) := by rw [f15.2 _ l2 (by simp)]; exact g2
  have f : Frm [] H H15 := f2.trans f15 (by simp)
  refine ⟨(kindD d.kind).bucketed, by rw [e15, cell_of (get_set_self _ _ _)]; rfl, ?_⟩
  have fin : ∀ n, n < 9223372036854775808 → n = (if (kindD d.kind).bucketed then d.buckets else 0) → CA en F.decl_Bucket [W a, I n] H15 fun v18 H19 => ∃ n20, v18 = I n20 ∧ CA en F.decl_Bucket [W b, I n] H19 fun v21 H22 => ∃ n23, v21 = I n23 ∧
      cond (n20 != n23) (R (.bool (decide (n20 < n23))) H22) (R (.bool (decide ((a.toNat : Int) < (b.toNat : Int)))) H22) := by
    intro n h1 h2
    refine Bucket_ok h1 ⟨_, rfl, Bucket_ok h1 ⟨_, rfl, ?_⟩⟩
    have := hR H15 f
    unfold ahd at this
    rw [← h2] at this
    refine cond_of (fun h => ?_) fun h => ?_
    · rw [bne_iff_ne] at h
      simp only [h, ne_eq, not_false_eq_true, if_true] at this
      exact this
    · rw [bne_eq_false_iff_eq] at h
      simp only [h, ne_eq, not_true_eq_false, if_false] at this
      exact this
  refine cond_of (fun h => ⟨d.buckets, by rw [cell_of g15]; rfl, fin _ hn (by rw [h]; rfl)⟩) fun h => fin 0 (by decide) (by rw [h]; rfl)
end Go.Proofs.Ytlkmdcncpdadbaa

/-
  'crossbarlaw07.DeclBits' returns true: a key has from one to three bits.
-/
namespace Go.Proofs.Ytlkmdcncpdadbaa
open Go Go.AS Go.RowKit
set_option linter.unusedVariables false
variable {H : Heap} {R : Value → Heap → Prop}

def blm (k : BitVec 64) : BitVec 64 := k * 14029467366897019727#64
def pos1 (k : BitVec 64) : Nat := (blm k).toNat / 288230376151711744
def pos2 (k : BitVec 64) : Nat := (blm k).toNat / 4503599627370496 % 64
def pos3 (k : BitVec 64) : Nat := (blm k).toNat / 70368744177664 % 64
def bitsOf (k : BitVec 64) : BitVec 64 := BitVec.twoPow 64 (pos1 k) ||| BitVec.twoPow 64 (pos2 k) ||| BitVec.twoPow 64 (pos3 k)

theorem pos_lt (k : BitVec 64) : pos1 k < 64 ∧ pos2 k < 64 ∧ pos3 k < 64 := by
  have := (blm k).isLt
  unfold pos1 pos2 pos3
  omega

theorem shl_pow {p : Nat} (hp : p < 64) : IntKind.u64.wrap (1 * 2 ^ min p 64) = ((BitVec.twoPow 64 p).toNat : Int) := by
  rw [Nat.min_eq_left (by omega), Int.one_mul, wrap_u64]
  congr 2
  apply BitVec.eq_of_toNat_eq
  rw [BitVec.toNat_twoPow]
  have : ((2:Int) ^ p) = ((2 ^ p : Nat) : Int) := by simp
  rw [this, BitVec.ofInt_natCast, BitVec.toNat_ofNat]

theorem and63 (a : Nat) (h : a < 18446744073709551616) : (BitVec.ofInt 64 (a : Int) &&& BitVec.ofInt 64 63).toNat = a % 64 := by
  have e1 : BitVec.ofInt 64 (a : Int) = BitVec.ofNat 64 a := BitVec.ofInt_natCast ..
  have e2 : BitVec.ofInt 64 63 = BitVec.ofNat 64 63 := rfl
  rw [e1, e2, BitVec.toNat_and, BitVec.toNat_ofNat, BitVec.toNat_ofNat, Nat.mod_eq_of_lt (by omega)]
  exact Nat.and_two_pow_sub_one_eq_mod a 6

theorem blm_wrap (k : BitVec 64) : IntKind.u64.wrap ((k.toNat : Int) * 14029467366897019727) = ((blm k).toNat : Int) := by
  have e := mul_wrap k 14029467366897019727 (by decide)
  rw [show ((k.toNat : Int) * 14029467366897019727) = ((k.toNat : Int) * ((14029467366897019727 : Nat) : Int)) from rfl, e]
  rfl
theorem blm_pos1 (k : BitVec 64) : ((blm k).toNat : Int).fdiv 288230376151711744 = (pos1 k : Int) := by
  rw [Int.fdiv_eq_ediv_of_nonneg _ (by decide)]
  unfold pos1
  generalize (blm k).toNat = a
  omega
theorem blm_pos (a : Nat) (ha : a < 18446744073709551616) (d : Nat) : IntKind.u64.wrap (((BitVec.ofInt 64 ((a : Int).fdiv (d : Int)) &&& BitVec.ofInt 64 63).toNat : Nat) : Int) = ((a / d % 64 : Nat) : Int) := by
  rw [Int.fdiv_eq_ediv_of_nonneg _ (by omega), ← Int.natCast_ediv]
  have := Nat.div_le_self a d
  rw [and63 _ (by omega)]
  have := Nat.mod_lt (a / d) (show 64 > 0 by decide)
  rw [u64_self (by omega) (by omega)]
theorem blm_pos2 (k : BitVec 64) : IntKind.u64.wrap (((BitVec.ofInt 64 (((blm k).toNat : Int).fdiv 4503599627370496) &&& BitVec.ofInt 64 63).toNat : Nat) : Int) = (pos2 k : Int) :=
  blm_pos _ (blm k).isLt 4503599627370496
theorem blm_pos3 (k : BitVec 64) : IntKind.u64.wrap (((BitVec.ofInt 64 (((blm k).toNat : Int).fdiv 70368744177664) &&& BitVec.ofInt 64 63).toNat : Nat) : Int) = (pos3 k : Int) :=
  blm_pos _ (blm k).isLt 70368744177664

theorem Bloom_ok {k : BitVec 64} {n : Int} (hn : n < 9223372036854775808) (hR : R (.tuple #[I (bkt k n), W (bitsOf k)]) H) : CA en F.decl_Bloom [W k, I n] H R := by
  apply vc_decl_Bloom
  refine Bucket_ok hn ⟨_, rfl, ?_⟩
  rw [blm_wrap, blm_pos1, blm_pos2, blm_pos3]
  have p := pos_lt k
  unfold bitsOf at hR
  revert hR p
  generalize pos1 k = p1
  generalize pos2 k = p2
  generalize pos3 k = p3
  intro hR p
  refine ⟨by unfold nn; decide, by unfold nn; omega, by unfold nn; decide, by unfold nn; omega, by unfold nn; decide, by unfold nn; omega, ?_⟩
  rw [Int.toNat_natCast, Int.toNat_natCast, Int.toNat_natCast]
  rw [shl_pow p.1, shl_pow p.2.1, shl_pow p.2.2]
  simp only [ofInt_bv, wrap_bv]
  exact hR

/-! ### How many -/
def hit (k : BitVec 64) (j : Nat) : Bool := decide (pos1 k = j) || decide (pos2 k = j) || decide (pos3 k = j)
def cnt (k : BitVec 64) : Nat → Nat
  | 0 => 0
  | i + 1 => cnt k i + if hit k i then 1 else 0

theorem cnt_le (k : BitVec 64) : ∀ i, cnt k i ≤ (if pos1 k < i then 1 else 0) + (if pos2 k < i then 1 else 0) + (if pos3 k < i then 1 else 0)
  | 0 => by simp [cnt]
  | i + 1 => by
    have ih := cnt_le k i
    unfold cnt
    by_cases h : hit k i = true
    · rw [if_pos h]
      simp only [hit, Bool.or_eq_true, decide_eq_true_eq] at h
      rcases h with (h | h) | h <;> (repeat' split at ih) <;> (repeat' split) <;> omega
    · rw [if_neg h]
      (repeat' split at ih) <;> (repeat' split) <;> omega
theorem cnt_pos (k : BitVec 64) : ∀ i, pos1 k < i → 1 ≤ cnt k i
  | 0, h => by omega
  | i + 1, h => by
    unfold cnt
    by_cases e : pos1 k = i
    · have : hit k i = true := by simp [hit, e]
      rw [if_pos this]; omega
    · have := cnt_pos k i (by omega)
      omega

theorem bit_at (k : BitVec 64) {i : Nat} (hi : i < 64) : ((((bitsOf k).toNat : Int).fdiv (2 ^ min i 64)).tmod 2 == 1) = hit k i := by
  have e1 : ((bitsOf k).toNat : Int).fdiv (2 ^ min i 64) = (((bitsOf k).toNat / 2 ^ i : Nat) : Int) := by
    rw [Nat.min_eq_left (by omega), Int.fdiv_eq_ediv_of_nonneg _ (Int.pow_nonneg (by decide))]
    simp
  rw [e1, Int.tmod_eq_emod_of_nonneg (Int.natCast_nonneg _)]
  have e2 : (bitsOf k).getLsbD i = hit k i := by
    have p := pos_lt k
    unfold bitsOf hit
    simp [BitVec.getLsbD_or, BitVec.getLsbD_twoPow, p.1, p.2.1, p.2.2]
  rw [← e2]
  unfold BitVec.getLsbD
  rw [Nat.testBit_eq_decide_div_mod_eq, Bool.eq_iff_iff]
  simp only [beq_iff_eq, decide_eq_true_eq]
  omega

theorem DeclBits_ok (k : BitVec 64) (n : Int) (hn : n < 9223372036854775808) (H : Heap) : CA en F.crossbarlaw07_DeclBits [W k, I n] H fun r _ => r = .bool true := by
  apply vc_crossbarlaw07_DeclBits
  refine Bloom_ok hn ⟨_, _, rfl, ?_⟩
  refine use_crossbarlaw07_DeclBits_0 (fun m c i _ => ∃ j : Nat, j ≤ 64 ∧ m = 64 - j ∧ i = (j : Int) ∧ c = (cnt k j : Int)) 64 ⟨0, by omega, rfl, rfl, rfl⟩ ?_
  rintro m c i ys H' ⟨j, hj, rfl, rfl, rfl⟩
  have hc := cnt_le k j
  have hc3 : cnt k j ≤ 3 := by (repeat' split at hc) <;> omega
  refine cond_of (fun h => ?_) fun h => ?_
  · simp only [decide_eq_true_eq] at h
    have hj' : j < 64 := by omega
    rw [u64_self (n := (j : Int)) (by omega) (by omega)]
    refine ⟨by unfold nn; omega, by unfold nz; decide, ?_⟩
    simp only [Int.toNat_natCast]
    rw [bit_at k hj', wrap_i64 (n := (j : Int) + 1) (by omega), wrap_i64 (n := (cnt k j : Int) + 1) (by omega)]
    refine cond_of (fun hh => ⟨64 - (j + 1), by omega, j + 1, by omega, rfl, by omega, ?_⟩) fun hh => ⟨64 - (j + 1), by omega, j + 1, by omega, rfl, by omega, ?_⟩
    · simp [cnt, hh]
    · simp [cnt, hh]
  · simp only [decide_eq_false_iff_not] at h
    obtain rfl : j = 64 := by omega
    have hp := cnt_pos k 64 (pos_lt k).1
    simp only [List.getD_cons_succ, List.getD_cons_zero, asInt_int]
    have works_true : ∀ {H : Heap}, CA en F.crossbarlaw07_works [] H fun v H' => ∃ b, v = .bool b ∧ Value.bool b = Value.bool true := CA_truth (by kernel_rfl) ⟨_, rfl, rfl⟩
    refine cond_yes (by simp; omega) (cond_yes (by simp; omega) ?_)
    by_cases h1 : n < 1
    · have e : bkt k n = 0 := by unfold bkt; rw [if_pos h1]
      rw [e]
      exact cond_yes rfl (cond_no (by simp; omega) (cond_yes (by simpa using h1) (cond_yes rfl works_true)))
    · have hb : 0 ≤ bkt k n ∧ bkt k n < n := by
        unfold bkt
        rw [if_neg h1]
        exact ⟨Int.emod_nonneg _ (by omega), Int.emod_lt_of_pos _ (by omega)⟩
      exact cond_yes (by simp; omega) (cond_yes (by simp; omega) works_true)
end Go.Proofs.Ytlkmdcncpdadbaa

/-
  What the document answers about maps: what its functions do.
-/
namespace Go.Proofs.Ytlkmdcncpdadbaa
open Go Go.AS Go.RowKit
set_option linter.unusedVariables false
variable {H : Heap} {R : Value → Heap → Prop}

/-! ### What the document answers -/
theorem RBucket_ok {k : BitVec 64} {n : Int} (hn : n < 9223372036854775808) (hR : R (I (bkt k n)) H) : CA en F.crossbarref07_Bucket [W k, I n] H R := by
  apply vc_crossbarref07_Bucket
  by_cases h : n < 1
  · refine cond_yes (by simpa using h) ?_
    have : bkt k n = 0 := by unfold bkt; rw [if_pos h]
    rw [this] at hR
    exact hR
  · refine cond_no (by simpa using h) ⟨by unfold nz; decide, ?_, ?_⟩
    · rw [u64_self (by omega) (by omega)]; unfold nz; omega
    · rw [u64_self (n := n) (by omega) (by omega)]
      have e := mul_wrap k 11400714819323198485 (by decide)
      rw [show ((k.toNat : Int) * 11400714819323198485) = ((k.toNat : Int) * ((11400714819323198485 : Nat) : Int)) from rfl, e]
      have e2 : ((((k * BitVec.ofNat 64 11400714819323198485).toNat : Nat) : Int).tdiv 4294967296) = (hsh k : Int) := by
        unfold hsh
        rw [Int.tdiv_eq_ediv_of_nonneg (Int.natCast_nonneg _)]
        rfl
      have hb := hsh_lt k
      rw [e2, u64_self (n := (hsh k : Int)) (by omega) (by omega), Int.tmod_eq_emod_of_nonneg (by omega)]
      have e3 : (hsh k : Int) % n = ((hsh k % n.toNat : Nat) : Int) := by rw [Int.natCast_emod, Int.toNat_of_nonneg (by omega)]
      have e4 := Nat.mod_le (hsh k) n.toNat
      have h1 : (hsh k : Int) % n < 4294967296 := by omega
      have h2 : 0 ≤ (hsh k : Int) % n := Int.emod_nonneg _ (by omega)
      rw [wrap_i64 (by omega)]
      have : bkt k n = (hsh k : Int) % n := by unfold bkt; rw [if_neg h]
      rw [this] at hR
      exact hR

theorem bucketed_iff (k : Int) : (kindD k).bucketed = (k == 4 || k == 10) := by
  by_cases h : 1 ≤ k ∧ k ≤ 10
  · have hx : k = 1 ∨ k = 2 ∨ k = 3 ∨ k = 4 ∨ k = 5 ∨ k = 6 ∨ k = 7 ∨ k = 8 ∨ k = 9 ∨ k = 10 := by omega
    rcases hx with rfl | rfl | rfl | rfl | rfl | rfl | rfl | rfl | rfl | rfl <;> rfl
  · have e : kindOf k = none := by
      unfold kindOf
      repeat rw [if_neg (by omega)]
    have e2 : (k == 4 || k == 10) = false := by simp; omega
    rw [e2]; unfold kindD; rw [e]; rfl

theorem bkt_zero (k : BitVec 64) : bkt k 0 = 0 := rfl

theorem RAhead_ok {d : Dc} {a b : BitVec 64} (hn : d.buckets < 9223372036854775808) (hR : ∀ H', Frm [] H H' → R (.bool (ahd d.kind d.buckets a b)) H') : CA en F.crossbarref07_Ahead [d.val, W a, W b] H R := by
  apply vc_crossbarref07_Ahead
  refine nwH_in fun i1 H2 e1 h2 => ?_
  have g2 : H2.get i1 = some (.cells true 0 d.cells) := by subst e1 h2; exact get_new_self _ _
  have f2 : Frm [] H H2 := by subst h2; exact (Frm.refl _ _).new _
  clear e1 h2
  have this := hR H2 f2
  unfold ahd at this
  rw [bucketed_iff] at this
  have fin : (d.kind == 4 || d.kind == 10) = true → cond (bkt a d.buckets != bkt b d.buckets) (R (.bool (decide (bkt a d.buckets < bkt b d.buckets))) H2) (R (.bool (decide ((a.toNat : Int) < (b.toNat : Int)))) H2) := by
    intro hk
    rw [hk] at this
    simp only [if_true] at this
    refine cond_of (fun h => ?_) fun h => ?_
    · rw [bne_iff_ne] at h
      rw [if_pos h] at this
      exact this
    · rw [bne_eq_false_iff_eq] at h
      rw [if_neg (by simpa using h)] at this
      exact this
  refine ⟨d.kind, by rw [cell_of g2]; rfl, cond_of (fun h => ?_) fun h => ?_⟩
  · exact ⟨d.buckets, by rw [cell_of g2]; rfl, RBucket_ok hn ⟨_, rfl, d.buckets, by rw [cell_of g2]; rfl, RBucket_ok hn ⟨_, rfl, fin (by rw [h]; rfl)⟩⟩⟩
  · refine ⟨d.kind, by rw [cell_of g2]; rfl, cond_of (fun h' => ?_) fun h' => ?_⟩
    · exact ⟨d.buckets, by rw [cell_of g2]; rfl, RBucket_ok hn ⟨_, rfl, d.buckets, by rw [cell_of g2]; rfl, RBucket_ok hn ⟨_, rfl, fin (by rw [h']; simp)⟩⟩⟩
    · rw [h, h'] at this
      simpa [bkt_zero] using this

/-! bits -/
def acc (k : BitVec 64) : Nat → BitVec 64
  | 0 => 0#64
  | j + 1 => if hit k j then acc k j + BitVec.twoPow 64 j else acc k j

theorem acc_bit (k : BitVec 64) : ∀ j, j ≤ 64 → ∀ i, i < 64 → (acc k j).getLsbD i = (decide (i < j) && hit k i)
  | 0, _, i, _ => by simp [acc]
  | j + 1, hj, i, hi => by
    have ih := acc_bit k j (by omega)
    unfold acc
    by_cases h : hit k j = true
    · rw [if_pos h, BitVec.add_eq_or_of_and_eq_zero, BitVec.getLsbD_or, ih i hi, BitVec.getLsbD_twoPow]
      · by_cases e : i = j
        · subst e; simp [h, hi]
        · have : decide (i < j + 1) = decide (i < j) := by rw [Bool.eq_iff_iff]; simp; omega
          rw [this]; simp [Ne.symm e]
      · apply BitVec.eq_of_getLsbD_eq
        intro m hm
        rw [BitVec.getLsbD_and, ih m hm, BitVec.getLsbD_twoPow]
        by_cases e : j = m
        · subst e; simp
        · simp [e]
    · rw [if_neg h, ih i hi]
      by_cases e : i = j
      · subst e; simp [h]
      · have : decide (i < j + 1) = decide (i < j) := by rw [Bool.eq_iff_iff]; simp; omega
        rw [this]

theorem acc_all (k : BitVec 64) : acc k 64 = bitsOf k := by
  apply BitVec.eq_of_getLsbD_eq
  intro i hi
  rw [acc_bit k 64 (Nat.le_refl _) i hi]
  have p := pos_lt k
  unfold bitsOf hit
  have c : ∀ a b : Nat, decide (a = b) = decide (b = a) := fun a b => decide_eq_decide.2 eq_comm
  simp [BitVec.getLsbD_or, BitVec.getLsbD_twoPow, p.1, p.2.1, p.2.2, hi]
  rw [c (pos1 k), c (pos2 k), c (pos3 k)]

theorem acc_wrap (a b : BitVec 64) : IntKind.u64.wrap ((a.toNat : Int) + (b.toNat : Int)) = (((a + b).toNat : Nat) : Int) := by
  rw [wrap_u64, BitVec.ofInt_add, ofInt_bv, ofInt_bv]

theorem rem_pos2 (k : BitVec 64) : (((blm k).toNat : Int).fdiv 4503599627370496).tmod 64 = (pos2 k : Int) := by
  unfold pos2
  generalize (blm k).toNat = a
  rw [Int.fdiv_eq_ediv_of_nonneg _ (by decide), Int.tmod_eq_emod_of_nonneg (by omega)]
  omega
theorem rem_pos3 (k : BitVec 64) : (((blm k).toNat : Int).fdiv 70368744177664).tmod 64 = (pos3 k : Int) := by
  unfold pos3
  generalize (blm k).toNat = a
  rw [Int.fdiv_eq_ediv_of_nonneg _ (by decide), Int.tmod_eq_emod_of_nonneg (by omega)]
  omega

theorem RBloom_ok {k : BitVec 64} {n : Int} (hn : n < 9223372036854775808) (hR : R (.tuple #[I (bkt k n), W (bitsOf k)]) H) : CA en F.crossbarref07_Bloom [W k, I n] H R := by
  apply vc_crossbarref07_Bloom
  rw [blm_wrap]
  refine use_crossbarref07_Bloom_0 (fun m b i H' => ∃ j : Nat, j ≤ 64 ∧ m = 64 - j ∧ i = (j : Int) ∧ b = ((acc k j).toNat : Int) ∧ H' = H) 64 ⟨0, by omega, rfl, rfl, rfl, rfl⟩ ?_
  rintro m b i ys H' ⟨j, hj, rfl, rfl, rfl, rfl⟩
  refine cond_of (fun h => ?_) fun h => ?_
  · simp only [decide_eq_true_eq] at h
    have hj' : j < 64 := by omega
    rw [u64_self (n := (j : Int)) (by omega) (by omega), wrap_i64 (n := (j : Int) + 1) (by omega), blm_pos1, rem_pos2, rem_pos3]
    rw [Int.toNat_natCast, shl_pow hj', acc_wrap]
    have yes : hit k j = true → ∃ i1, i1 < 64 - j ∧ ∃ j' : Nat, j' ≤ 64 ∧ i1 = 64 - j' ∧ (j : Int) + 1 = (j' : Int) ∧ (((acc k j + BitVec.twoPow 64 j).toNat : Nat) : Int) = ((acc k j').toNat : Int) ∧ H' = H' :=
      fun hh => ⟨64 - (j + 1), by omega, j + 1, by omega, rfl, by omega, by simp [acc, hh], rfl⟩
    have no : hit k j = false → ∃ i1, i1 < 64 - j ∧ ∃ j' : Nat, j' ≤ 64 ∧ i1 = 64 - j' ∧ (j : Int) + 1 = (j' : Int) ∧ (((acc k j).toNat : Nat) : Int) = ((acc k j').toNat : Int) ∧ H' = H' :=
      fun hh => ⟨64 - (j + 1), by omega, j + 1, by omega, rfl, by omega, by simp [acc, hh], rfl⟩
    have hnn : nn (j : Int) := by unfold nn; omega
    refine ⟨by unfold nn; decide, cond_of (fun h1 => ⟨hnn, yes ?_⟩) fun h1 => ⟨by unfold nn; decide, by unfold nz; decide, cond_of (fun h2 => ⟨hnn, yes ?_⟩) fun h2 => ⟨by unfold nn; decide, by unfold nz; decide, cond_of (fun h3 => ⟨hnn, yes ?_⟩) fun h3 => no ?_⟩⟩⟩
    · simp only [beq_iff_eq] at h1
      simp [hit, show pos1 k = j by omega]
    · simp only [beq_iff_eq] at h2
      simp [hit, show pos2 k = j by omega]
    · simp only [beq_iff_eq] at h3
      simp [hit, show pos3 k = j by omega]
    · simp only [beq_eq_false_iff_ne, ne_eq] at h1 h2 h3
      simp [hit, show pos1 k ≠ j by omega, show pos2 k ≠ j by omega, show pos3 k ≠ j by omega]
  · simp only [decide_eq_false_iff_not] at h
    obtain rfl : j = 64 := by omega
    simp only [List.getD_cons_succ, List.getD_cons_zero, asInt_int]
    rw [acc_all]
    exact RBucket_ok hn ⟨_, rfl, hR⟩
end Go.Proofs.Ytlkmdcncpdadbaa

/-
  'crossbarlaw07.DeclTells' returns true: each call about two maps, two keys and a number answers what the document says.
-/
namespace Go.Proofs.Ytlkmdcncpdadbaa
open Go Go.AS Go.RowKit
set_option linter.unusedVariables false
variable {H : Heap} {R : Value → Heap → Prop}

/-! ### A row has a number -/
theorem rule_Index (t0 : Option Addr) (t0l : Nat) (t1 : Int) (t6 : Option Addr) (t6l : Nat) (t7 : Int) (K0 : Fr → Heap → Prop) (K1 : Fr → Heap → Prop) (I : Nat → Int → Int → Heap → Prop)
    (hstep : ∀ (n : Nat) (t8 : Int) (t4 : Int) (t5 : Value) (t9 : Value) (t10 : Value) (t11 : Value) (t12 : Value) (t13 : Value) (t14 : Value) (t15 : Value) (t16 : Value) (t17 : Value) (t18 : Value) (H : Heap), I n t8 t4 H →
    (bif decide (t8 < t7) then
  inB t8 t0l ∧
    asRow t0 fun i1 i2 =>
      ∃ n3,
        H.cell i1 (i2 + t8.toNat * 1) = some (Value.int IntKind.i64 n3) ∧
          bif t1 == n3 then
            K1
              [Value.slice t0 t0l 0, Value.int IntKind.i64 t1, undef, undef, Value.int IntKind.i64 t8, Value.int IntKind.i64 t8, Value.slice t6 t6l 0, Value.int IntKind.i64 t7,
                Value.int IntKind.i64 t8, Value.bool true, Value.int IntKind.i64 t8, Value.int IntKind.i64 t1, Value.slice t0 t0l 0, Value.int IntKind.i64 t8,
                Value.pointer (some { block := i1, off := i2 + t8.toNat * 1 }), Value.int IntKind.i64 n3, Value.bool true, Value.int IntKind.i64 t8, t18]
              H
          else ∃ i4, i4 < n ∧ I i4 (IntKind.i64.wrap (t8 + 1)) t4 H
 else
  K0
    [Value.slice t0 t0l 0, Value.int IntKind.i64 t1, undef, undef, Value.int IntKind.i64 t4, t5, Value.slice t6 t6l 0, Value.int IntKind.i64 t7, Value.int IntKind.i64 t8, Value.bool false, t10, t11, t12, t13, t14, t15,
      t16, t17, t18]
    H)) :
    ∀ (n : Nat) (t8 : Int) (t4 : Int) (t5 : Value) (t9 : Value) (t10 : Value) (t11 : Value) (t12 : Value) (t13 : Value) (t14 : Value) (t15 : Value) (t16 : Value) (t17 : Value) (t18 : Value) (H : Heap), I n t8 t4 H →
    LA Go.Proofs.Ytlkmdcncpdadbaa.en L_slices_Index_int_int_0
  [Value.slice t0 t0l 0, Value.int IntKind.i64 t1, undef, undef, Value.int IntKind.i64 t4, t5, Value.slice t6 t6l 0, Value.int IntKind.i64 t7, Value.int IntKind.i64 t8, t9, t10, t11, t12, t13, t14, t15, t16, t17, t18] H
  [(X.exit 0, K0), (X.ret, K1)] := by
  intro n t8 t4 t5 t9 t10 t11 t12 t13 t14 t15 t16 t17 t18 H hI
  refine LA_rule (Z := []) (fun m xs H' => AS.asInt IntKind.i64 (xs.getD 8 undef) fun t8 => AS.asInt IntKind.i64 (xs.getD 4 undef) fun t4 => I m t8 t4 H') ?_ n H ?_
  · intro n H
    suffices hs : ∀ s9 : Value, ∀ s10 : Value, ∀ s5 : Value, ∀ s11 : Value, ∀ s12 : Value, ∀ s13 : Value, ∀ s14 : Value, ∀ s15 : Value, ∀ s16 : Value, ∀ s17 : Value, ∀ s4 : Value, ∀ s18 : Value, ∀ s8 : Value, ((AS.asInt IntKind.i64 s8 fun n1 => AS.asInt IntKind.i64 s4 fun n2 => I n n1 n2 H) → wpCode Go.Proofs.Ytlkmdcncpdadbaa.en L_slices_Index_int_int_0 []
  [Value.slice t0 t0l 0, Value.int IntKind.i64 t1, undef, undef, s4, s5, Value.slice t6 t6l 0, Value.int IntKind.i64 t7, s8, s9, s10, s11, s12, s13, s14, s15, s16, s17, s18] H
  (loopQ (fun m xs H' => AS.asInt IntKind.i64 (xs.getD 8 undef) fun t8 => AS.asInt IntKind.i64 (xs.getD 4 undef) fun t4 => I m t8 t4 H') n [(X.exit 0, K0), (X.ret, K1)])) by
      apply turnInto hs
      kernel_rfl
    intro s9 s10 s5 s11 s12 s13 s14 s15 s16 s17 s4 s18 s8 hP
    replace hP := asInt_elim hP
    obtain ⟨t8, rfl, hP⟩ := hP
    replace hP := asInt_elim hP
    obtain ⟨t4, rfl, hP⟩ := hP
    apply turnInto (hstep n t8 t4 s5 s9 s10 s11 s12 s13 s14 s15 s16 s17 s18 H hP)
    kernel_rfl
  · apply turnInto hI
    kernel_rfl

theorem Contains_ok {v : Int} {a : Option Addr} {l : Nat} {xs : List Int} (hi : Ints H a l xs) (hl : xs.length < 9223372036854775807) (hR : R (.bool (decide (v ∈ xs))) H) : CA en F.slices_Contains_int_int [.slice a l 0, I v] H R := by
  obtain ⟨rfl, hi⟩ := hi
  apply vc_slices_Contains_int_int
  apply vc_slices_Index_int_int
  refine rule_Index _ _ _ _ _ _ _ _ (fun m i _ H' => ∃ j : Nat, j ≤ xs.length ∧ m = xs.length - j ∧ i = (j : Int) ∧ H' = H ∧ v ∉ xs.take j) ?_ xs.length 0 0 _ _ _ _ _ _ _ _ _ _ _ _ ⟨0, by omega, rfl, rfl, rfl, by simp⟩
  rintro m i t4 t5 t9 t10 t11 t12 t13 t14 t15 t16 t17 t18 H' ⟨j, hj, rfl, rfl, rfl, hn⟩
  refine cond_of (fun h => ?_) fun h => ?_
  · simp only [decide_eq_true_eq] at h
    have hj' : j < xs.length := by omega
    rcases hi with rfl | ⟨b, w, rfl, hb, hg⟩
    · simp at hj'
    · rw [asRow_some]
      refine ⟨by unfold inB; omega, xs[j], ?_, ?_⟩
      · rw [cell_of hg, Int.toNat_natCast]
        simp [hj']
      · refine cond_of (fun h1 => ?_) fun h1 => ⟨xs.length - (j + 1), by omega, j + 1, by omega, rfl, ?_, rfl, ?_⟩
        · simp only [List.getD_cons_succ, List.getD_cons_zero, asInt_int]
          refine ⟨_, rfl, ?_⟩
          have e : v = xs[j] := by simpa using h1
          have e1 : decide (v ∈ xs) = true := by rw [e]; simp
          have e2 : decide ((j : Int) ≥ 0) = true := by simp
          rw [e2]; rw [e1] at hR; exact hR
        · rw [wrap_i64 (by omega)]; omega
        · have e : v ≠ xs[j] := by simpa using h1
          rw [List.take_succ_eq_append_getElem hj', List.mem_append, List.mem_singleton]
          rintro (h2 | h2)
          · exact hn h2
          · exact e h2
  · simp only [decide_eq_false_iff_not] at h
    simp only [List.getD_cons_succ, List.getD_cons_zero, asInt_int]
    obtain rfl : j = xs.length := by omega
    rw [List.take_length] at hn
    refine ⟨_, rfl, ?_⟩
    have e1 : decide (v ∈ xs) = false := by simpa using hn
    have e2 : decide ((-1 : Int) ≥ 0) = false := by decide
    rw [e2]; rw [e1] at hR; exact hR

/-! ### What operations a kind may have -/
theorem does_len (x : Int) : (kindD x).does.length < 9223372036854775807 := by
  unfold kindD kindOf
  repeat (first | decide | (split))

theorem may_none {x : Int} (h : (kindOf x).isSome = false) : (kindD x).does = [] := by
  unfold kindD
  cases e : kindOf x with
  | none => rfl
  | some k => rw [e] at h; cases h

theorem May_ok {x op : Int} (hR : ∀ H', Frm [] H H' → R (.bool (decide (op ∈ (kindD x).does))) H') : CA en F.decl_May [I x, I op] H R := by
  apply vc_decl_May
  refine kinds_ok fun H2 a l f2 hi => ⟨_, _, _, _, _, _, _, rfl, ?_⟩
  refine nwH_in fun i10 H11 e11 h11 => ?_
  have g11 : H11.get i10 = some (.cells true 0 [I 0, .bool false, .bool false, .slice none 0 0, .bool false]) := by subst e11 h11; exact get_new_self _ _
  refine stc_of' g11 (Nat.le_refl _) fun H12 e12 => ?_
  have f12 : Frm [] H2 H12 := by
    subst e12 h11
    exact ((Frm.refl _ _).new _).set _ (by right; omega)
  have f : Frm [] H H12 := f2.trans f12 (by simp)
  refine cond_of (fun h => ?_) fun h => ?_
  · refine ⟨a, l, by rw [e12, cell_of (get_set_self _ _ _)]; rfl, ?_⟩
    have hi' : Ints H12 a l (kindD x).does := by
      refine ⟨hi.1, hi.2.imp_right fun ⟨i, w, h1, h2, h3⟩ => ⟨i, w, h1, ?_, ?_⟩⟩
      · have := f12.1; omega
      · rw [f12.2 i h2 (by simp)]; exact h3
    exact Contains_ok hi' (does_len x) ⟨_, rfl, hR _ f⟩
  · have := hR _ f
    rw [may_none h] at this
    exact this

theorem Nested_ok {x : Int} (hR : R (.bool (x == 9 || x == 10)) H) : CA en F.crossbarref07_Nested [I x] H R := by
  apply vc_crossbarref07_Nested
  refine cond_of (fun h => ?_) fun h => ?_
  · rw [h] at hR; exact hR
  · rw [h] at hR; exact hR

theorem RMay_ok {x op : Int} (hR : R (.bool (decide (op ∈ (kindD x).does))) H) : CA en F.crossbarref07_May [I x, I op] H R := by
  apply vc_crossbarref07_May
  have hop : op = 1 ∨ op = 2 ∨ op = 3 ∨ op = 4 ∨ op = 5 ∨ op = 6 ∨ op = 7 ∨ op = 8 ∨ ((op == 1) = false ∧ (op == 2) = false ∧ (op == 3) = false ∧ (op == 4) = false ∧ (op == 5) = false ∧ (op == 6) = false ∧ (op == 7) = false ∧ (op == 8) = false) := by
    simp only [beq_eq_false_iff_ne, ne_eq]; omega
  by_cases h : 1 ≤ x ∧ x ≤ 10
  · have hx : x = 1 ∨ x = 2 ∨ x = 3 ∨ x = 4 ∨ x = 5 ∨ x = 6 ∨ x = 7 ∨ x = 8 ∨ x = 9 ∨ x = 10 := by omega
    rcases hx with rfl | rfl | rfl | rfl | rfl | rfl | rfl | rfl | rfl | rfl <;> clear h <;> simp only [Int.reduceBEq, cond_true, cond_false]
    all_goals
      rcases hop with rfl | rfl | rfl | rfl | rfl | rfl | rfl | rfl | ⟨h1, h2, h3, h4, h5, h6, h7, h8⟩
      all_goals first
        | (simp only [Int.reduceBEq, cond_true, cond_false]; first | exact hR | exact Nested_ok ⟨_, rfl, hR⟩ | exact Nested_ok hR)
        | (simp only [h1, h2, h3, h4, h5, h6, h7, h8, cond_false]
           simp only [beq_eq_false_iff_ne, ne_eq] at h1 h2 h3 h4 h5 h6 h7 h8
           have e : ∀ xs : List Int, (∀ y ∈ xs, y = 1 ∨ y = 2 ∨ y = 3 ∨ y = 4 ∨ y = 5 ∨ y = 6 ∨ y = 7 ∨ y = 8) → decide (op ∈ xs) = false := by
             intro xs hxs
             rw [decide_eq_false_iff_not]
             intro hm
             have := hxs op hm
             omega
           rw [e _ (by decide)] at hR
           exact hR)
  · have e : kindOf x = none := by
      unfold kindOf
      repeat rw [if_neg (by omega)]
    have e2 : decide (op ∈ (kindD x).does) = false := by unfold kindD; rw [e]; rfl
    rw [e2] at hR
    have n1 : (x == 1) = false := by rw [beq_eq_false_iff_ne]; omega
    have n2 : (x == 2) = false := by rw [beq_eq_false_iff_ne]; omega
    have n3 : (x == 3) = false := by rw [beq_eq_false_iff_ne]; omega
    have n4 : (x == 4) = false := by rw [beq_eq_false_iff_ne]; omega
    have n5 : (x == 5) = false := by rw [beq_eq_false_iff_ne]; omega
    have n6 : (x == 6) = false := by rw [beq_eq_false_iff_ne]; omega
    have n7 : (x == 7) = false := by rw [beq_eq_false_iff_ne]; omega
    have n8 : (x == 8) = false := by rw [beq_eq_false_iff_ne]; omega
    have n9 : (x == 9) = false := by rw [beq_eq_false_iff_ne]; omega
    have n10 : (x == 10) = false := by rw [beq_eq_false_iff_ne]; omega
    have ne : ∀ {R' : Value → Heap → Prop}, R' (.bool false) H → CA en F.crossbarref07_Nested [I x] H R' := fun hr => Nested_ok (by rw [n9, n10]; exact hr)
    simp only [n1, n2, n3, n4, n5, n6, n7, n8, cond_false]
    repeat' (first | exact hR | exact ne ⟨_, rfl, hR⟩ | (refine cond_of (fun _ => ?_) fun _ => ?_))

/-! ### Likeness -/
def like (d e : Dc) : Bool := d.kind == e.kind && (d.entries == e.entries && (d.words == e.words && (d.buckets == e.buckets && d.inner == e.inner)))

theorem Like_ok {d e : Dc} (hR : ∀ H', Frm [] H H' → R (.bool (like d e)) H') : CA en F.decl_Like [d.val, e.val] H R := by
  apply vc_decl_Like
  refine nwH_in fun i1 H2 e1 h2 => nwH_in fun i3 H4 e3 h4 => ?_
  have g : H4.get i1 = some (.cells true 0 d.cells) ∧ H4.get i3 = some (.cells true 0 e.cells) := by
    subst e1 h2 e3 h4
    exact ⟨by rw [get_new_lt (by rw [next_new]; omega)]; exact get_new_self _ _, get_new_self _ _⟩
  have f : Frm [] H H4 := by subst h2 h4; exact ((Frm.refl _ _).new _).new _
  exact ⟨_, _, _, _, _, by rw [cellsAt_of g.1]; rfl, _, _, _, _, _, by rw [cellsAt_of g.2]; rfl, hR _ f⟩

theorem RLike_ok {d e : Dc} (hR : ∀ H', Frm [] H H' → R (.bool (like d e)) H') : CA en F.crossbarref07_Like [d.val, e.val] H R := by
  apply vc_crossbarref07_Like
  refine nwH_in fun i1 H2 e1 h2 => nwH_in fun i3 H4 e3 h4 => ?_
  have g : H4.get i1 = some (.cells true 0 d.cells) ∧ H4.get i3 = some (.cells true 0 e.cells) := by
    subst e1 h2 e3 h4
    exact ⟨by rw [get_new_lt (by rw [next_new]; omega)]; exact get_new_self _ _, get_new_self _ _⟩
  have f : Frm [] H H4 := by subst h2 h4; exact ((Frm.refl _ _).new _).new _
  have hR := hR _ f
  unfold like at hR
  refine ⟨d.kind, by rw [cell_of g.1]; rfl, e.kind, by rw [cell_of g.2]; rfl, cond_of (fun h => ?_) fun h => by rw [h] at hR; exact hR⟩
  rw [h, Bool.true_and] at hR
  refine ⟨d.entries, by rw [cell_of g.1]; rfl, e.entries, by rw [cell_of g.2]; rfl, cond_of (fun h => ?_) fun h => by rw [h] at hR; exact hR⟩
  rw [h, Bool.true_and] at hR
  refine ⟨d.words, by rw [cell_of g.1]; rfl, e.words, by rw [cell_of g.2]; rfl, cond_of (fun h => ?_) fun h => by rw [h] at hR; exact hR⟩
  rw [h, Bool.true_and] at hR
  refine ⟨d.buckets, by rw [cell_of g.1]; rfl, e.buckets, by rw [cell_of g.2]; rfl, cond_of (fun h => ?_) fun h => by rw [h] at hR; exact hR⟩
  rw [h, Bool.true_and] at hR
  exact ⟨d.inner, by rw [cell_of g.1]; rfl, e.inner, by rw [cell_of g.2]; rfl, hR⟩

/-! ### The statement -/
theorem DeclTells_fr (d e : Dc) (hd : d.buckets < 9223372036854775808) (a b : BitVec 64) (n : Int) (hn : n < 9223372036854775808) (H : Heap) : CA en F.crossbarlaw07_DeclTells [d.val, e.val, W a, W b, I n] H fun r H' => r = .bool true ∧ Frm [] H H' := by
  apply vc_crossbarlaw07_DeclTells
  refine nwH_in fun i1 H2 e1 h2 => nwH_in fun i3 H4 e3 h4 => ?_
  have f4 : Frm [] H H4 := by
    subst e1 h2 e3 h4
    exact ((Frm.refl _ _).new _).new _
  have g : H4.get i1 = some (.cells true 0 d.cells) ∧ H4.get i3 = some (.cells true 0 e.cells) ∧ i1 < H4.next ∧ i3 < H4.next := by
    subst e1 h2 e3 h4
    exact ⟨by rw [get_new_lt (by rw [next_new]; omega)]; exact get_new_self _ _, get_new_self _ _, by simp only [next_new]; omega, by simp only [next_new]; omega⟩
  clear e1 h2 e3 h4
  obtain ⟨g1, g3, l1, l3⟩ := g
  have c1 : ∀ {H' : Heap}, Frm [] H4 H' → H'.cellsAt i1 0 5 = some d.cells := fun f => by rw [cellsAt_of (w := true) (z := 0) (c := d.cells) (by rw [f.2 _ l1 (by simp)]; exact g1)]; rfl
  have c3 : ∀ {H' : Heap}, Frm [] H4 H' → H'.cellsAt i3 0 5 = some e.cells := fun f => by rw [cellsAt_of (w := true) (z := 0) (c := e.cells) (by rw [f.2 _ l3 (by simp)]; exact g3)]; rfl
  have k1 : ∀ {H' : Heap}, Frm [] H4 H' → H'.cell i1 0 = some (I d.kind) := fun f => by rw [cell_of (w := true) (z := 0) (c := d.cells) (by rw [f.2 _ l1 (by simp)]; exact g1)]; rfl
  have k3 : ∀ {H' : Heap}, Frm [] H4 H' → H'.cell i3 0 = some (I e.kind) := fun f => by rw [cell_of (w := true) (z := 0) (c := e.cells) (by rw [f.2 _ l3 (by simp)]; exact g3)]; rfl
  have same : ∀ z : Dc, sameN 8 z.val z.val = true := fun z => by simp [sameN, sameN.sameL]
  have f0 : Frm [] H4 (H4.bump 63) := (Frm.refl _ _).bump _
  refine Bloom_ok hn ⟨_, _, rfl, RBloom_ok hn ⟨_, _, rfl, ?_⟩⟩
  refine ⟨_, _, _, _, _, c1 f0, _, _, _, _, _, c3 f0, Like_ok (d := d) (e := e) fun H24 f24 => ⟨_, rfl, ?_⟩⟩
  replace f24 := f0.trans f24 (by simp)
  refine ⟨_, _, _, _, _, c1 f24, _, _, _, _, _, c3 f24, RLike_ok (d := d) (e := e) fun H37 f37 => ⟨_, rfl, cond_yes (by simp) ?_⟩⟩
  replace f37 := f24.trans f37 (by simp)
  refine ⟨_, k1 f37, May_ok fun H41 f41 => ⟨_, rfl, ?_⟩⟩
  replace f41 := f37.trans f41 (by simp)
  refine ⟨_, k1 f41, RMay_ok ⟨_, rfl, cond_yes (by simp) ?_⟩⟩
  refine ⟨_, k3 f41, May_ok fun H49 f49 => ⟨_, rfl, ?_⟩⟩
  replace f49 := f41.trans f49 (by simp)
  refine ⟨_, k3 f49, RMay_ok ⟨_, rfl, cond_yes (by simp) ?_⟩⟩
  refine Bucket_ok hn ⟨_, rfl, RBucket_ok hn ⟨_, rfl, cond_yes (by simp) ?_⟩⟩
  refine ⟨_, _, _, _, _, c1 f49, Ahead_ok (d := d) hd fun H67 f67 => ⟨_, rfl, ?_⟩⟩
  replace f67 := f49.trans f67 (by simp)
  refine ⟨_, _, _, _, _, c1 f67, RAhead_ok (d := d) hd fun H75 f75 => ⟨_, rfl, cond_yes (by simp) (cond_yes (by simp) (cond_yes (by simp) ?_))⟩⟩
  exact CA_truth (by kernel_rfl) ⟨_, rfl, ⟨rfl, f4.trans (f67.trans f75 (by simp)) (by simp)⟩, ⟨⟨_, _, _, _, _, c1 f49, same d⟩, ⟨_, _, _, _, _, c1 f67, same d⟩, trivial⟩, ⟨⟨_, k3 f41, rfl⟩, ⟨_, k3 f49, rfl⟩, trivial⟩, ⟨⟨_, k1 f37, rfl⟩, ⟨_, k1 f41, rfl⟩, trivial⟩, ⟨⟨_, _, _, _, _, c3 f0, same e⟩, ⟨_, _, _, _, _, c3 f24, same e⟩, trivial⟩, ⟨⟨_, _, _, _, _, c1 f0, same d⟩, ⟨_, _, _, _, _, c1 f24, same d⟩, trivial⟩, trivial⟩

theorem DeclTells_ok (d e : Dc) (hd : d.buckets < 9223372036854775808) (a b : BitVec 64) (n : Int) (hn : n < 9223372036854775808) (H : Heap) : CA en F.crossbarlaw07_DeclTells [d.val, e.val, W a, W b, I n] H fun r _ => r = .bool true :=
  CA_conseq (fun _ _ h => h.1) (DeclTells_fr d e hd a b n hn H)

theorem DeclTells_law (H : Heap) (us : List Value) (h : shpVs en H 7 T.DeclTells us) : CA en F.crossbarlaw07_DeclTells us H fun v _ => v = .bool true := by
  obtain ⟨v, u, rfl, ⟨lp, rfl, ap1, bp1, rfl, ⟨np1, rfl, wp1⟩, ap2, bp2, rfl, ⟨np2, rfl, wp2⟩, ap3, bp3, rfl, ⟨np3, rfl, wp3⟩, ap4, bp4, rfl, ⟨np4, rfl, wp4⟩, ap5, bp5, rfl, ⟨np5, rfl, wp5⟩, rfl⟩, v2, u2, rfl, ⟨lq, rfl, aq1, bq1, rfl, ⟨nq1, rfl, wq1⟩, aq2, bq2, rfl, ⟨nq2, rfl, wq2⟩, aq3, bq3, rfl, ⟨nq3, rfl, wq3⟩, aq4, bq4, rfl, ⟨nq4, rfl, wq4⟩, aq5, bq5, rfl, ⟨nq5, rfl, wq5⟩, rfl⟩, v3, u3, rfl, ⟨k1, e1, y1⟩, v4, u4, rfl, ⟨k2, e2, y2⟩, v5, u5, rfl, ⟨k3, e3, y3⟩, rfl⟩ := args_DeclTells h
  cases e1; cases e2; cases e3
  obtain ⟨a, rfl⟩ := word_of y1
  obtain ⟨b, rfl⟩ := word_of y2
  exact DeclTells_ok ⟨np1, np2, np3, np4, np5⟩ ⟨nq1, nq2, nq3, nq4, nq5⟩ (i64_bd wp4).2 a b k3 (i64_bd y3).2 H
end Go.Proofs.Ytlkmdcncpdadbaa

/-
  What is wrong with a map: the code and the document answer the same (UNDER WAY).
-/
namespace Go.Proofs.Ytlkmdcncpdadbaa
open Go Go.AS Go.RowKit
set_option linter.unusedVariables false
variable {H : Heap} {R : Value → Heap → Prop}

/-! ### Rows of maps -/
def flat (l : List Dc) : List Value := (l.map Dc.cells).flatten
def Rows (H : Heap) (a : Option Addr) (n : Nat) (l : List Dc) : Prop :=
  n = l.length ∧ (l = [] ∨ ∃ i w z, a = some ⟨i, 0, none⟩ ∧ i < H.next ∧ H.get i = some (.cells w z (flat l)))

theorem Rows.frm {H H' : Heap} {a n l} (h : Rows H a n l) (f : Frm [] H H') : Rows H' a n l := by
  refine ⟨h.1, h.2.imp_right fun ⟨i, w, z, h1, h2, h3⟩ => ⟨i, w, z, h1, ?_, ?_⟩⟩
  · have := f.1; omega
  · rw [f.2 i h2 (by simp)]; exact h3

def dc0 : Dc := ⟨0, 0, 0, 0, 0⟩
theorem flat_kind : ∀ (l : List Dc) (j : Nat), j < l.length → (flat l)[j * 5]? = some (I (l.getD j dc0).kind)
  | [], j, h => by simp at h
  | d :: l, 0, _ => rfl
  | d :: l, j + 1, h => by
    have ih := flat_kind l j (by simpa using h)
    have e : flat (d :: l) = d.cells ++ flat l := rfl
    rw [e, List.getElem?_append_right (by simp only [List.length_cons, List.length_nil]; omega)]
    have e2 : (j + 1) * 5 - d.cells.length = j * 5 := by simp only [List.length_cons, List.length_nil]; omega
    rw [e2, ih]
    simp

theorem flat_take : ∀ (l : List Dc) (j : Nat), j < l.length → takeAt (flat l) (j * 5) 5 = some (l.getD j dc0).cells
  | [], j, h => by simp at h
  | d :: l, 0, _ => rfl
  | d :: l, j + 1, h => by
    have ih := flat_take l j (by simpa using h)
    have e : flat (d :: l) = d.cells ++ flat l := rfl
    have e2 : (j + 1) * 5 = (j * 5) + 1 + 1 + 1 + 1 + 1 := by omega
    rw [e, e2]
    simpa [takeAt] using ih

/-! ### What is wrong with one -/
def pow (n : Int) : Prop := n = 1 ∨ n = 2 ∨ n = 4 ∨ n = 8 ∨ n = 16 ∨ n = 32
instance (n : Int) : Decidable (pow n) := inferInstanceAs (Decidable (n = 1 ∨ n = 2 ∨ n = 4 ∨ n = 8 ∨ n = 16 ∨ n = 32))

def chk (l : List Dc) (d : Dc) : Int :=
  if (kindOf d.kind).isSome = false then 1
  else if d.entries < 1 ∨ d.entries > 64 ∨ d.words < 1 ∨ d.words > (kindD d.kind).words then 1
  else if (kindD d.kind).buckets = true ∧ ¬ pow d.buckets ∨ (kindD d.kind).buckets = false ∧ d.buckets ≠ 0 then 1
  else if (kindD d.kind).nested = true then
    (if d.inner < 1 ∨ d.inner > (l.length : Int) then 1 else if (kindD (l.getD (d.inner - 1).toNat dc0).kind).nested = true then 14 else 0)
  else if d.inner ≠ 0 then 1 else 0

theorem Within_ok {x m : Int} (hR : R (.bool (decide (1 ≤ x ∧ x ≤ m))) H) : CA en F.decl_within [I x, I m] H R := by
  apply vc_decl_within
  refine cond_of (fun h => ?_) fun h => ?_
  · have e : decide (1 ≤ x ∧ x ≤ m) = decide (x ≤ m) := by
      simp only [decide_eq_true_eq] at h
      rw [Bool.eq_iff_iff]; simp only [decide_eq_true_eq]; omega
    rw [e] at hR; exact hR
  · have e : decide (1 ≤ x ∧ x ≤ m) = false := by
      simp only [decide_eq_false_iff_not] at h ⊢; omega
    rw [e] at hR; exact hR

theorem Ones_ok {n : Int} (h : 1 ≤ n ∧ n ≤ 32) (hR : ∀ c : Int, (c = 1 ↔ pow n) → R (I c) H) : CA en F.math_bits_OnesCount [.int .u64 (IntKind.u64.wrap n)] H R := by
  rw [u64_self (by omega) (by omega)]
  apply vc_math_bits_OnesCount
  apply vc_math_bits_OnesCount64
  have hx : n = 1 ∨ n = 2 ∨ n = 3 ∨ n = 4 ∨ n = 5 ∨ n = 6 ∨ n = 7 ∨ n = 8 ∨ n = 9 ∨ n = 10 ∨ n = 11 ∨ n = 12 ∨ n = 13 ∨ n = 14 ∨ n = 15 ∨ n = 16 ∨ n = 17 ∨ n = 18 ∨ n = 19 ∨ n = 20 ∨ n = 21 ∨ n = 22 ∨ n = 23 ∨ n = 24 ∨ n = 25 ∨ n = 26 ∨ n = 27 ∨ n = 28 ∨ n = 29 ∨ n = 30 ∨ n = 31 ∨ n = 32 := by omega
  rcases hx with rfl | rfl | rfl | rfl | rfl | rfl | rfl | rfl | rfl | rfl | rfl | rfl | rfl | rfl | rfl | rfl | rfl | rfl | rfl | rfl | rfl | rfl | rfl | rfl | rfl | rfl | rfl | rfl | rfl | rfl | rfl | rfl
  · refine ⟨by unfold nn; decide, by unfold nn; decide, by unfold nn; decide, by unfold nn; decide, by unfold nn; decide, by unfold nn; decide, ?_⟩; refine ⟨_, rfl, ?_⟩; apply turnInto (hR 1 (by decide)); kernel_rfl
  · refine ⟨by unfold nn; decide, by unfold nn; decide, by unfold nn; decide, by unfold nn; decide, by unfold nn; decide, by unfold nn; decide, ?_⟩; refine ⟨_, rfl, ?_⟩; apply turnInto (hR 1 (by decide)); kernel_rfl
  · refine ⟨by unfold nn; decide, by unfold nn; decide, by unfold nn; decide, by unfold nn; decide, by unfold nn; decide, by unfold nn; decide, ?_⟩; refine ⟨_, rfl, ?_⟩; apply turnInto (hR 2 (by decide)); kernel_rfl
  · refine ⟨by unfold nn; decide, by unfold nn; decide, by unfold nn; decide, by unfold nn; decide, by unfold nn; decide, by unfold nn; decide, ?_⟩; refine ⟨_, rfl, ?_⟩; apply turnInto (hR 1 (by decide)); kernel_rfl
  · refine ⟨by unfold nn; decide, by unfold nn; decide, by unfold nn; decide, by unfold nn; decide, by unfold nn; decide, by unfold nn; decide, ?_⟩; refine ⟨_, rfl, ?_⟩; apply turnInto (hR 2 (by decide)); kernel_rfl
  · refine ⟨by unfold nn; decide, by unfold nn; decide, by unfold nn; decide, by unfold nn; decide, by unfold nn; decide, by unfold nn; decide, ?_⟩; refine ⟨_, rfl, ?_⟩; apply turnInto (hR 2 (by decide)); kernel_rfl
  · refine ⟨by unfold nn; decide, by unfold nn; decide, by unfold nn; decide, by unfold nn; decide, by unfold nn; decide, by unfold nn; decide, ?_⟩; refine ⟨_, rfl, ?_⟩; apply turnInto (hR 3 (by decide)); kernel_rfl
  · refine ⟨by unfold nn; decide, by unfold nn; decide, by unfold nn; decide, by unfold nn; decide, by unfold nn; decide, by unfold nn; decide, ?_⟩; refine ⟨_, rfl, ?_⟩; apply turnInto (hR 1 (by decide)); kernel_rfl
  · refine ⟨by unfold nn; decide, by unfold nn; decide, by unfold nn; decide, by unfold nn; decide, by unfold nn; decide, by unfold nn; decide, ?_⟩; refine ⟨_, rfl, ?_⟩; apply turnInto (hR 2 (by decide)); kernel_rfl
  · refine ⟨by unfold nn; decide, by unfold nn; decide, by unfold nn; decide, by unfold nn; decide, by unfold nn; decide, by unfold nn; decide, ?_⟩; refine ⟨_, rfl, ?_⟩; apply turnInto (hR 2 (by decide)); kernel_rfl
  · refine ⟨by unfold nn; decide, by unfold nn; decide, by unfold nn; decide, by unfold nn; decide, by unfold nn; decide, by unfold nn; decide, ?_⟩; refine ⟨_, rfl, ?_⟩; apply turnInto (hR 3 (by decide)); kernel_rfl
  · refine ⟨by unfold nn; decide, by unfold nn; decide, by unfold nn; decide, by unfold nn; decide, by unfold nn; decide, by unfold nn; decide, ?_⟩; refine ⟨_, rfl, ?_⟩; apply turnInto (hR 2 (by decide)); kernel_rfl
  · refine ⟨by unfold nn; decide, by unfold nn; decide, by unfold nn; decide, by unfold nn; decide, by unfold nn; decide, by unfold nn; decide, ?_⟩; refine ⟨_, rfl, ?_⟩; apply turnInto (hR 3 (by decide)); kernel_rfl
  · refine ⟨by unfold nn; decide, by unfold nn; decide, by unfold nn; decide, by unfold nn; decide, by unfold nn; decide, by unfold nn; decide, ?_⟩; refine ⟨_, rfl, ?_⟩; apply turnInto (hR 3 (by decide)); kernel_rfl
  · refine ⟨by unfold nn; decide, by unfold nn; decide, by unfold nn; decide, by unfold nn; decide, by unfold nn; decide, by unfold nn; decide, ?_⟩; refine ⟨_, rfl, ?_⟩; apply turnInto (hR 4 (by decide)); kernel_rfl
  · refine ⟨by unfold nn; decide, by unfold nn; decide, by unfold nn; decide, by unfold nn; decide, by unfold nn; decide, by unfold nn; decide, ?_⟩; refine ⟨_, rfl, ?_⟩; apply turnInto (hR 1 (by decide)); kernel_rfl
  · refine ⟨by unfold nn; decide, by unfold nn; decide, by unfold nn; decide, by unfold nn; decide, by unfold nn; decide, by unfold nn; decide, ?_⟩; refine ⟨_, rfl, ?_⟩; apply turnInto (hR 2 (by decide)); kernel_rfl
  · refine ⟨by unfold nn; decide, by unfold nn; decide, by unfold nn; decide, by unfold nn; decide, by unfold nn; decide, by unfold nn; decide, ?_⟩; refine ⟨_, rfl, ?_⟩; apply turnInto (hR 2 (by decide)); kernel_rfl
  · refine ⟨by unfold nn; decide, by unfold nn; decide, by unfold nn; decide, by unfold nn; decide, by unfold nn; decide, by unfold nn; decide, ?_⟩; refine ⟨_, rfl, ?_⟩; apply turnInto (hR 3 (by decide)); kernel_rfl
  · refine ⟨by unfold nn; decide, by unfold nn; decide, by unfold nn; decide, by unfold nn; decide, by unfold nn; decide, by unfold nn; decide, ?_⟩; refine ⟨_, rfl, ?_⟩; apply turnInto (hR 2 (by decide)); kernel_rfl
  · refine ⟨by unfold nn; decide, by unfold nn; decide, by unfold nn; decide, by unfold nn; decide, by unfold nn; decide, by unfold nn; decide, ?_⟩; refine ⟨_, rfl, ?_⟩; apply turnInto (hR 3 (by decide)); kernel_rfl
  · refine ⟨by unfold nn; decide, by unfold nn; decide, by unfold nn; decide, by unfold nn; decide, by unfold nn; decide, by unfold nn; decide, ?_⟩; refine ⟨_, rfl, ?_⟩; apply turnInto (hR 3 (by decide)); kernel_rfl
  · refine ⟨by unfold nn; decide, by unfold nn; decide, by unfold nn; decide, by unfold nn; decide, by unfold nn; decide, by unfold nn; decide, ?_⟩; refine ⟨_, rfl, ?_⟩; apply turnInto (hR 4 (by decide)); kernel_rfl
  · refine ⟨by unfold nn; decide, by unfold nn; decide, by unfold nn; decide, by unfold nn; decide, by unfold nn; decide, by unfold nn; decide, ?_⟩; refine ⟨_, rfl, ?_⟩; apply turnInto (hR 2 (by decide)); kernel_rfl
  · refine ⟨by unfold nn; decide, by unfold nn; decide, by unfold nn; decide, by unfold nn; decide, by unfold nn; decide, by unfold nn; decide, ?_⟩; refine ⟨_, rfl, ?_⟩; apply turnInto (hR 3 (by decide)); kernel_rfl
  · refine ⟨by unfold nn; decide, by unfold nn; decide, by unfold nn; decide, by unfold nn; decide, by unfold nn; decide, by unfold nn; decide, ?_⟩; refine ⟨_, rfl, ?_⟩; apply turnInto (hR 3 (by decide)); kernel_rfl
  · refine ⟨by unfold nn; decide, by unfold nn; decide, by unfold nn; decide, by unfold nn; decide, by unfold nn; decide, by unfold nn; decide, ?_⟩; refine ⟨_, rfl, ?_⟩; apply turnInto (hR 4 (by decide)); kernel_rfl
  · refine ⟨by unfold nn; decide, by unfold nn; decide, by unfold nn; decide, by unfold nn; decide, by unfold nn; decide, by unfold nn; decide, ?_⟩; refine ⟨_, rfl, ?_⟩; apply turnInto (hR 3 (by decide)); kernel_rfl
  · refine ⟨by unfold nn; decide, by unfold nn; decide, by unfold nn; decide, by unfold nn; decide, by unfold nn; decide, by unfold nn; decide, ?_⟩; refine ⟨_, rfl, ?_⟩; apply turnInto (hR 4 (by decide)); kernel_rfl
  · refine ⟨by unfold nn; decide, by unfold nn; decide, by unfold nn; decide, by unfold nn; decide, by unfold nn; decide, by unfold nn; decide, ?_⟩; refine ⟨_, rfl, ?_⟩; apply turnInto (hR 4 (by decide)); kernel_rfl
  · refine ⟨by unfold nn; decide, by unfold nn; decide, by unfold nn; decide, by unfold nn; decide, by unfold nn; decide, by unfold nn; decide, ?_⟩; refine ⟨_, rfl, ?_⟩; apply turnInto (hR 5 (by decide)); kernel_rfl
  · refine ⟨by unfold nn; decide, by unfold nn; decide, by unfold nn; decide, by unfold nn; decide, by unfold nn; decide, by unfold nn; decide, ?_⟩; refine ⟨_, rfl, ?_⟩; apply turnInto (hR 1 (by decide)); kernel_rfl

theorem check_ok {a : Option Addr} {n : Nat} {l : List Dc} {d : Dc} (hr : Rows H a n l) (hl : l.length < 9223372036854775808) (hR : ∀ H', Frm [] H H' → R (I (chk l d)) H') : CA en F.decl_check [.slice a n 0, d.val] H R := by
  obtain ⟨rfl, hr⟩ := hr
  apply vc_decl_check
  refine nwH_in fun i1 H2 e1 h2 => ?_
  have g2 : H2.get i1 = some (.cells true 0 d.cells) := by subst e1 h2; exact get_new_self _ _
  have l2 : i1 < H2.next := by subst e1 h2; rw [next_new]; omega
  have f2 : Frm [] H H2 := by subst h2; exact (Frm.refl _ _).new _
  clear e1 h2
  refine ⟨d.kind, by rw [cell_of g2]; rfl, kinds_ok fun H5 al ll f5 hi => ⟨_, _, _, _, _, _, _, rfl, ?_⟩⟩
  refine nwH_in fun i13 H14 e13 h14 => ?_
  have g14 : H14.get i13 = some (.cells true 0 [I 0, .bool false, .bool false, .slice none 0 0, .bool false]) := by subst e13 h14; exact get_new_self _ _
  refine stc_of' g14 (Nat.le_refl _) fun H15 e15 => ?_
  have f15 : Frm [] H2 H15 := by
    subst e15 h14
    exact (f5.new _).set _ (by right; have := f5.1; omega)
  have g1 : H15.get i1 = some (.cells true 0 d.cells) := by rw [f15.2 _ l2 (by simp)]; exact g2
  have g13 : H15.get i13 = some (.cells true 0 [I (kindD d.kind).words, .bool (kindD d.kind).buckets, .bool (kindD d.kind).nested, .slice al ll 0, .bool (kindD d.kind).bucketed]) := by rw [e15]; exact get_set_self _ _ _
  have f : Frm [] H H15 := f2.trans f15 (by simp)
  clear e15 h14 g14 e13 hi f5 f2 g2
  have hr15 : l = [] ∨ ∃ (i : Nat) (w : Bool) (z : Nat), a = some ⟨i, 0, none⟩ ∧ i < H15.next ∧ H15.get i = some (AS.Obj.cells w z (flat l)) :=
    hr.imp_right fun ⟨i, w, z, h1, h2, h3⟩ => ⟨i, w, z, h1, Nat.lt_of_lt_of_le h2 f.1, by rw [f.2 i h2 (by simp)]; exact h3⟩
  have nested : (1 ≤ d.inner ∧ d.inner ≤ (l.length : Int)) → (∀ H', Frm [] H H' → R (I (if (kindD (l.getD (d.inner - 1).toNat dc0).kind).nested = true then 14 else 0)) H') →
      ∃ n44, H15.cell i1 4 = some (I n44) ∧ inB (IntKind.i64.wrap (n44 - 1)) l.length ∧ asRow a fun i45 i46 =>
        ∃ n47, H15.cell i45 (i46 + (IntKind.i64.wrap (n44 - 1)).toNat * 5) = some (I n47) ∧ CA en F.decl_kinds [I n47] H15 fun v48 H49 =>
          ∃ n50 b51 b52 a53 i54 b55 b56, v48 = .tuple #[.agg #[I n50, .bool b51, .bool b52, .slice a53 i54 0, .bool b55], .bool b56] ∧
            nwH H49 (.cells true 0 [I 0, .bool false, .bool false, .slice none 0 0, .bool false]) fun i57 H58 =>
              stc H58 i57 0 [I n50, .bool b51, .bool b52, .slice a53 i54 0, .bool b55] fun H59 => ∃ b60, H59.cell i57 2 = some (.bool b60) ∧ cond b60 (R (I 14) H59) (R (I 0) H59) := by
    intro hin hR
    refine ⟨d.inner, by rw [cell_of g1]; rfl, ?_⟩
    rw [wrap_i64 (by omega)]
    refine ⟨by unfold inB; omega, ?_⟩
    rcases hr15 with rfl | ⟨i, w, z, rfl, hb, hg⟩
    · simp only [List.length_nil] at hin; omega
    · rw [asRow_some]
      refine ⟨(l.getD (d.inner - 1).toNat dc0).kind, by rw [cell_of hg, Nat.zero_add]; exact flat_kind l _ (by omega), ?_⟩
      refine kinds_ok fun H49 a2 l3 f49 hi => ⟨_, _, _, _, _, _, _, rfl, ?_⟩
      refine nwH_in fun i57 H58 e57 h58 => ?_
      have g58 : H58.get i57 = some (.cells true 0 [I 0, .bool false, .bool false, .slice none 0 0, .bool false]) := by subst e57 h58; exact get_new_self _ _
      refine stc_of' g58 (Nat.le_refl _) fun H59 e59 => ?_
      have f59 : Frm [] H H59 := by
        subst e59 h58
        exact ((f.trans f49 (by simp)).new _).set _ (by right; have := f49.1; have := f.1; omega)
      refine ⟨(kindD (l.getD (d.inner - 1).toNat dc0).kind).nested, by rw [e59, cell_of (get_set_self _ _ _)]; rfl, ?_⟩
      have := hR _ f59
      refine cond_of (fun h => ?_) fun h => ?_
      · rw [if_pos h] at this; exact this
      · rw [if_neg (by rw [h]; decide)] at this; exact this
  have leaf : ∀ c, chk l d = c → R (I c) H15 := fun c e => by have := hR _ f; rw [e] at this; exact this
  have deep : ∀ c, chk l d = c → ∀ H', Frm [] H H' → R (I c) H' := fun c e H' f' => by have := hR _ f'; rw [e] at this; exact this
  clear hR hr15 hr f15 f
  cases his : (kindOf d.kind).isSome
  · exact leaf _ (by unfold chk; rw [if_pos his])
  cases hkb : (kindD d.kind).buckets <;> cases hkn : (kindD d.kind).nested <;> rw [hkb, hkn] at g13
  all_goals
    repeat' first
      | refine leaf _ ?_
      | refine Within_ok ⟨_, rfl, ?_⟩
      | refine nested ?_ (deep _ ?_)
      | refine ⟨_, by rw [cell_of g1]; rfl, ?_⟩
      | refine ⟨_, by rw [cell_of g13]; rfl, ?_⟩
      | (refine Ones_ok (by simp only [Bool.not_eq_false', decide_eq_true_eq, Bool.not_eq_false] at *; omega) fun c hc => ⟨_, rfl, ?_⟩)
      | refine cond_of (fun h => ?_) fun h => ?_
  all_goals
    clear leaf nested deep g1 g13
    try unfold chk
    try unfold pow at *
    simp only [his, hkb, hkn, Bool.not_eq_true', Bool.not_eq_false', Bool.not_eq_true, Bool.not_eq_false, decide_eq_true_eq, decide_eq_false_iff_not, bne_iff_ne, bne_eq_false_iff_eq, Bool.not_true, Bool.not_false, Bool.true_eq_false, Bool.false_eq_true, if_true, if_false, true_and, false_and, or_false, false_or, ne_eq, reduceCtorEq] at *
    try ((repeat' split) <;> omega)
end Go.Proofs.Ytlkmdcncpdadbaa

/-
  What is wrong with a map: the document's answer (UNDER WAY).
-/
namespace Go.Proofs.Ytlkmdcncpdadbaa
open Go Go.AS Go.RowKit
set_option linter.unusedVariables false
variable {H : Heap} {R : Value → Heap → Prop}

theorem some_eq (k : Int) : (kindOf k).isSome = decide (1 ≤ k ∧ k ≤ 10) := by
  by_cases h : 1 ≤ k ∧ k ≤ 10
  · have hx : k = 1 ∨ k = 2 ∨ k = 3 ∨ k = 4 ∨ k = 5 ∨ k = 6 ∨ k = 7 ∨ k = 8 ∨ k = 9 ∨ k = 10 := by omega
    rcases hx with rfl | rfl | rfl | rfl | rfl | rfl | rfl | rfl | rfl | rfl <;> rfl
  · have e : kindOf k = none := by
      unfold kindOf
      repeat rw [if_neg (by omega)]
    rw [e, decide_eq_false h]; rfl

theorem buckets_eq (k : Int) : (kindD k).buckets = decide (k = 4 ∨ k = 8 ∨ k = 10) := by
  by_cases h : 1 ≤ k ∧ k ≤ 10
  · have hx : k = 1 ∨ k = 2 ∨ k = 3 ∨ k = 4 ∨ k = 5 ∨ k = 6 ∨ k = 7 ∨ k = 8 ∨ k = 9 ∨ k = 10 := by omega
    rcases hx with rfl | rfl | rfl | rfl | rfl | rfl | rfl | rfl | rfl | rfl <;> rfl
  · have e : kindOf k = none := by
      unfold kindOf
      repeat rw [if_neg (by omega)]
    unfold kindD; rw [e, decide_eq_false (by omega)]; rfl

theorem nested_eq (k : Int) : (kindD k).nested = decide (k = 9 ∨ k = 10) := by
  by_cases h : 1 ≤ k ∧ k ≤ 10
  · have hx : k = 1 ∨ k = 2 ∨ k = 3 ∨ k = 4 ∨ k = 5 ∨ k = 6 ∨ k = 7 ∨ k = 8 ∨ k = 9 ∨ k = 10 := by omega
    rcases hx with rfl | rfl | rfl | rfl | rfl | rfl | rfl | rfl | rfl | rfl <;> rfl
  · have e : kindOf k = none := by
      unfold kindOf
      repeat rw [if_neg (by omega)]
    unfold kindD; rw [e, decide_eq_false (by omega)]; rfl

theorem words_eq (k : Int) : (kindD k).words = if k = 3 ∨ k = 6 ∨ k = 7 then 4 else if 1 ≤ k ∧ k ≤ 10 then 1 else 0 := by
  by_cases h : 1 ≤ k ∧ k ≤ 10
  · have hx : k = 1 ∨ k = 2 ∨ k = 3 ∨ k = 4 ∨ k = 5 ∨ k = 6 ∨ k = 7 ∨ k = 8 ∨ k = 9 ∨ k = 10 := by omega
    rcases hx with rfl | rfl | rfl | rfl | rfl | rfl | rfl | rfl | rfl | rfl <;> rfl
  · have e : kindOf k = none := by
      unfold kindOf
      repeat rw [if_neg (by omega)]
    unfold kindD; rw [e, if_neg (by omega), if_neg h]; rfl

theorem RBuck_ok {x : Int} (hR : R (.bool (kindD x).buckets) H) : CA en F.crossbarref07_bucketed [I x] H R := by
  apply vc_crossbarref07_bucketed
  rw [buckets_eq] at hR
  have e : decide (x = 4 ∨ x = 8 ∨ x = 10) = (x == 4 || (x == 8 || x == 10)) := by rw [Bool.eq_iff_iff]; simp
  rw [e] at hR
  exact cond_of (fun h => by rw [h] at hR; exact hR) fun h => cond_of (fun h' => by rw [h, h'] at hR; exact hR) fun h' => by rw [h, h'] at hR; exact hR

theorem RNest_ok {x : Int} (hR : R (.bool (kindD x).nested) H) : CA en F.crossbarref07_Nested [I x] H R := by
  apply Nested_ok
  rw [nested_eq] at hR
  have e : decide (x = 9 ∨ x = 10) = (x == 9 || x == 10) := by rw [Bool.eq_iff_iff]; simp
  rw [e] at hR; exact hR

theorem RPow_ok {x : Int} (hR : R (.bool (decide (x = 1 ∨ x = 2 ∨ x = 4 ∨ x = 8 ∨ x = 16 ∨ x = 32))) H) : CA en F.crossbarref07_power [I x] H R := by
  apply vc_crossbarref07_power
  have e : decide (x = 1 ∨ x = 2 ∨ x = 4 ∨ x = 8 ∨ x = 16 ∨ x = 32) = (x == 1 || (x == 2 || (x == 4 || (x == 8 || (x == 16 || x == 32))))) := by rw [Bool.eq_iff_iff, decide_eq_true_iff]; simp
  rw [e] at hR
  repeat' (refine cond_of (fun h => ?_) fun h => ?_)
  all_goals simp_all

set_option maxHeartbeats 4000000 in
theorem one_ok {a : Option Addr} {n : Nat} {l : List Dc} {d : Dc} (hr : Rows H a n l) (hl : l.length < 9223372036854775808) (hR : ∀ H', Frm [] H H' → R (I (chk l d)) H') : CA en F.crossbarref07_one [.slice a n 0, d.val] H R := by
  obtain ⟨rfl, hr⟩ := hr
  apply vc_crossbarref07_one
  refine nwH_in fun i1 H2 e1 h2 => ?_
  have g1 : H2.get i1 = some (.cells true 0 d.cells) := by subst e1 h2; exact get_new_self _ _
  have f2 : Frm [] H H2 := by subst h2; exact (Frm.refl _ _).new _
  clear e1 h2
  have g1' : (H2.bump 18).get i1 = some (.cells true 0 d.cells) := g1
  have f3 : Frm [] H (H2.bump 18) := f2.bump _
  have hr15 : l = [] ∨ ∃ (i : Nat) (w : Bool) (z : Nat), a = some ⟨i, 0, none⟩ ∧ i < H.next ∧ (H2.bump 18).get i = some (AS.Obj.cells w z (flat l)) :=
    hr.imp_right fun ⟨i, w, z, h1, h2, h3⟩ => ⟨i, w, z, h1, h2, by rw [f3.2 i h2 (by simp)]; exact h3⟩
  have nested : (1 ≤ d.inner ∧ d.inner ≤ (l.length : Int)) → chk l d = (if (kindD (l.getD (d.inner - 1).toNat dc0).kind).nested = true then 14 else 0) →
      ∃ n44, (H2.bump 18).cell i1 4 = some (I n44) ∧ inB (IntKind.i64.wrap (n44 - 1)) l.length ∧ asRow a fun i45 i46 =>
        ∃ n47, (H2.bump 18).cell i45 (i46 + (IntKind.i64.wrap (n44 - 1)).toNat * 5) = some (I n47) ∧ CA en F.crossbarref07_Nested [I n47] (H2.bump 18) fun v48 H49 =>
          ∃ b50, v48 = .bool b50 ∧ cond b50 (R (I 14) H49) (R (I 0) H49) := by
    intro hin hc
    have := hR _ f3
    refine ⟨d.inner, by rw [cell_of g1']; rfl, ?_⟩
    rw [wrap_i64 (by omega)]
    refine ⟨by unfold inB; omega, ?_⟩
    rcases hr15 with rfl | ⟨i, w, z, rfl, hb, hg⟩
    · simp only [List.length_nil] at hin; omega
    · rw [asRow_some]
      refine ⟨(l.getD (d.inner - 1).toNat dc0).kind, by rw [cell_of hg, Nat.zero_add]; exact flat_kind l _ (by omega), ?_⟩
      refine RNest_ok ⟨_, rfl, ?_⟩
      rw [hc] at this
      refine cond_of (fun h => ?_) fun h => ?_
      · rw [if_pos h] at this; exact this
      · rw [if_neg (by rw [h]; decide)] at this; exact this
  have leaf2 : ∀ c, chk l d = c → R (I c) H2 := fun c e => by have := hR _ f2; rw [e] at this; exact this
  have leaf3 : ∀ c, chk l d = c → R (I c) (H2.bump 18) := fun c e => by have := hR _ f3; rw [e] at this; exact this
  clear hR hr15 hr f2 f3
  have hb := (buckets_eq d.kind).symm
  have hn := (nested_eq d.kind).symm
  cases hkb : (kindD d.kind).buckets <;> cases hkn : (kindD d.kind).nested <;> rw [hkb] at hb <;> rw [hkn] at hn
  all_goals
    repeat' first
      | refine leaf2 _ ?_
      | refine leaf3 _ ?_
      | refine RBuck_ok ⟨_, rfl, ?_⟩
      | refine RNest_ok ⟨_, rfl, ?_⟩
      | refine RPow_ok ⟨_, rfl, ?_⟩
      | refine nested ?_ ?_
      | refine ⟨_, by rw [cell_of g1]; rfl, ?_⟩
      | refine ⟨_, by rw [cell_of g1']; rfl, ?_⟩
      | refine cond_of (fun h => ?_) fun h => ?_
      | refine ⟨?_, ⟨rfl, rfl, trivial⟩, ⟨⟨_, by rw [cell_of g1']; rfl, rfl⟩, ⟨_, by rw [cell_of g1']; rfl, rfl⟩, trivial⟩, trivial⟩
      | fail
  all_goals
    clear leaf2 leaf3 nested g1 g1'
    try unfold chk
    try rw [some_eq, words_eq]
    try unfold pow at *
    simp only [hkb, hkn, beq_iff_eq, beq_eq_false_iff_ne, Bool.true_beq, Bool.false_beq, Bool.not_eq_true', Bool.not_eq_false', Bool.not_eq_true, Bool.not_eq_false, decide_eq_true_eq, decide_eq_false_iff_not, bne_iff_ne, bne_eq_false_iff_eq, Bool.not_true, Bool.not_false, Bool.true_eq_false, Bool.false_eq_true, if_true, if_false, true_and, false_and, or_false, false_or, ne_eq, reduceCtorEq] at *
    try ((repeat' split) <;> omega)
end Go.Proofs.Ytlkmdcncpdadbaa

/-
  What is wrong with maps: the loops; the statement.
-/
namespace Go.Proofs.Ytlkmdcncpdadbaa
open Go Go.AS Go.RowKit
set_option linter.unusedVariables false
variable {H : Heap} {R : Value → Heap → Prop}

def firstBad (l : List Dc) : List Dc → Int
  | [] => 0
  | d :: r => if chk l d ≠ 0 then chk l d else firstBad l r

def chks (l : List Dc) : Int := if (l.length : Int) > 10 then 19 else firstBad l l

theorem drop_getD (l : List Dc) (j : Nat) (h : j < l.length) : l.drop j = l.getD j dc0 :: l.drop (j + 1) := by
  rw [List.getD_eq_getElem?_getD, List.getElem?_eq_getElem h, Option.getD_some]
  exact List.drop_eq_getElem_cons h

theorem rows_row {a n l} (hr : Rows H a n l) {j : Nat} (hj : j < l.length) : ∃ i, a = some ⟨i, 0, none⟩ ∧ i < H.next ∧ H.cellsAt i (0 + j * 5) 5 = some (l.getD j dc0).cells := by
  rcases hr.2 with rfl | ⟨i, w, z, rfl, h1, h2⟩
  · simp at hj
  · exact ⟨i, rfl, h1, by rw [cellsAt_of h2, Nat.zero_add]; exact flat_take l j hj⟩

theorem Check_ok {a : Option Addr} {n : Nat} {l : List Dc} (hr : Rows H a n l) (hR : ∀ H', Frm [] H H' → R (I (chks l)) H') : CA en F.decl_Check [.slice a n 0] H R := by
  obtain rfl := hr.1
  apply vc_decl_Check
  refine cond_of (fun h => ?_) fun h => ?_
  · have := hR H (Frm.refl _ _)
    unfold chks at this
    rw [if_pos (by simpa using h)] at this
    exact this
  simp only [decide_eq_false_iff_not] at h
  refine use_decl_Check_0 (fun m _ i H' => ∃ j : Nat, j ≤ l.length ∧ m = l.length - j ∧ i = (j : Int) ∧ Frm [] H H' ∧ chks l = firstBad l (l.drop j)) l.length ⟨0, by omega, rfl, rfl, Frm.refl _ _, by unfold chks; rw [if_neg h]; rfl⟩ ?_
  rintro m t2 i ys H' ⟨j, hj, rfl, rfl, fr, hc⟩
  refine cond_of (fun h => ?_) fun h => ?_
  · simp only [decide_eq_true_eq] at h
    have hj' : j < l.length := by omega
    refine ⟨by unfold inB; omega, ?_⟩
    have hr' := hr.frm fr
    obtain ⟨b, rfl, hb, hg⟩ := rows_row hr' hj'
    rw [asRow_some]
    refine ⟨_, _, _, _, _, by rw [Int.toNat_natCast]; exact hg, ?_⟩
    have h0 : Sep H' [] := Sep.nil
    refine nwH_in fun i8 H9 e8 e9 => ?_
    have g9 : H9.get i8 = some (.cells true 0 [I 0, I 0, I 0, I 0, I 0]) := by subst e8 e9; exact get_new_self _ _
    refine stc_of' g9 (Nat.le_refl _) fun H10 e10 => ?_
    have fr10 : Frm [] H H10 := by subst e8 e9 e10; exact (fr.new _).set _ (by right; exact fr.1)
    refine ⟨_, _, _, _, _, by rw [e10, cellsAt_of (get_set_self _ _ _)]; rfl, ?_⟩
    refine check_ok (d := l.getD j dc0) (hr.frm fr10) (by omega) fun H17 fr17 => ⟨_, rfl, ?_⟩
    have fr' := fr10.trans fr17 (by simp)
    rw [drop_getD l j hj'] at hc
    refine cond_of (fun h1 => ?_) fun h1 => ⟨l.length - (j + 1), by omega, j + 1, by omega, rfl, ?_, fr', ?_⟩
    · simp only [List.getD_cons_succ, List.getD_cons_zero, asInt_int]
      have := hR _ fr'
      rw [hc] at this
      unfold firstBad at this
      rw [if_pos (by simpa using h1)] at this
      exact this
    · rw [wrap_i64 (by omega)]; omega
    · rw [hc]
      show (if chk l (l.getD j dc0) ≠ 0 then chk l (l.getD j dc0) else firstBad l (l.drop (j + 1))) = _
      rw [if_neg (by simpa using h1)]
  · simp only [decide_eq_false_iff_not] at h
    obtain rfl : j = l.length := by omega
    rw [List.drop_length] at hc
    simp only [List.getD_cons_succ, List.getD_cons_zero, asInt_int]
    have := hR _ fr
    rw [hc] at this
    exact this

theorem RCheck_ok {a : Option Addr} {n : Nat} {l : List Dc} (hr : Rows H a n l) (hR : ∀ H', Frm [] H H' → R (I (chks l)) H') : CA en F.crossbarref07_Check [.slice a n 0] H R := by
  obtain rfl := hr.1
  apply vc_crossbarref07_Check
  refine cond_of (fun h => ?_) fun h => ?_
  · have := hR H (Frm.refl _ _)
    unfold chks at this
    rw [if_pos (by simpa using h)] at this
    exact this
  simp only [decide_eq_false_iff_not] at h
  refine use_crossbarref07_Check_0 (fun m _ i H' => ∃ j : Nat, j ≤ l.length ∧ m = l.length - j ∧ i = (j : Int) ∧ Frm [] H H' ∧ chks l = firstBad l (l.drop j)) l.length ⟨0, by omega, rfl, rfl, Frm.refl _ _, by unfold chks; rw [if_neg h]; rfl⟩ ?_
  rintro m t2 i ys H' ⟨j, hj, rfl, rfl, fr, hc⟩
  refine cond_of (fun h => ?_) fun h => ?_
  · simp only [decide_eq_true_eq] at h
    have hj' : j < l.length := by omega
    refine ⟨by unfold inB; omega, ?_⟩
    have hr' := hr.frm fr
    obtain ⟨b, rfl, hb, hg⟩ := rows_row hr' hj'
    rw [asRow_some]
    refine ⟨_, _, _, _, _, by rw [Int.toNat_natCast]; exact hg, ?_⟩
    refine one_ok (d := l.getD j dc0) hr' (by omega) fun H17 fr17 => ⟨_, rfl, ?_⟩
    have fr' := fr.trans fr17 (by simp)
    rw [drop_getD l j hj'] at hc
    refine cond_of (fun h1 => ?_) fun h1 => ⟨l.length - (j + 1), by omega, j + 1, by omega, rfl, ?_, fr', ?_⟩
    · simp only [List.getD_cons_succ, List.getD_cons_zero, asInt_int]
      have := hR _ fr'
      rw [hc] at this
      unfold firstBad at this
      rw [if_pos (by simpa using h1)] at this
      exact this
    · rw [wrap_i64 (by omega)]; omega
    · rw [hc]
      show (if chk l (l.getD j dc0) ≠ 0 then chk l (l.getD j dc0) else firstBad l (l.drop (j + 1))) = _
      rw [if_neg (by simpa using h1)]
  · simp only [decide_eq_false_iff_not] at h
    obtain rfl : j = l.length := by omega
    rw [List.drop_length] at hc
    simp only [List.getD_cons_succ, List.getD_cons_zero, asInt_int]
    have := hR _ fr
    rw [hc] at this
    exact this

theorem flat_length : ∀ l : List Dc, (flat l).length = l.length * 5
  | [] => rfl
  | d :: l => by
    have e : flat (d :: l) = d.cells ++ flat l := rfl
    rw [e, List.length_append, flat_length l]; simp only [List.length_cons, List.length_nil]; omega

theorem takeAt_all (c : List Value) : takeAt c 0 c.length = some c := by
  simp [takeAt]

theorem flat_snoc (l : List Dc) (j : Nat) (h : j < l.length) : flat (l.take (j + 1)) = flat (l.take j) ++ (l.getD j dc0).cells := by
  rw [List.take_succ_eq_append_getElem h]
  unfold flat
  rw [List.map_append, List.flatten_append]
  simp only [List.map_cons, List.map_nil, List.flatten_cons, List.flatten_nil, List.append_nil]
  rw [List.getD_eq_getElem?_getD, List.getElem?_eq_getElem h, Option.getD_some]

theorem CopyDecls_ok {a : Option Addr} {n : Nat} {l : List Dc} (hr : Rows H a n l) (hl : l.length ≤ 100) (hR : ∀ H' a', Frm [] H H' → Rows H' a' n l → R (.slice a' n 0) H') : CA en F.crossbarkit_CopyDecls [.slice a n 0] H R := by
  obtain rfl := hr.1
  apply vc_crossbarkit_CopyDecls
  refine use_crossbarkit_CopyDecls_0 (fun m b k i H' => ∃ j : Nat, j ≤ l.length ∧ m = l.length - j ∧ i = (j : Int) ∧ k = j ∧ Frm [] H H' ∧ ((j = 0 ∧ b = none) ∨ ∃ q, b = some ⟨q, 0, none⟩ ∧ H.next ≤ q ∧ q < H'.next ∧ H'.get q = some (.cells true 5 (flat (l.take j))))) l.length ⟨0, by omega, rfl, rfl, rfl, Frm.refl _ _, .inl ⟨rfl, rfl⟩⟩ ?_
  rintro m b k i ys H' ⟨j, hj, rfl, rfl, rfl, fr, hq⟩
  refine cond_of (fun h => ?_) fun h => ?_
  · simp only [decide_eq_true_eq] at h
    have hj' : k < l.length := by omega
    refine ⟨by unfold inB; omega, ?_⟩
    have hr' := hr.frm fr
    obtain ⟨b', rfl, hb, hg⟩ := rows_row hr' hj'
    rw [asRow_some]
    refine ⟨_, _, _, _, _, by rw [Int.toNat_natCast]; exact hg, ?_⟩
    refine nwH_in fun i8 H9 e8 e9 => ?_
    have g9 : H9.get i8 = some (.cells true 5 (l.getD k dc0).cells) := by subst e8 e9; exact get_new_self _ _
    have fr9 : Frm [] H H9 := by subst e8 e9; exact fr.new _
    refine ⟨(l.getD k dc0).cells, by simp only [rowOf, firstCellsA, g9]; rfl, ?_⟩
    rcases hq with ⟨rfl, rfl⟩ | ⟨q, rfl, h1, h2, h3⟩
    · refine apd_first (by decide) (by decide) fun q H13 eq e13 => ⟨l.length - 1, by omega, 1, by omega, rfl, by rw [wrap_i64 (by omega)]; rfl, rfl, ?_, .inr ⟨q, rfl, ?_, ?_, ?_⟩⟩
      · subst e13; exact fr9.new _
      · have := fr9.1; omega
      · subst eq e13; rw [next_new]; omega
      · subst eq e13; rw [get_new_self, flat_snoc l 0 hj']; rfl
    · have g3 : H9.get q = some (.cells true 5 (flat (l.take k))) := by subst e8 e9; rw [get_new_lt h2]; exact h3
      have hlen : (flat (l.take k)).length = k * 5 := by rw [flat_length, List.length_take]; omega
      refine apd_grow g3 (by decide) (by rw [hlen]; omega) (by rw [← hlen]; exact takeAt_all _) (by omega) fun p H13 ep e13 => ⟨l.length - (k + 1), by omega, k + 1, by omega, rfl, by rw [wrap_i64 (by omega)]; omega, rfl, ?_, .inr ⟨p, rfl, ?_, ?_, ?_⟩⟩
      · subst e13; exact (fr9.set _ (by right; omega)).new _
      · have := fr9.1; omega
      · subst ep e13; rw [next_new, next_set]; omega
      · subst ep e13
        rw [get_new, next_set, if_pos rfl, flat_snoc l k hj']
  · simp only [decide_eq_false_iff_not] at h
    obtain rfl : k = l.length := by omega
    simp only [List.getD_cons_succ, List.getD_cons_zero, asSl_slice]
    refine hR _ _ fr ⟨rfl, ?_⟩
    rcases hq with ⟨h1, rfl⟩ | ⟨q, rfl, h1, h2, h3⟩
    · left; exact List.length_eq_zero_iff.1 h1
    · rw [List.take_length] at h3
      exact .inr ⟨q, _, _, rfl, h2, h3⟩

theorem SameDecls_ok {a a' : Option Addr} {n : Nat} {l : List Dc} (hr : Rows H a n l) (hr' : Rows H a' n l) (hl : l.length ≤ 100) (hR : ∀ H', Frm [] H H' → R (.bool true) H') : CA en F.crossbarkit_SameDecls [.slice a n 0, .slice a' n 0] H R := by
  obtain rfl := hr.1
  apply vc_crossbarkit_SameDecls
  refine cond_no (by simp) ?_
  refine use_crossbarkit_SameDecls_0 (fun m _ i H' => ∃ j : Nat, j ≤ l.length ∧ m = l.length - j ∧ i = (j : Int) ∧ Frm [] H H') l.length ⟨0, by omega, rfl, rfl, Frm.refl _ _⟩ ?_
  rintro m t4 i ys H' ⟨j, hj, rfl, rfl, fr⟩
  refine cond_of (fun h => ?_) fun h => ?_
  · simp only [decide_eq_true_eq] at h
    have hj' : j < l.length := by omega
    have hi : inB (j : Int) l.length := by unfold inB; omega
    refine ⟨hi, ?_⟩
    obtain ⟨b1, rfl, hb1, hg1⟩ := rows_row (hr.frm fr) hj'
    obtain ⟨b2, rfl, hb2, hg2⟩ := rows_row (hr'.frm fr) hj'
    rw [asRow_some]
    refine ⟨_, _, _, _, _, by rw [Int.toNat_natCast]; exact hg1, hi, ?_⟩
    rw [asRow_some]
    refine ⟨_, _, _, _, _, by rw [Int.toNat_natCast]; exact hg2, ?_, trivial⟩
    refine cond_no (by simp) ⟨l.length - (j + 1), by omega, j + 1, by omega, rfl, by rw [wrap_i64 (by omega)]; omega, fr.bump _⟩
  · simp only [List.getD_cons_succ, List.getD_cons_zero, asBool_bool]
    exact hR _ fr

theorem DeclChecks_fr {a : Option Addr} {n : Nat} {l : List Dc} (hr : Rows H a n l) : CA en F.crossbarlaw07_DeclChecks [.slice a n 0] H fun r H' => r = .bool true ∧ Frm [] H H' := by
  obtain rfl := hr.1
  apply vc_crossbarlaw07_DeclChecks
  refine cond_of (fun h => ?_) fun h => ?_
  · exact CA_truth (by kernel_rfl) ⟨_, rfl, rfl, Frm.refl _ _⟩
  simp only [decide_eq_false_iff_not] at h
  refine CopyDecls_ok hr (by omega) fun H5 a' fr5 hr5 => ⟨_, _, rfl, ?_⟩
  refine Check_ok hr5 fun H9 fr9 => ⟨_, rfl, ?_⟩
  have f9 := fr5.trans fr9 (by simp)
  refine RCheck_ok (hr.frm f9) fun H12 fr12 => ⟨_, rfl, cond_yes (by simp) ?_⟩
  have f12 := f9.trans fr12 (by simp)
  refine SameDecls_ok ((hr5.frm fr9).frm fr12) (hr.frm f12) (by omega) fun H15 fr15 => ⟨_, rfl, ?_⟩
  exact CA_truth (by kernel_rfl) ⟨_, rfl, rfl, f12.trans fr15 (by simp)⟩

theorem DeclChecks_ok {a : Option Addr} {n : Nat} {l : List Dc} (hr : Rows H a n l) : CA en F.crossbarlaw07_DeclChecks [.slice a n 0] H fun r _ => r = .bool true :=
  CA_conseq (fun _ _ h => h.1) (DeclChecks_fr hr)

theorem rows_of : ∀ (cs : List (List Value)), (∀ c ∈ cs, ∃ d : Dc, c = d.cells) → ∃ l : List Dc, cs.flatten = flat l ∧ cs.length = l.length
  | [], _ => ⟨[], rfl, rfl⟩
  | c :: cs, h => by
    obtain ⟨d, rfl⟩ := h c (by simp)
    obtain ⟨l, e1, e2⟩ := rows_of cs fun c hc => h c (List.mem_cons_of_mem _ hc)
    refine ⟨d :: l, ?_, by simp [e2]⟩
    rw [List.flatten_cons, e1]; rfl

theorem DeclChecks_law (H : Heap) (us : List Value) (h : shpVs en H 7 T.DeclChecks us) : CA en F.crossbarlaw07_DeclChecks us H fun v _ => v = .bool true := by
  obtain ⟨v, u, rfl, hA, rfl⟩ := args_DeclChecks h
  clear h
  rcases hA with hA | ⟨i, cs, hA, hi, hg, hc⟩
  · obtain rfl := (List.cons.inj hA).1
    exact DeclChecks_ok (l := []) ⟨rfl, .inl rfl⟩
  · obtain rfl := (List.cons.inj hA).1
    obtain ⟨l, e1, e2⟩ := rows_of cs fun c hm => by
      obtain ⟨ap1, bp1, rfl, ⟨np1, rfl, wp1⟩, ap2, bp2, rfl, ⟨np2, rfl, wp2⟩, ap3, bp3, rfl, ⟨np3, rfl, wp3⟩, ap4, bp4, rfl, ⟨np4, rfl, wp4⟩, ap5, bp5, rfl, ⟨np5, rfl, wp5⟩, rfl⟩ := hc c hm
      exact ⟨⟨np1, np2, np3, np4, np5⟩, rfl⟩
    rw [e2]
    exact DeclChecks_ok (l := l) ⟨rfl, .inr ⟨i, false, 0, rfl, hi, by rw [hg, e1]⟩⟩
end Go.Proofs.Ytlkmdcncpdadbaa

/-
  Blooms: what their functions do, in a memory of one region.
-/
namespace Go.Proofs.Ytlkmdcncpdadbaa
open Go Go.AS Go.RowKit
set_option linter.unusedVariables false
variable {H H' : Heap} {m : Nat} {S S' : Sm} {R : Value → Heap → Prop} {L : List Asr} {ws : List (BitVec 64)} {c : Int} {A B : Asr}

/-- A block whose number was given ahead. -/
theorem Sep.pre {i : Nat} (o : AS.Obj) (h : Sep H L) (hi : i < H.next) (hn : i ∉ feet L) : Sep (H.set i o) (bx i o :: L) := by
  refine ⟨fun A hA => ?_, ?_, fun j hj => ?_⟩
  · rcases List.mem_cons.1 hA with rfl | hA
    · exact get_set_self _ _ _
    · refine A.loc (fun j hj => ?_) (h.all A hA)
      have : j ∈ feet L := List.mem_flatMap.2 ⟨A, hA, hj⟩
      exact get_set_ne fun e => hn (e ▸ this)
  · rw [feet_cons]
    refine List.nodup_append.2 ⟨by simp [bx], h.nd, fun a ha b hb e => ?_⟩
    simp only [bx, List.mem_singleton] at ha
    exact hn (ha ▸ e ▸ hb)
  · rw [feet_cons] at hj
    rcases List.mem_append.1 hj with h1 | h1
    · simp only [bx, List.mem_singleton] at h1
      rw [h1]; exact hi
    · exact h.lt j h1

/-- Two of them. -/
theorem Sep.pre2 (h : Sep H L) {n a b : Nat} (o1 o2 : AS.Obj) (ha : a < n) (hb : b < n) (hab : b ≠ a) : Sep (((H.bump n).set (H.next + a) o1).set (H.next + b) o2) (bx (H.next + b) o2 :: bx (H.next + a) o1 :: L) := by
  have h1 : Sep ((H.bump n).set (H.next + a) o1) (bx (H.next + a) o1 :: L) := Sep.pre o1 (h.bump n) (by rw [next_bump]; omega) fun hc => by have := h.lt _ hc; omega
  refine Sep.pre o2 h1 (by rw [next_set, next_bump]; omega) fun hc => ?_
  rw [feet_cons] at hc
  rcases List.mem_append.1 hc with h2 | h2
  · simp only [bx, List.mem_singleton] at h2; omega
  · have := h.lt _ h2; omega

/-- A map. -/
abbrev bm (m x : Nat) (d : Dc) (hd : Int) : Asr := bx x (.cells true 0 [P m, I d.kind, I d.entries, I d.words, I d.buckets, I d.inner, I hd])

theorem chk8 {d : Dc} (h : chks [d] = 0) (hk : d.kind = 8) : pow d.buckets := by
  have e : chks [d] = chk [d] d := by
    show (if (1 : Int) > 10 then (19 : Int) else if chk [d] d ≠ 0 then chk [d] d else 0) = _
    rw [if_neg (by omega)]; split <;> omega
  rw [e] at h
  refine Classical.byContradiction fun hp => ?_
  unfold chk at h
  rw [if_neg (by rw [hk]; decide)] at h
  by_cases h2 : d.entries < 1 ∨ d.entries > 64 ∨ d.words < 1 ∨ d.words > (kindD d.kind).words
  · rw [if_pos h2] at h; cases h
  · rw [if_neg h2, if_pos (.inl ⟨by rw [hk]; rfl, hp⟩)] at h; cases h

theorem asFnNil_func {f : Fn} {fs cs : Array Value} {K : Bool → Prop} (h : K false) : asFnNil (.func f fs cs) K := h
theorem asFnNil_nil {K : Bool → Prop} (h : K true) : asFnNil .nilFunc K := h

theorem pow_bd {n : Int} (h : pow n) : 1 ≤ n ∧ n ≤ 32 := by unfold pow at h; omega

theorem bnew_s {mp : Nat} {room : Int} {d : Dc} {g : Option Addr} {t : Int} (h : Sep H (mem m (newSm mp room) :: L))
    (hR1 : chks [d] ≠ 0 ∨ d.kind ≠ 8 → ∀ H', Sep H' (mem m (newSm mp room) :: L) → R (.tuple #[.pointer none, I 1]) H')
    (hR2 : chks [d] = 0 → d.kind = 8 → clampRoom room < d.buckets → ∀ H', Sep H' (mem m (newSm mp room) :: L) → R (.tuple #[.pointer none, I 5]) H')
    (hR3 : chks [d] = 0 → d.kind = 8 → d.buckets ≤ clampRoom room → ∀ H' x S', One S' (List.replicate d.buckets.toNat 0) 0 → Sep H' (bm m x d 1 :: mem m S' :: L) → R (.tuple #[P x, I 0]) H') :
    CA en F.bloom_New [P m, .pointer g, d.val, I t] H R := by
  apply vc_bloom_New
  refine Sep.nw h fun i1 H2 h2 => ⟨_, _, _, _, _, Sep.lds0 h2 rfl, Sep.nw h2 fun i8 H9 h9 => ?_⟩
  refine Check_ok (l := [d]) ⟨rfl, .inr ⟨i8, true, 5, rfl, h9.footlt (by simp [bx]), Sep.get0 h9⟩⟩ fun H11 fr => ⟨_, rfl, ?_⟩
  have h11 := (h9.keep fr).tail
  refine cond_of (fun hc => ?_) fun hc => ?_
  · exact hR1 (.inl (by simpa using hc)) H11 h11.tail
  have hc : chks [d] = 0 := by simpa using hc
  refine ⟨_, Sep.ld0 h11 rfl, cond_of (fun hk => ?_) fun hk => ?_⟩
  · exact hR1 (.inr (by simpa using hk)) H11 h11.tail
  have hk : d.kind = 8 := by simpa using hk
  have hp := pow_bd (chk8 hc hk)
  refine ⟨_, Sep.ld0 h11 rfl, make_s (Sep.up1 h11) (fun _ _ _ => rfl) fun H16 b h16 => ⟨_, _, rfl, ?_⟩⟩
  by_cases hr : d.buckets ≤ clampRoom room
  · have hr' : d.buckets ≤ room := by rw [clampRoom_eq] at hr; omega
    obtain ⟨e1, o⟩ := One.first (mp := mp) (b := b) (room := room) hp.1 (by omega) hr'
    rw [e1]
    refine cond_no rfl ⟨_, _, _, _, _, Sep.lds0 (Sep.up1 h16) rfl, Sep.nw h16 fun i24 H25 h25 => ?_⟩
    exact hR3 hc hk hr H25 i24 _ o (Sep.rm2 h25)
  · have e : (newSm mp room).make b d.buckets = ((0, 5), newSm mp room) := by
      unfold Sm.make
      rw [if_neg (by omega), if_pos (by show clampRoom room < _; omega)]
    rw [e] at h16 ⊢
    exact cond_yes rfl (hR2 hc hk (by omega) H16 (Sep.rm1 h16))

theorem bmade_s (h : Sep H L) {n : Int} (hn : pow n) (hR : ∀ H' m x S, One S (List.replicate n.toNat 0) 0 → Sep H' (bm m x ⟨8, 1, 1, n, 0⟩ 1 :: mem m S :: L) → R (.tuple #[P m, P x]) H') : CA en F.crossbarlaw18_made [I n] H R := by
  apply vc_crossbarlaw18_made
  have hc : chks [⟨8, 1, 1, n, 0⟩] = 0 := by
    unfold pow at hn
    rcases hn with rfl | rfl | rfl | rfl | rfl | rfl <;> rfl
  refine new_s h fun H2 m mp h2 => ⟨_, rfl, cond_no rfl ?_⟩
  refine bnew_s (d := ⟨8, 1, 1, n, 0⟩) h2 (fun h => ?_) (fun _ _ hr => ?_) fun _ _ _ H' x S' o h' => ⟨_, _, rfl, cond_no rfl (hR H' m x S' o h')⟩
  · rcases h with h | h
    · exact (h hc).elim
    · exact (h rfl).elim
  · have := pow_bd hn
    rw [clampRoom_eq] at hr
    simp only at hr
    omega

theorem bbegin_s {x v n z : Nat} {w : Bool} {d : Dc} {k : BitVec 64} {kind key f3 f4 : Int} {cs : List Value} (h : Sep H (bm m x d 1 :: bx v (.cells w z (W k :: cs)) :: L)) (hb : d.buckets < 9223372036854775808)
    (hR : ∀ H' r c0 c1 c2, Sep H' (bx r (.cells true 0 [.func (.func (if kind = 6 then F.bloom_Map_Begin_1 else F.bloom_Map_Begin_2)) #[] #[P c0, P c1, P c2], I 0]) :: bx c0 (.cells true 0 [P x]) :: bx c1 (.cells true 0 [I (bkt k d.buckets)]) :: bx c2 (.cells true 0 [W (bitsOf k)]) :: bm m x d 1 :: bx v (.cells w z (W k :: cs)) :: L) → R (P r) H') :
    CA en F.bloom_Map_Begin [P x, .agg #[I kind, .int .u64 key, .slice (some ⟨v, 0, none⟩) (n + 1) 0, I f3, I f4]] H R := by
  apply vc_bloom_Map_Begin
  refine Sep.nw h fun i1 H2 h2 => Sep.nw h2 fun i3 H4 h4 => ?_
  have hT := Sep.pre2 h4 (n := 17) (a := 13) (b := 14) (.cells true 0 [I 0]) (.cells true 0 [W 0]) (by decide) (by decide) (by decide)
  refine ⟨_, _, Sep.ld2 hT rfl, by unfold inB; omega, asRow_in ⟨_, Sep.ld5 hT rfl, _, Sep.ld3 hT rfl, asAddr_in ⟨_, Sep.ld4 hT rfl, ?_⟩⟩⟩
  refine Bloom_ok hb ⟨_, _, rfl, ?_⟩
  refine Sep.st1 hT (Nat.le_of_ble_eq_true rfl) fun H18 h18 => Sep.st0 h18 (Nat.le_of_ble_eq_true rfl) fun H19 h19 => ⟨⟨_, Sep.ld2 h19 rfl, ?_⟩, ⟨⟨_, Sep.get0 hT, rfl⟩, ⟨_, Sep.get0 hT, rfl⟩, trivial⟩, ⟨⟨_, Sep.get1 hT, rfl⟩, ⟨_, Sep.get1 hT, rfl⟩, trivial⟩, trivial⟩
  -- c2 c1 op c0 bm v
  refine cond_of (fun hk => ?_) fun hk => ?_
  · refine Sep.nw h19 fun i25 H26 h26 => ?_
    have := hR H26 i25 i1 (H4.next + 13) (H4.next + 14)
    rw [if_pos (by simpa using hk)] at this
    -- r c2 c1 op c0 bm v
    exact this (Sep.up3 (Sep.up3 (Sep.up2 (Sep.up1 (Sep.rm3 h26)))))
  · refine Sep.nw h19 fun i25 H26 h26 => ?_
    have := hR H26 i25 i1 (H4.next + 13) (H4.next + 14)
    rw [if_neg (by simpa using hk)] at this
    exact this (Sep.up3 (Sep.up3 (Sep.up2 (Sep.up1 (Sep.rm3 h26)))))

theorem bkt_of {k : BitVec 64} {n : Int} (hn : 1 ≤ n) : 0 ≤ bkt k n ∧ bkt k n < n := by
  unfold bkt
  rw [if_neg (by omega)]
  exact ⟨Int.emod_nonneg _ (by omega), Int.emod_lt_of_pos _ (by omega)⟩

/-- Whether a word is found. -/
def has (ws : List (BitVec 64)) (k : BitVec 64) : Bool := decide (ws.getD (bkt k ws.length).toNat 0 &&& bitsOf k = bitsOf k)
def push (ws : List (BitVec 64)) (k : BitVec 64) : List (BitVec 64) := ws.set (bkt k ws.length).toNat (ws.getD (bkt k ws.length).toNat 0 ||| bitsOf k)
theorem push_len (ws : List (BitVec 64)) (k : BitVec 64) : (push ws k).length = ws.length := List.length_set ..

theorem and_wrap (a b : BitVec 64) : IntKind.u64.wrap (((BitVec.ofInt 64 (a.toNat : Int) &&& BitVec.ofInt 64 (b.toNat : Int)).toNat : Nat) : Int) = (((a &&& b).toNat : Nat) : Int) := by
  rw [BitVec.ofInt_natCast, BitVec.ofInt_natCast, BitVec.ofNat_toNat, BitVec.ofNat_toNat, BitVec.setWidth_eq, BitVec.setWidth_eq]
  exact u64_self (by omega) (by have := (a &&& b).isLt; omega)

variable {x r c0 c1 c2 : Nat} {k : BitVec 64} {d : Dc}

abbrev bld (r c0 c1 c2 f : Nat) : Asr := bx r (.cells true 0 [.func (.func f) #[] #[P c0, P c1, P c2], I 0])
abbrev bdn (r : Nat) (e : Int) : Asr := bx r (.cells true 0 [.nilFunc, I e])

theorem bpush_s (h : Sep H (bld r c0 c1 c2 F.bloom_Map_Begin_1 :: bx c0 (.cells true 0 [P x]) :: bx c1 (.cells true 0 [I (bkt k d.buckets)]) :: bx c2 (.cells true 0 [W (bitsOf k)]) :: bm m x d 1 :: mem m S :: L))
    (o : One S ws c) (hc : c < 4611686018427387904) (hb : d.buckets = ws.length) (h1 : 1 ≤ ws.length)
    (hR : ∀ H' S', One S' (push ws k) (c + 1) → Sep H' (bdn r 0 :: bx c0 (.cells true 0 [P x]) :: bx c1 (.cells true 0 [I (bkt k d.buckets)]) :: bx c2 (.cells true 0 [W (bitsOf k)]) :: bm m x d 1 :: mem m S' :: L) → R (.tuple #[.bool true, .bool true]) H') :
    CA en F.bloom_Run_Step [P r] H R := by
  apply vc_bloom_Run_Step
  refine asAddr_in ⟨_, Sep.ld0 h rfl, asFnNil_func ?_⟩
  refine cond_no rfl (asAddr_in ⟨_, Sep.ld0 h rfl, asFn_in ⟨Option.isSome_iff_exists.1 (by kernel_rfl), ?_⟩⟩)
  show CA en F.bloom_Map_Begin_1 [P c0, P c1, P c2] H _
  apply vc_bloom_Map_Begin_1
  have hB := h.bump 12
  have hk := bkt_of (k := k) (n := d.buckets) (by omega)
  obtain ⟨i, hi⟩ := Int.eq_ofNat_of_zero_le hk.1
  have hin : (bkt k ws.length).toNat = i := by rw [← hb, hi]; rfl
  refine asAddr_in ⟨_, Sep.ld1 hB rfl, asAddr_in ⟨_, Sep.ld4 hB rfl, asAddr_in ⟨_, Sep.ld1 hB rfl, asAddr_in ⟨_, Sep.ld4 hB rfl, asAddr_in ⟨_, Sep.ld2 hB rfl, asAddr_in ⟨_, Sep.ld3 hB rfl, asAddr_in ⟨_, Sep.ld3 hB rfl, ?_⟩⟩⟩⟩⟩⟩⟩
  rw [hi]
  refine or1_s (Sep.up5 hB) o hc (by omega) fun H' S' o' h' => ⟨_, _, rfl, ⟨⟨_, rfl, ?_⟩, trivial⟩⟩
  have h' := Sep.up1 h'
  refine asAddr_in (Sep.st0 h' (Nat.le_of_ble_eq_true rfl) fun H2 h2 => asAddr_in (Sep.st0 h2 (Nat.le_of_ble_eq_true rfl) fun H3 h3 => ?_))
  refine hR H3 S' ?_ ?_
  · unfold push; rw [hin]; exact o'
  · -- r mem c0 c1 c2 bm
    exact Sep.up4 (Sep.up5 (Sep.up5 (Sep.up5 (Sep.up5 h3))))

theorem bpeek_s (h : Sep H (bld r c0 c1 c2 F.bloom_Map_Begin_2 :: bx c0 (.cells true 0 [P x]) :: bx c1 (.cells true 0 [I (bkt k d.buckets)]) :: bx c2 (.cells true 0 [W (bitsOf k)]) :: bm m x d 1 :: mem m S :: L))
    (o : One S ws c) (hc : c < 4611686018427387904) (hb : d.buckets = ws.length) (h1 : 1 ≤ ws.length)
    (hR : ∀ H' S', One S' ws (c + 1) → Sep H' (bdn r (if has ws k then 0 else 2) :: bx c0 (.cells true 0 [P x]) :: bx c1 (.cells true 0 [I (bkt k d.buckets)]) :: bx c2 (.cells true 0 [W (bitsOf k)]) :: bm m x d 1 :: mem m S' :: L) → R (.tuple #[.bool true, .bool true]) H') :
    CA en F.bloom_Run_Step [P r] H R := by
  apply vc_bloom_Run_Step
  refine asAddr_in ⟨_, Sep.ld0 h rfl, asFnNil_func ?_⟩
  refine cond_no rfl (asAddr_in ⟨_, Sep.ld0 h rfl, asFn_in ⟨Option.isSome_iff_exists.1 (by kernel_rfl), ?_⟩⟩)
  show CA en F.bloom_Map_Begin_2 [P c0, P c1, P c2] H _
  apply vc_bloom_Map_Begin_2
  have hB := h.bump 15
  have hk := bkt_of (k := k) (n := d.buckets) (by omega)
  obtain ⟨i, hi⟩ := Int.eq_ofNat_of_zero_le hk.1
  have hin : (bkt k ws.length).toNat = i := by rw [← hb, hi]; rfl
  refine asAddr_in ⟨_, Sep.ld1 hB rfl, asAddr_in ⟨_, Sep.ld4 hB rfl, asAddr_in ⟨_, Sep.ld1 hB rfl, asAddr_in ⟨_, Sep.ld4 hB rfl, asAddr_in ⟨_, Sep.ld2 hB rfl, ?_⟩⟩⟩⟩⟩
  rw [hi]
  refine load1_s (Sep.up5 hB) o hc (by omega) fun H' S' o' h' => ⟨_, _, rfl, ⟨asAddr_in ⟨_, Sep.ld4 h' rfl, asAddr_in ⟨_, Sep.ld4 h' rfl, ?_⟩⟩, trivial⟩⟩
  rw [and_wrap, bv_bne]
  have hh : has ws k = decide (ws.getD i 0 &&& bitsOf k = bitsOf k) := by unfold has; rw [hin]
  have h' := Sep.up1 h'
  refine cond_of (fun hn => ⟨_, rfl, ?_⟩) fun hn => ⟨_, rfl, ?_⟩
  · refine asAddr_in (Sep.st0 h' (Nat.le_of_ble_eq_true rfl) fun H2 h2 => asAddr_in (Sep.st0 h2 (Nat.le_of_ble_eq_true rfl) fun H3 h3 => hR H3 S' o' ?_))
    have : has ws k = false := by rw [hh]; simpa using hn
    rw [this]
    exact Sep.up4 (Sep.up5 (Sep.up5 (Sep.up5 (Sep.up5 h3))))
  · refine asAddr_in (Sep.st0 h' (Nat.le_of_ble_eq_true rfl) fun H2 h2 => asAddr_in (Sep.st0 h2 (Nat.le_of_ble_eq_true rfl) fun H3 h3 => hR H3 S' o' ?_))
    have : has ws k = true := by rw [hh]; simpa using hn
    rw [this]
    exact Sep.up4 (Sep.up5 (Sep.up5 (Sep.up5 (Sep.up5 h3))))

theorem bagain_s {e : Int} (h : Sep H (bdn r e :: L)) (hR : R (.tuple #[.bool false, .bool true]) H) : CA en F.bloom_Run_Step [P r] H R := by
  apply vc_bloom_Run_Step
  exact asAddr_in ⟨_, Sep.ld0 h rfl, asFnNil_nil (cond_yes rfl hR)⟩

theorem bresult_s {e : Int} (h : Sep H (bdn r e :: L)) (hR : ∀ H', Sep H' (bdn r e :: L) → R (.agg #[I e, .slice none 0 0, .int .u64 0, I 0]) H') : CA en F.bloom_Run_Result [P r] H R := by
  apply vc_bloom_Run_Result
  refine Sep.nw h fun i H2 h2 => asAddr_in ⟨_, Sep.ld1 h2 rfl, Sep.st0 h2 (Nat.le_of_ble_eq_true rfl) fun H6 h6 => ⟨_, _, _, _, _, Sep.lds0 h6 rfl, hR H6 h6.tail⟩⟩

/-- What one operation leaves. -/
def done (kind : Int) (ws : List (BitVec 64)) (k : BitVec 64) : List (BitVec 64) := if kind = 6 then push ws k else ws
def gives (kind : Int) (ws : List (BitVec 64)) (k : BitVec 64) : Int := if kind = 6 then 0 else if has ws k then 0 else 2

theorem bstep_s {kind : Int} (h : Sep H (bld r c0 c1 c2 (if kind = 6 then F.bloom_Map_Begin_1 else F.bloom_Map_Begin_2) :: bx c0 (.cells true 0 [P x]) :: bx c1 (.cells true 0 [I (bkt k d.buckets)]) :: bx c2 (.cells true 0 [W (bitsOf k)]) :: bm m x d 1 :: mem m S :: L))
    (o : One S ws c) (hc : c < 4611686018427387904) (hb : d.buckets = ws.length) (h1 : 1 ≤ ws.length)
    (hR : ∀ H' S', One S' (done kind ws k) (c + 1) → Sep H' (bdn r (gives kind ws k) :: bx c0 (.cells true 0 [P x]) :: bx c1 (.cells true 0 [I (bkt k d.buckets)]) :: bx c2 (.cells true 0 [W (bitsOf k)]) :: bm m x d 1 :: mem m S' :: L) → R (.tuple #[.bool true, .bool true]) H') :
    CA en F.bloom_Run_Step [P r] H R := by
  unfold done gives at hR
  by_cases hk : kind = 6
  · rw [if_pos hk] at h
    simp only [if_pos hk] at hR
    exact bpush_s h o hc hb h1 hR
  · rw [if_neg hk] at h
    simp only [if_neg hk] at hR
    exact bpeek_s h o hc hb h1 hR

theorem once_s {kind : Int} (h : Sep H (bm m x d 1 :: mem m S :: L)) (o : One S ws c) (hc : c < 4611686018427387000) (hb : d.buckets = ws.length) (h1 : 1 ≤ ws.length ∧ ws.length ≤ 32)
    (hR : ∀ H' S', One S' (done kind ws k) (c + 1) → Sep H' (bm m x d 1 :: mem m S' :: L) → R (.tuple #[I (gives kind ws k), .bool true]) H') : CA en F.crossbarlaw18_once [P m, P x, I kind, W k] H R := by
  apply vc_crossbarlaw18_once
  refine count_s (Sep.up1 h) ⟨_, rfl, Sep.nw h fun i4 H5 h5 => ?_⟩
  rw [o.cnt]
  have c0 := o.c0
  have ecw : IntKind.i64.wrap (c + 1) = c + 1 := wrap_i64 (by omega)
  refine bbegin_s (n := 0) (Sep.up1 h5) (by omega) fun H7 r c0 c1 c2 h7 => ⟨_, rfl, cond_no rfl (count_s (Sep.up6 h7) ⟨_, rfl, cond_no (by rw [o.cnt]; simp) ?_⟩)⟩
  refine bstep_s (Sep.rm5 h7) o (by omega) hb h1.1 fun H13 S' o' h13 => ⟨_, _, rfl, bagain_s h13 ⟨_, _, rfl, bresult_s h13 fun H21 h21 => ⟨_, _, _, _, _, rfl, ?_⟩⟩⟩
  refine Sep.nw h21 fun i27 H28 h28 => Sep.st0 h28 (Nat.le_of_ble_eq_true rfl) fun H29 h29 => ?_
  have hB := h29.bump 38
  refine ⟨_, Sep.ld0 hB rfl, cond_yes rfl (cond_yes rfl (cond_yes rfl (cond_yes rfl (count_s (Sep.up6 hB) ⟨_, rfl, cond_yes (by rw [o'.cnt, ecw]; simp) ⟨_, _, Sep.ld0 hB rfl, cond_yes rfl ⟨_, Sep.ld0 hB rfl, cond_yes rfl ⟨_, Sep.ld0 hB rfl, ⟨?_, ⟨rfl, rfl, trivial⟩, ⟨⟨_, Sep.ld0 hB rfl, rfl⟩, ⟨_, Sep.ld0 hB rfl, rfl⟩, trivial⟩, trivial⟩⟩⟩⟩⟩))))⟩
  exact hR _ S' o' (Sep.rm0 (Sep.rm0 (Sep.rm0 (Sep.rm0 (Sep.rm0 hB)))))
end Go.Proofs.Ytlkmdcncpdadbaa

/-
  Operations and results that are copied, compared and spoilt; lists of lists of operations, of the outset.
-/
namespace Go.Proofs.Ytlkmdcncpdadbaa
open Go Go.AS Go.RowKit
set_option linter.unusedVariables false
variable {H H' H0 : Heap} {R : Value → Heap → Prop} {L M : List Asr} {a b : Option Addr} {ws vs : List (BitVec 64)}

def RdW (L : List Asr) (a : Option Addr) (ws : List (BitVec 64)) : Prop :=
  ∀ H', Sep H' L → ∀ (j : Nat) w, ws[j]? = some w → ∃ i, a = some ⟨i, 0, none⟩ ∧ H'.cell i (0 + j * 1) = some (W w)
abbrev wds (ws : List (BitVec 64)) : List Value := ws.map W
theorem rdw_gl {q : Option Nat} (hm : gl 1 q (wds ws) ∈ L) (hq : q = none → ws = []) : RdW L (addr q) ws := by
  intro H' hs j x hx
  cases q with
  | none => rw [hq rfl] at hx; simp at hx
  | some q =>
    have hg : H'.get q = some (.cells true 1 (wds ws)) := (hs.all _ hm) (bx q (.cells true 1 (wds ws))) (by simp)
    exact ⟨q, rfl, by rw [cell_of hg, Nat.zero_add, Nat.mul_one, List.getElem?_map, hx]; rfl⟩
theorem rdw_old {n : Nat} (o : OldS H0 a n (ws.map fun w => [W w])) (hm : old H0 ∈ L) : RdW L a ws := by
  intro H' hs j x hx
  exact o.cell0 hs hm (wmap_len ws) (by rw [List.getElem?_map, hx]; rfl) rfl
theorem RdW.tail' {A : Asr} (h : RdW L a ws) : RdW (A :: L) a ws := fun H' hs => h H' hs.tail

theorem CopyWords_s {n : Nat} (h : Sep H L) (ra : RdW L a ws) (hn' : n = ws.length) (hn : ws.length < 1000000000) (hR : ∀ H' q, (q = none → ws = []) → Sep H' (gl 1 q (wds ws) :: L) → R (.slice (addr q) ws.length 0) H') : CA en F.crossbarkit_CopyWords [.slice a n 0] H R := by
  subst hn'
  apply vc_crossbarkit_CopyWords
  refine use_crossbarkit_CopyWords_0 (fun k t3 t3l t4 H => ∃ (j : Nat) (q : Option Nat), j ≤ ws.length ∧ k = ws.length - j ∧ t4 = (j : Int) ∧ t3 = addr q ∧ t3l = j ∧ (q = none → j = 0) ∧ Sep H (gl 1 q (wds (ws.take j)) :: L)) ws.length ⟨0, none, by omega, rfl, rfl, rfl, rfl, fun _ => rfl, gl_none.2 h⟩ ?_
  clear h
  rintro k t3 t3l t4 ys H3 ⟨j, q, hj, rfl, rfl, rfl, rfl, hq, hs⟩
  refine cond_of (fun h1 => ?_) fun h1 => ?_
  · have hj' : t3l < ws.length := by simp only [decide_eq_true_eq] at h1; omega
    obtain ⟨x, hx⟩ : ∃ x, ws[t3l]? = some x := ⟨_, List.getElem?_eq_getElem hj'⟩
    obtain ⟨i, rfl, e1⟩ := ra _ hs.tail t3l x hx
    refine ⟨by unfold inB; omega, asRow_in ⟨_, e1, Sep.nw hs fun i4 H5 h5 => ⟨[W x], rowOf_bx (es := 1) (n := 1) (b := i4) (Sep.get0 h5) (by decide) rfl, ?_⟩⟩⟩
    refine apd_gl (b := q) (len := t3l) (n := 1) (cs := wds (ws.take t3l)) (new := [W x]) (Sep.up1 h5) (fun h => by rw [hq h]; rfl) (by decide) (by rw [List.length_map, List.length_take]; omega) (by decide) rfl (by omega) fun H' q' h' => ⟨ws.length - (t3l + 1), by omega, t3l + 1, some q', by omega, rfl, by rw [wrap_i64 (by omega)]; omega, rfl, rfl, (fun h => by cases h), ?_⟩
    rw [List.take_add_one, hx]
    have e : wds (ws.take t3l ++ (some x).toList) = wds (ws.take t3l) ++ [W x] := by simp
    rw [e]
    exact Sep.rm1 h'
  · have e : t3l = ws.length := by simp only [decide_eq_false_iff_not] at h1; omega
    subst e
    rw [List.take_length] at hs
    exact asSl_in (hR H3 q (fun h => List.eq_nil_of_length_eq_zero (hq h)) hs)

theorem SpoilWords_s {q : Option Nat} {n : Nat} (hn' : n = ws.length) (hl : ws.length < 100000) (n1 : q = none → ws = []) (hs : Sep H (gl 1 q (wds ws) :: L)) (hR : ∀ H', Sep H' L → R undef H') : CA en F.crossbarkit_SpoilWords [.slice (addr q) n 0] H R := by
  subst hn'
  apply vc_crossbarkit_SpoilWords
  refine use_crossbarkit_SpoilWords_0 (fun k t2 H => ∃ (j : Nat) (c : List Value), c.length = ws.length ∧ j ≤ ws.length ∧ k = ws.length - j ∧ t2 = (j : Int) ∧ Sep H (gl 1 q c :: L)) ws.length ⟨0, wds ws, by simp, by omega, rfl, rfl, hs⟩ ?_
  clear hs
  rintro k t2 ys H3 ⟨j, c, hl', hj, rfl, rfl, hs⟩
  refine cond_of (fun h1 => ?_) fun h1 => hR H3 hs.tail
  have hj' : j < ws.length := by simp only [decide_eq_true_eq] at h1; omega
  apply vc_crossbarkit_markWords
  refine ⟨_, rfl, by unfold inB; omega, ?_⟩
  cases q with
  | none => rw [n1 rfl] at hj'; simp at hj'
  | some q =>
    refine asRow_in (Sep.st0 (gl_some.1 hs) (by rw [Int.toNat_natCast]; simp only [List.length_cons, List.length_nil]; omega) fun H6 h6 => ⟨ws.length - (j + 1), by omega, j + 1, _, ?_, by omega, rfl, by rw [wrap_i64 (by omega)]; omega, gl_some.2 h6⟩)
    rw [setAt_length]; exact hl'

theorem SameWords_s {n k : Nat} (h : Sep H L) (ra : RdW L a ws) (rb : RdW L b ws) (hn' : n = ws.length) (hk' : k = ws.length) (hn : ws.length < 1000000000) (hR : ∀ H', Sep H' L → R (.bool true) H') : CA en F.crossbarkit_SameWords [.slice a n 0, .slice b k 0] H R := by
  subst hn' hk'
  apply vc_crossbarkit_SameWords
  refine cond_no (by simp) ?_
  refine use_crossbarkit_SameWords_0 (fun k _ t5 H => ∃ j : Nat, j ≤ ws.length ∧ k = ws.length - j ∧ t5 = (j : Int) ∧ Sep H L) ws.length ⟨0, by omega, rfl, rfl, h⟩ ?_
  clear h
  rintro k t4 t5 ys H3 ⟨j, hj, rfl, rfl, hs⟩
  refine cond_of (fun h1 => ?_) fun h1 => asBool_in (hR H3 hs)
  have hj' : j < ws.length := by simp only [decide_eq_true_eq] at h1; omega
  obtain ⟨x, hx⟩ : ∃ x, ws[j]? = some x := ⟨_, List.getElem?_eq_getElem hj'⟩
  have hB := hs.bump 9
  obtain ⟨i, rfl, e1⟩ := ra _ hB j x hx
  obtain ⟨i', rfl, e2⟩ := rb _ hB j x hx
  exact ⟨by unfold inB; omega, asRow_in ⟨_, e1, by unfold inB; omega, asRow_in ⟨_, e2, ⟨cond_no (by simp) ⟨ws.length - (j + 1), by omega, j + 1, by omega, rfl, by rw [wrap_i64 (by omega)]; omega, hB⟩, trivial⟩⟩⟩⟩

/-! ### Operations, results -/
abbrev opV (kind key flag cpu : Int) (a : Option Addr) (n : Nat) : List Value := [I kind, .int .u64 key, .slice a n 0, I flag, I cpu]
abbrev resV (no : Int) (a : Option Addr) (n : Nat) (key elem : Int) : List Value := [I no, .slice a n 0, .int .u64 key, I elem]

theorem CopyOp_s {kind key flag cpu : Int} {n : Nat} (h : Sep H L) (ra : RdW L a ws) (hn' : n = ws.length) (hn : ws.length < 1000000000)
    (hR : ∀ H' q, (q = none → ws = []) → Sep H' (gl 1 q (wds ws) :: L) → R (.agg #[I kind, .int .u64 key, .slice (addr q) ws.length 0, I flag, I cpu]) H') : CA en F.crossbarkit_CopyOp [.agg #[I kind, .int .u64 key, .slice a n 0, I flag, I cpu]] H R := by
  apply vc_crossbarkit_CopyOp
  refine Sep.nw h fun i1 H2 h2 => Sep.nw h2 fun i3 H4 h4 => ⟨_, _, Sep.ld1 h4 rfl, ?_⟩
  refine CopyWords_s h4 ra.tail'.tail' hn' hn fun H8 q hq h8 => ⟨_, _, rfl, Sep.st2 h8 (Nat.le_of_ble_eq_true rfl) fun H11 h11 => ⟨_, _, _, _, _, _, Sep.lds2 h11 rfl, Sep.st1 h11 (Nat.le_of_ble_eq_true rfl) fun H18 h18 => ⟨_, _, _, _, _, _, Sep.lds1 h18 rfl, hR H18 q hq (Sep.rm1 (Sep.rm1 h18))⟩⟩⟩
theorem CopyRes_s {no key elem : Int} {n : Nat} (h : Sep H L) (ra : RdW L a ws) (hn' : n = ws.length) (hn : ws.length < 1000000000)
    (hR : ∀ H' q, (q = none → ws = []) → Sep H' (gl 1 q (wds ws) :: L) → R (.agg #[I no, .slice (addr q) ws.length 0, .int .u64 key, I elem]) H') : CA en F.crossbarkit_CopyRes [.agg #[I no, .slice a n 0, .int .u64 key, I elem]] H R := by
  apply vc_crossbarkit_CopyRes
  refine Sep.nw h fun i1 H2 h2 => Sep.nw h2 fun i3 H4 h4 => ⟨_, _, Sep.ld1 h4 rfl, ?_⟩
  refine CopyWords_s h4 ra.tail'.tail' hn' hn fun H8 q hq h8 => ⟨_, _, rfl, Sep.st2 h8 (Nat.le_of_ble_eq_true rfl) fun H11 h11 => ⟨_, _, _, _, _, Sep.lds2 h11 rfl, Sep.st1 h11 (Nat.le_of_ble_eq_true rfl) fun H18 h18 => ⟨_, _, _, _, _, Sep.lds1 h18 rfl, hR H18 q hq (Sep.rm1 (Sep.rm1 h18))⟩⟩⟩
theorem SameRes_s {no key elem : Int} {n k : Nat} (h : Sep H L) (ra : RdW L a ws) (rb : RdW L b ws) (hn' : n = ws.length) (hk' : k = ws.length) (hn : ws.length < 1000000000) (hR : ∀ H', Sep H' L → R (.bool true) H') :
    CA en F.crossbarkit_SameRes [.agg #[I no, .slice a n 0, .int .u64 key, I elem], .agg #[I no, .slice b k 0, .int .u64 key, I elem]] H R := by
  apply vc_crossbarkit_SameRes
  refine Sep.nw h fun i1 H2 h2 => Sep.nw h2 fun i3 H4 h4 => ⟨_, Sep.ld1 h4 rfl, _, Sep.ld0 h4 rfl, cond_yes (by simp) ⟨_, _, _, _, _, Sep.lds1 h4 rfl, _, _, _, _, _, Sep.lds0 h4 rfl, ?_⟩⟩
  apply vc_crossbarkit_LikeRes
  refine Sep.nw h4 fun j1 H5 h5 => Sep.nw h5 fun j3 H6 h6 => ⟨_, Sep.ld1 h6 rfl, _, Sep.ld0 h6 rfl, cond_yes (by simp) ⟨_, Sep.ld1 h6 rfl, _, Sep.ld0 h6 rfl, cond_yes (by simp) ⟨_, _, Sep.ld1 h6 rfl, _, _, Sep.ld0 h6 rfl, ?_⟩⟩⟩
  exact SameWords_s h6 ra.tail'.tail'.tail'.tail' rb.tail'.tail'.tail'.tail' hn' hk' hn fun H' h' => ⟨_, rfl, _, rfl, hR H' h'.tail.tail.tail.tail⟩

/-! ### Lists of lists -/
theorem pick_of {α β : Type} {P : α → β → Prop} : ∀ (css : List β), (∀ c ∈ css, ∃ o, P o c) → ∃ l : List α, l.length = css.length ∧ ∀ (j : Nat) o, l[j]? = some o → ∃ c, css[j]? = some c ∧ P o c
  | [], _ => ⟨[], rfl, by simp⟩
  | c :: css, h => by
    obtain ⟨o, ho⟩ := h c (by simp)
    obtain ⟨l, h1, h2⟩ := pick_of css fun c hc => h c (List.mem_cons_of_mem _ hc)
    refine ⟨o :: l, by simp [h1], fun j x hx => ?_⟩
    cases j with
    | zero => simp at hx; subst hx; exact ⟨c, rfl, ho⟩
    | succ j => exact h2 j x (by simpa using hx)

structure Op where
  kind : Int
  key : BitVec 64
  val : List (BitVec 64)
  flag : Int
  cpu : Int
def OpC (H0 : Heap) (o : Op) (c : List Value) : Prop := ∃ a n, c = opV o.kind o.key.toNat o.flag o.cpu a n ∧ OldS H0 a n (o.val.map fun w => [W w])
structure OpsL (H0 : Heap) (a : Option Addr) (n : Nat) (l : List Op) : Prop where
  len : n = l.length
  ex : ∃ css, OldS H0 a n css ∧ (∀ c ∈ css, c.length = 5) ∧ ∀ (j : Nat) o, l[j]? = some o → ∃ c, css[j]? = some c ∧ OpC H0 o c
def OpsC (H0 : Heap) (l : List Op) (c : List Value) : Prop := ∃ a n, c = [.slice a n 0] ∧ OpsL H0 a n l
structure OpsLL (H0 : Heap) (a : Option Addr) (n : Nat) (ll : List (List Op)) : Prop where
  len : n = ll.length
  ex : ∃ css, OldS H0 a n css ∧ (∀ c ∈ css, c.length = 1) ∧ ∀ (k : Nat) l, ll[k]? = some l → ∃ c, css[k]? = some c ∧ OpsC H0 l c

theorem OpsLL.at' {n : Nat} {ll : List (List Op)} (o : OpsLL H0 a n ll) (hs : Sep H L) (hm : old H0 ∈ L) {k : Nat} {l : List Op} (hk : ll[k]? = some l) :
    ∃ i a' n', a = some ⟨i, 0, none⟩ ∧ H.cell i (0 + k * 1) = some (.slice a' n' 0) ∧ OpsL H0 a' n' l := by
  obtain ⟨css, h1, h2, h3⟩ := o.ex
  obtain ⟨c, hc, a', n', rfl, h4⟩ := h3 k l hk
  obtain ⟨i, e, h5⟩ := h1.cell0 hs hm h2 hc rfl
  exact ⟨i, a', n', e, h5, h4⟩
theorem OpsL.at' {n : Nat} {l : List Op} (o : OpsL H0 a n l) (hs : Sep H L) (hm : old H0 ∈ L) {j : Nat} {x : Op} (hj : l[j]? = some x) :
    ∃ i a' n', a = some ⟨i, 0, none⟩ ∧ H.cellsAt i (0 + j * 5) 5 = some (opV x.kind x.key.toNat x.flag x.cpu a' n') ∧ n' = x.val.length ∧ RdW L a' x.val := by
  obtain ⟨css, h1, h2, h3⟩ := o.ex
  obtain ⟨c, hc, a', n', rfl, h4⟩ := h3 j x hj
  obtain ⟨i, e, h5, _⟩ := h1.row hs hm h2 hc
  exact ⟨i, a', n', e, h5, by rw [h4.len]; simp, rdw_old h4 hm⟩

def tot (ll : List (List Op)) : Nat := (ll.map List.length).sum
theorem tot_snoc (ll : List (List Op)) (l : List Op) : tot (ll ++ [l]) = tot ll + l.length := by simp [tot]
theorem len_le_tot : ∀ {ll : List (List Op)} {l : List Op}, l ∈ ll → l.length ≤ tot ll
  | l' :: ll, l, h => by
    have e : tot (l' :: ll) = l'.length + tot ll := by simp [tot]
    rcases List.mem_cons.1 h with rfl | h
    · omega
    · have := len_le_tot h; omega
theorem tot_take_le (ll : List (List Op)) (j : Nat) : tot (ll.take j) ≤ tot ll := by
  have e : tot ll = tot (ll.take j) + tot (ll.drop j) := by
    conv => lhs; rw [← List.take_append_drop j ll]
    unfold tot
    rw [List.map_append, List.sum_append]
  omega
end Go.Proofs.Ytlkmdcncpdadbaa

/-
  Operations that are fitted to a map; how many there are in lists.
-/
namespace Go.Proofs.Ytlkmdcncpdadbaa
open Go Go.AS Go.RowKit
set_option linter.unusedVariables false
variable {H H' H0 : Heap} {R : Value → Heap → Prop} {L M : List Asr} {a b : Option Addr} {ws vs : List (BitVec 64)}

theorem Sep.nwx {o : AS.Obj} {K : Nat → Heap → Prop} (h : Sep H L) (k : Sep (H.new o) (bx H.next o :: L) → K H.next (H.new o)) : nwH H o K := k (h.new o)

def kl (k : Int) : List Int := if k = 1 then [1, 2, 4] else if k = 2 then [1, 2, 4] else if k = 3 then [1, 2, 4] else if k = 4 then [1, 2, 3, 4, 5] else if k = 5 then [1, 2, 3, 4, 5] else if k = 6 then [6, 7, 8] else if k = 7 then [6, 7, 8] else if k = 8 then [6, 8] else [1, 2, 3, 4]
theorem kl_len (k : Int) : 1 ≤ (kl k).length ∧ (kl k).length ≤ 5 := by
  unfold kl
  repeat' split
  all_goals decide
theorem kinds_s {k : Int} (h : Sep H L) (hR : ∀ H' i, Sep H' (bx i (.cells true 1 ((kl k).map I)) :: L) → R (.slice (some ⟨i, 0, none⟩) (kl k).length 0) H') : CA en F.crossbarkit_kinds [I k] H R := by
  apply vc_crossbarkit_kinds
  unfold kl at hR
  have go : ∀ {n : Int} {A B : Prop}, (k = n → A) → (k ≠ n → B) → bif (k == n) then A else B := fun h1 h2 => cond_of (fun z => h1 (by simpa using z)) fun z => h2 (by simpa using z)
  refine go (fun z => ?_) fun z1 => go (fun z => ?_) fun z2 => go (fun z => ?_) fun z3 => go (fun z => ?_) fun z4 => go (fun z => ?_) fun z5 => go (fun z => ?_) fun z6 => go (fun z => ?_) fun z7 => go (fun z => ?_) fun z8 => ?_
  all_goals
    refine Sep.nw h fun i H2 h2 => ?_
    revert h2
    have := hR H2 i
    simp [*] at this
    exact this

def fitK (k ok : Int) : Int := (kl k).getD (ok % (kl k).length).toNat 0
def fitB (k kind : Int) : Bool := kind == 2 || kind == 6 || (kind == 8 && k == 8)
def fitV (k : Int) (w : Nat) (kind : Int) (val : List (BitVec 64)) : List (BitVec 64) := if fitB k kind then (List.range w).map fun i => val.getD i 0 else []
def fitF (k kind flag : Int) : Int := if kind = 2 then flag % 3 else if kind = 4 then flag % 2 else if kind = 6 then (if k ≠ 8 then 2 * (flag % 2) else 0) else 0
theorem sameI (a : Int) : sameN.sameL 8 [I a] [I a] = true := by simp [sameN, sameN.sameL]

theorem fit_loop {ob i1 i3 n : Nat} {q : Option Nat} (v : BitVec 64) {kk ks : Value} {fs : List Value} {K : Heap → Prop} (h : Sep H (gl 1 q (wds ws) :: bx ob (.cells true 0 (kk :: ks :: .slice (addr q) n 0 :: fs)) :: L)) (hn : n = ws.length) (hq : q = none → ws = []) (hl : ws.length < 100000)
    (k : ∀ H' q', Sep H' (gl 1 (some q') (wds (ws ++ [v])) :: bx ob (.cells true 0 (kk :: ks :: .slice (addr (some q')) (n + 1) 0 :: fs)) :: L) → K H') :
    ∃ a l, H.cell ob 2 = some (.slice a l 0) ∧ nwH H (.cells true 1 [W v]) fun i H2 => ∃ l15, rowOf H2 1 (some ⟨i, 0, none⟩) 1 = some l15 ∧ apd H2 8 1 a l 1 l15 fun a16 i17 H18 => stc H18 ob 2 [(.slice a16 i17 0)] K := by
  refine ⟨_, _, Sep.ld1 h rfl, Sep.nw h fun i4 H5 h5 => ⟨[W v], rowOf_bx (es := 1) (n := 1) (b := i4) (Sep.get0 h5) (by decide) rfl, ?_⟩⟩
  subst hn
  refine apd_gl (b := q) (n := 1) (cs := wds ws) (new := [W v]) (Sep.up1 h5) (fun h => by rw [hq h]; rfl) (by decide) (by simp) (by decide) rfl (by omega) fun H' q' h' => ?_
  have e : wds ws ++ [W v] = wds (ws ++ [v]) := by simp
  rw [e] at h'
  exact Sep.st2 h' (Nat.le_of_ble_eq_true rfl) fun H6 h6 => k H6 q' h6.rm1

set_option maxHeartbeats 1000000 in
theorem FitOp_s {d : Dc} {w n : Nat} {kind key flag cpu : Int} (hw : d.words = (w : Int)) (hw2 : w ≤ 1000) (hd : d.inner = 0) (hk2 : d.kind ≠ 2) (h : Sep H L) (ra : RdW L a ws) (hn' : n = ws.length)
    (hR : ∀ H' q, (q = none → fitV d.kind w (fitK d.kind kind) ws = []) → Sep H' (gl 1 q (wds (fitV d.kind w (fitK d.kind kind) ws)) :: L) → R (.agg #[I (fitK d.kind kind), .int .u64 key, .slice (addr q) (fitV d.kind w (fitK d.kind kind) ws).length 0, I (fitF d.kind (fitK d.kind kind) flag), I 0]) H') :
    CA en F.crossbarkit_FitOp [.agg #[I d.kind, I d.entries, I d.words, I d.buckets, I d.inner], .agg #[I kind, .int .u64 key, .slice a n 0, I flag, I cpu], I 1] H R := by
  apply vc_crossbarkit_FitOp
  refine Sep.nw h fun i1 H2 h2 => Sep.nw h2 fun i3 H4 h4 => Sep.nw h4 fun i5 H6 h6 => ⟨_, Sep.ld2 h6 rfl, ?_⟩
  refine kinds_s h6 fun H9 i h9 => ⟨_, _, rfl, ?_⟩
  have hp := h9.fore1 (n := 13) (a := 11) (.cells true 0 [I 0, .int .u64 0, .slice none 0 0, I 0, I 0]) (by decide)
  generalize hob : H9.next + 11 = ob at hp ⊢
  -- ob kl i5 i3 i1
  obtain ⟨l1, l2⟩ := kl_len d.kind
  have em1 := Int.emod_nonneg kind (b := ((kl d.kind).length : Int)) (by omega)
  have em2 := Int.emod_lt_of_pos kind (b := ((kl d.kind).length : Int)) (by omega)
  refine ⟨_, Sep.ld3 hp rfl, Pick_ok (by omega) (by omega) ⟨_, rfl, ⟨by unfold inB; constructor <;> omega, ?_⟩⟩⟩
  have hb : (kind % ((kl d.kind).length : Int)).toNat < (kl d.kind).length := by omega
  have hK : ((kl d.kind).map I)[(kind % ((kl d.kind).length : Int)).toNat]? = some (I (fitK d.kind kind)) := by
    rw [List.getElem?_map, List.getElem?_eq_getElem hb]
    unfold fitK
    rw [List.getD_eq_getElem?_getD, List.getElem?_eq_getElem hb]; rfl
  refine asRow_in ⟨_, Sep.ld1 hp (by rw [Nat.zero_add, Nat.mul_one]; exact hK), _, Sep.ld3 hp rfl, ?_⟩
  generalize hkk : fitK d.kind kind = kk at *
  refine Sep.st0 hp (Nat.le_of_ble_eq_true rfl) fun H20 h20 => ⟨?_, ⟨⟨_, Sep.get0 hp, by simp [sameN, sameN.sameL]⟩, ⟨_, Sep.get0 hp, by simp [sameN, sameN.sameL]⟩, trivial⟩, ⟨⟨_, Sep.ld3 hp rfl, rfl⟩, ⟨_, Sep.ld3 hp rfl, rfl⟩, trivial⟩, trivial⟩
  refine ⟨fun _ H' => H' = H20, ⟨_, Sep.ld4 h20 rfl, cond_no (by simpa using hk2) rfl⟩, ?_⟩
  rintro ys H33 rfl
  refine ⟨fun l H' => l = [.bool (fitB d.kind kk)] ∧ H' = H33, ?_, ?_⟩
  · refine ⟨_, Sep.ld0 h20 rfl, cond_of (fun z => ?_) fun z => ⟨_, Sep.ld0 h20 rfl, cond_of (fun z6 => ?_) fun z6 => ⟨_, Sep.ld0 h20 rfl, cond_of (fun z8 => ⟨_, Sep.ld4 h20 rfl, ?_⟩) fun z8 => ?_⟩⟩⟩
    · refine ⟨?_, rfl⟩; unfold fitB; rw [z]; rfl
    · refine ⟨?_, rfl⟩; unfold fitB; rw [z6]; simp
    · refine ⟨?_, rfl⟩; unfold fitB; rw [z, z6, z8]; simp
    · refine ⟨?_, rfl⟩; unfold fitB; rw [z, z6, z8]; simp
  rintro ys H40 b41 ⟨e1, rfl⟩
  obtain rfl : b41 = fitB d.kind kk := by simpa using e1
  generalize hfb : fitB d.kind kk = vb at *
  refine ⟨fun _ H' => ∃ q, (q = none → fitV d.kind w kk ws = []) ∧ Sep H' (gl 1 q (wds (fitV d.kind w kk ws)) :: bx ob (.cells true 0 [I kk, .int .u64 key, .slice (addr q) (fitV d.kind w kk ws).length 0, I 0, I 0]) :: bx i5 (.cells true 0 [I 0, .int .u64 0, .slice none 0 0, I 0, I 0]) :: bx i3 (.cells true 0 [I kind, .int .u64 key, .slice a n 0, I flag, I cpu]) :: bx i1 (.cells true 0 [I d.kind, I d.entries, I d.words, I d.buckets, I d.inner]) :: L), ?_, ?_⟩
  · let W0 := (List.range w).map fun i => ws.getD i 0
    refine use_crossbarkit_FitOp_0 (fun k t10 H' => ∃ (j : Nat) (q : Option Nat), j ≤ w ∧ k = w - j ∧ t10 = (j : Int) ∧ (vb = false → j = 0) ∧ (q = none → j = 0) ∧ Sep H' (gl 1 q (wds ((List.range j).map fun i => ws.getD i 0)) :: bx ob (.cells true 0 [I kk, .int .u64 key, .slice (addr q) j 0, I 0, I 0]) :: bx i (.cells true 1 ((kl d.kind).map I)) :: bx i5 (.cells true 0 [I 0, .int .u64 0, .slice none 0 0, I 0, I 0]) :: bx i3 (.cells true 0 [I kind, .int .u64 key, .slice a n 0, I flag, I cpu]) :: bx i1 (.cells true 0 [I d.kind, I d.entries, I d.words, I d.buckets, I d.inner]) :: L)) w ⟨0, none, Nat.zero_le _, rfl, rfl, fun _ => rfl, fun _ => rfl, gl_none.2 h20⟩ ?_
    rintro k t10 ys H3 ⟨j, q, hj, rfl, rfl, hvj, hqj, h3⟩
    have hq' : q = none → (List.range j).map (fun i => ws.getD i 0) = [] := fun e => by rw [hqj e]; rfl
    have done : (vb = true → j = w) → ∃ q, (q = none → fitV d.kind w kk ws = []) ∧ Sep H3 (gl 1 q (wds (fitV d.kind w kk ws)) :: bx ob (.cells true 0 [I kk, .int .u64 key, .slice (addr q) (fitV d.kind w kk ws).length 0, I 0, I 0]) :: bx i5 (.cells true 0 [I 0, .int .u64 0, .slice none 0 0, I 0, I 0]) :: bx i3 (.cells true 0 [I kind, .int .u64 key, .slice a n 0, I flag, I cpu]) :: bx i1 (.cells true 0 [I d.kind, I d.entries, I d.words, I d.buckets, I d.inner]) :: L) := fun hv => by
      have e : fitV d.kind w kk ws = (List.range j).map fun i => ws.getD i 0 := by
        unfold fitV
        rw [hfb]
        cases vb with
        | false => rw [hvj rfl]; rfl
        | true => rw [hv rfl]; rfl
      have el : ((List.range j).map fun i => ws.getD i 0).length = j := by simp
      refine ⟨q, fun e1 => by rw [e]; exact hq' e1, ?_⟩
      rw [e, el]
      exact h3.rm2
    refine cond_of (fun hc => ⟨_, Sep.ld5 h3 rfl, cond_of (fun hlt => ?_) fun hlt => ?_⟩) fun hc => ?_
    · have hlt : j < w := by simp only [decide_eq_true_eq] at hlt; rw [hw] at hlt; omega
      have grow : ∀ (v : BitVec 64), v = ws.getD j 0 → ∃ a8 l8, H3.cell ob 2 = some (.slice a8 l8 0) ∧ nwH H3 (.cells true 1 [W v]) fun i9 H2 => ∃ l15, rowOf H2 1 (some ⟨i9, 0, none⟩) 1 = some l15 ∧ apd H2 8 1 a8 l8 1 l15 fun a16 i17 H18 => stc H18 ob 2 [(.slice a16 i17 0)] fun H' => ∃ k', k' < w - j ∧ ∃ (j' : Nat) (q : Option Nat), j' ≤ w ∧ k' = w - j' ∧ IntKind.i64.wrap ((j : Int) + 1) = (j' : Int) ∧ (vb = false → j' = 0) ∧ (q = none → j' = 0) ∧ Sep H' (gl 1 q (wds ((List.range j').map fun i => ws.getD i 0)) :: bx ob (.cells true 0 [I kk, .int .u64 key, .slice (addr q) j' 0, I 0, I 0]) :: bx i (.cells true 1 ((kl d.kind).map I)) :: bx i5 (.cells true 0 [I 0, .int .u64 0, .slice none 0 0, I 0, I 0]) :: bx i3 (.cells true 0 [I kind, .int .u64 key, .slice a n 0, I flag, I cpu]) :: bx i1 (.cells true 0 [I d.kind, I d.entries, I d.words, I d.buckets, I d.inner]) :: L) := fun v ev => by
        refine fit_loop (i1 := i1) (i3 := i3) v h3 (by simp) hq' (by simp; omega) fun H' q' h' => ⟨w - (j + 1), by omega, j + 1, some q', by omega, rfl, by rw [wrap_i64 (by omega)]; omega, fun e => (by rw [hc] at e; cases e), fun e => (by cases e), ?_⟩
        have e : (List.range (j + 1)).map (fun i => ws.getD i 0) = (List.range j).map (fun i => ws.getD i 0) ++ [v] := by rw [List.range_succ, List.map_append, ev]; rfl
        rw [e]; exact h'
      refine ⟨_, Sep.ld5 h3 rfl, _, Sep.ld5 h3 rfl, cond_yes (by rw [hd]; rfl) ⟨_, _, Sep.ld4 h3 rfl, cond_of (fun hin => ?_) fun hin => ?_⟩⟩
      · have hin : j < ws.length := by simp only [decide_eq_true_eq] at hin; omega
        have ra' := ra.tail' (A := bx i1 (.cells true 0 [I d.kind, I d.entries, I d.words, I d.buckets, I d.inner]))
        obtain ⟨g, rfl, e1⟩ := ra H3 (Sep.drop h3 6) j (ws.getD j 0) (by rw [List.getD_eq_getElem?_getD, List.getElem?_eq_getElem hin]; rfl)
        exact ⟨_, _, Sep.ld4 h3 rfl, ⟨by unfold inB; omega, asRow_in ⟨_, e1, grow _ rfl⟩⟩⟩
      · have hin : ws.length ≤ j := by simp only [decide_eq_false_iff_not] at hin; omega
        have e0 : IntKind.u64.wrap d.inner = ((0 : BitVec 64).toNat : Int) := by rw [hd]; rfl
        rw [e0]
        exact grow 0 (by rw [List.getD_eq_getElem?_getD, List.getElem?_eq_none hin]; rfl)
    · exact done fun _ => by simp only [decide_eq_false_iff_not] at hlt; rw [hw] at hlt; omega
    · exact done fun e => by rw [hc] at e; cases e
  rintro ys H46 ⟨q, hq, h46⟩
  have hR := fun H' => hR H' q hq
  -- v ob i5 i3 i1
  have fin : ∀ (f : Int) (H2 : Heap), f = fitF d.kind kk flag → Sep H2 (gl 1 q (wds (fitV d.kind w kk ws)) :: bx ob (.cells true 0 [I kk, .int .u64 key, .slice (addr q) (fitV d.kind w kk ws).length 0, I f, I 0]) :: bx i5 (.cells true 0 [I 0, .int .u64 0, .slice none 0 0, I 0, I 0]) :: bx i3 (.cells true 0 [I kind, .int .u64 key, .slice a n 0, I flag, I cpu]) :: bx i1 (.cells true 0 [I d.kind, I d.entries, I d.words, I d.buckets, I d.inner]) :: L) →
      ∃ n53 n54 a55 i56 n57 n58, H2.cellsAt ob 0 5 = some [I n53, .int .u64 n54, .slice a55 i56 0, I n57, I n58] ∧ stc H2 i5 0 [I n53, .int .u64 n54, .slice a55 i56 0, I n57, I n58] fun H59 => ∃ n60 n61 a62 i63 n64 n65, H59.cellsAt i5 0 5 = some [I n60, .int .u64 n61, .slice a62 i63 0, I n64, I n65] ∧ R (.agg #[I n60, .int .u64 n61, .slice a62 i63 0, I n64, I n65]) H59 := fun f H2 ef h2 => by
    refine ⟨_, _, _, _, _, _, Sep.lds1 h2 rfl, Sep.st2 h2 (Nat.le_of_ble_eq_true rfl) fun H59 h59 => ⟨_, _, _, _, _, _, Sep.lds2 h59 rfl, ?_⟩⟩
    rw [ef]
    exact hR H59 (Sep.pick h59 5 [0] (by decide))
  refine ⟨_, Sep.ld1 h46 rfl, cond_of (fun z => ?_) fun z => cond_of (fun z4 => ?_) fun z4 => cond_of (fun z6 => ⟨_, Sep.ld4 h46 rfl, cond_of (fun z8 => ?_) fun z8 => ?_⟩) fun z6 => ?_⟩
  · have z : kk = 2 := by simpa using z
    refine ⟨_, Sep.ld3 h46 rfl, Pick_ok (by decide) (by decide) ⟨_, rfl, Sep.st1 h46 (Nat.le_of_ble_eq_true rfl) fun H52 h52 => fin _ H52 ?_ h52⟩⟩
    unfold fitF; rw [if_pos z]
  · have z : ¬ kk = 2 := by simpa using z
    have z4 : kk = 4 := by simpa using z4
    refine ⟨_, Sep.ld3 h46 rfl, Pick_ok (by decide) (by decide) ⟨_, rfl, Sep.st1 h46 (Nat.le_of_ble_eq_true rfl) fun H52 h52 => fin _ H52 ?_ h52⟩⟩
    unfold fitF; rw [if_neg z, if_pos z4]
  · have z : ¬ kk = 2 := by simpa using z
    have z4 : ¬ kk = 4 := by simpa using z4
    have z6 : kk = 6 := by simpa using z6
    have z8 : d.kind ≠ 8 := by simpa using z8
    refine ⟨_, Sep.ld3 h46 rfl, Pick_ok (by decide) (by decide) ⟨_, rfl, Sep.st1 h46 (Nat.le_of_ble_eq_true rfl) fun H52 h52 => fin _ H52 ?_ h52⟩⟩
    unfold fitF; rw [if_neg z, if_neg z4, if_pos z6, if_pos z8, wrap_i64 (by omega)]
  · have z : ¬ kk = 2 := by simpa using z
    have z4 : ¬ kk = 4 := by simpa using z4
    have z6 : kk = 6 := by simpa using z6
    have z8 : ¬ d.kind ≠ 8 := by simpa using z8
    refine fin _ H46 ?_ h46
    unfold fitF; rw [if_neg z, if_neg z4, if_pos z6, if_neg z8]
  · have z : ¬ kk = 2 := by simpa using z
    have z4 : ¬ kk = 4 := by simpa using z4
    have z6 : ¬ kk = 6 := by simpa using z6
    refine fin _ H46 ?_ h46
    unfold fitF; rw [if_neg z, if_neg z4, if_neg z6]

/-! ### Lists of lists of operations, handed in -/
abbrev Bz : Nat := 140737488355328
def OldZ (H0 : Heap) (P : List Value → Prop) (c : List Value) : Prop :=
  c = [.slice none 0 0] ∨ ∃ (i : Nat) (cs : List (List Value)), c = [.slice (some ⟨i, 0, none⟩) cs.length 0] ∧ i < H0.next ∧ H0.get i = some (AS.Obj.cells false 0 cs.flatten) ∧ (∀ d ∈ cs, P d) ∧ cs.length ≤ 140737488355328
theorem OldZ.of {P : List Value → Prop} {c : List Value} (h : OldZ H0 P c) : ∃ a n css, c = [.slice a n 0] ∧ OldS H0 a n css ∧ (∀ d ∈ css, P d) ∧ css.length ≤ Bz := by
  rcases h with rfl | ⟨i, cs, rfl, h1, h2, h3, h4⟩
  · exact ⟨none, 0, [], rfl, ⟨rfl, .inl ⟨rfl, rfl⟩⟩, by simp, by simp⟩
  · exact ⟨_, _, cs, rfl, ⟨rfl, .inr ⟨i, rfl, h1, h2⟩⟩, h3, h4⟩
def OpZ (H0 : Heap) (c : List Value) : Prop :=
  ∃ (a18 b19 : List Value), c = a18 ++ b19 ∧ (∃ n : Int, a18 = [.int .i64 n] ∧ (Lit.int .i64 n).wf = true) ∧ (∃ (a20 b21 : List Value), b19 = a20 ++ b21 ∧ (∃ n : Int, a20 = [.int .u64 n] ∧ (Lit.int .u64 n).wf = true) ∧ (∃ (a22 b23 : List Value), b21 = a22 ++ b23 ∧ OldZ H0 (fun d => ∃ n : Int, d = [.int .u64 n] ∧ (Lit.int .u64 n).wf = true) a22 ∧ (∃ (a25 b26 : List Value), b23 = a25 ++ b26 ∧ (∃ n : Int, a25 = [.int .i64 n] ∧ (Lit.int .i64 n).wf = true) ∧ (∃ (a27 b28 : List Value), b26 = a27 ++ b28 ∧ (∃ n : Int, a27 = [.int .i64 n] ∧ (Lit.int .i64 n).wf = true) ∧ b28 = []))))
theorem OpZ.of {c : List Value} (h : OpZ H0 c) : ∃ o : Op, OpC H0 o c ∧ o.val.length ≤ Bz := by
  obtain ⟨_, _, rfl, ⟨k, rfl, _⟩, _, _, rfl, ⟨key, rfl, hk⟩, _, _, rfl, hv, _, _, rfl, ⟨f, rfl, _⟩, _, _, rfl, ⟨cp, rfl, _⟩, rfl⟩ := h
  obtain ⟨a, n, css, rfl, ho, hc, hl⟩ := hv.of
  obtain ⟨l, rfl⟩ := words_of css hc
  obtain ⟨w, rfl⟩ := word_of hk
  rw [List.length_map] at hl
  exact ⟨⟨k, w, l, f, cp⟩, ⟨a, n, rfl, ho⟩, hl⟩
theorem opc_len {o : Op} {c : List Value} (h : OpC H0 o c) : c.length = 5 := by obtain ⟨a, n, rfl, _⟩ := h; rfl
theorem opsC_of {c : List Value} (h : OldZ H0 (OpZ H0) c) : ∃ l : List Op, OpsC H0 l c ∧ l.length ≤ Bz ∧ ∀ x ∈ l, x.val.length ≤ Bz := by
  obtain ⟨a, n, css, rfl, ho, hc, hl⟩ := h.of
  obtain ⟨l, h1, h2⟩ := pick_of (P := fun (o : Op) c => OpC H0 o c ∧ o.val.length ≤ Bz) css fun c hm => (hc c hm).of
  refine ⟨l, ⟨a, n, rfl, by rw [h1]; exact ho.len, css, ho, fun c hm => ?_, fun j o hj => ?_⟩, by rw [h1]; exact hl, fun x hx => ?_⟩
  · obtain ⟨o, h3, _⟩ := (hc c hm).of
    exact opc_len h3
  · obtain ⟨c, h3, h4, _⟩ := h2 j o hj
    exact ⟨c, h3, h4⟩
  · obtain ⟨j, hj, rfl⟩ := List.mem_iff_getElem.1 hx
    obtain ⟨c, _, _, h5⟩ := h2 j _ (List.getElem?_eq_getElem hj)
    exact h5
theorem opsLL_of {c : List Value} (h : OldZ H0 (OldZ H0 (OpZ H0)) c) : ∃ (ll : List (List Op)) (a : Option Addr) (n : Nat), c = [.slice a n 0] ∧ OpsLL H0 a n ll ∧ (∀ l ∈ ll, l.length ≤ Bz) ∧ ∀ l ∈ ll, ∀ x ∈ l, x.val.length ≤ Bz := by
  obtain ⟨a, n, css, rfl, ho, hc, hl⟩ := h.of
  obtain ⟨ll, h1, h2⟩ := pick_of (P := fun (l : List Op) c => OpsC H0 l c ∧ l.length ≤ Bz ∧ ∀ x ∈ l, x.val.length ≤ Bz) css fun c hm => opsC_of (hc c hm)
  refine ⟨ll, a, n, rfl, ⟨by rw [h1]; exact ho.len, css, ho, fun c hm => ?_, fun j o hj => ?_⟩, fun l hm => ?_, fun l hm => ?_⟩
  · obtain ⟨l, ⟨a, n, rfl, _⟩, _⟩ := opsC_of (hc c hm); rfl
  · obtain ⟨c, h3, h4, _⟩ := h2 j o hj
    exact ⟨c, h3, h4⟩
  · obtain ⟨j, hj, rfl⟩ := List.mem_iff_getElem.1 hm
    obtain ⟨c, _, _, h5, _⟩ := h2 j _ (List.getElem?_eq_getElem hj)
    exact h5
  · obtain ⟨j, hj, rfl⟩ := List.mem_iff_getElem.1 hm
    obtain ⟨c, _, _, _, h5⟩ := h2 j _ (List.getElem?_eq_getElem hj)
    exact h5

/-- How many there are. -/
theorem Total_s {n : Nat} {ll : List (List Op)} (o : OpsLL H0 a n ll) (hb : n ≤ 4) (hl : ∀ l ∈ ll, l.length ≤ 140737488355328) (h : Sep H L) (hm : old H0 ∈ L) (hR : ∀ H', Sep H' L → R (I (tot ll)) H') : CA en F.crossbarkit_Total [.slice a n 0] H R := by
  apply vc_crossbarkit_Total
  have hn := o.len
  have hbd : ∀ j, j ≤ ll.length → tot (ll.take j) ≤ j * 140737488355328 := by
    intro j
    induction j with
    | zero => intro _; simp [tot]
    | succ j ih =>
      intro hj
      have hj' : j < ll.length := by omega
      rw [List.take_succ_eq_append_getElem hj', tot_snoc]
      have := hl _ (List.getElem_mem hj')
      have := ih (by omega)
      omega
  refine use_crossbarkit_Total_0 (fun k t3 t4 H => ∃ j : Nat, j ≤ ll.length ∧ k = ll.length - j ∧ t4 = (j : Int) ∧ t3 = (tot (ll.take j) : Int) ∧ Sep H L) ll.length ⟨0, by omega, rfl, rfl, by simp [tot], h⟩ ?_
  clear h
  rintro k t3 t4 ys H3 ⟨j, hj, rfl, rfl, rfl, hs⟩
  refine cond_of (fun h1 => ?_) fun h1 => ?_
  · have hj' : j < ll.length := by simp only [decide_eq_true_eq] at h1; omega
    obtain ⟨i, a', n', rfl, e1, o'⟩ := o.at' hs hm (List.getElem?_eq_getElem hj')
    have e : tot (ll.take (j + 1)) = tot (ll.take j) + n' := by rw [List.take_succ_eq_append_getElem hj', tot_snoc, o'.len]
    have b1 := hbd j hj
    have b2 := hl _ (List.getElem_mem hj')
    rw [← o'.len] at b2
    have b3 : j * 140737488355328 ≤ 4 * 140737488355328 := Nat.mul_le_mul_right _ (by omega)
    refine ⟨by unfold inB; omega, asRow_in ⟨_, _, e1, ll.length - (j + 1), by omega, j + 1, by omega, rfl, by rw [wrap_i64 (by omega)]; omega, ?_, hs⟩⟩
    rw [e, wrap_i64 (by omega)]; omega
  · have e : j = ll.length := by simp only [decide_eq_false_iff_not] at h1; omega
    subst e
    rw [List.take_length]
    exact asInt_in (hR H3 hs)
end Go.Proofs.Ytlkmdcncpdadbaa

/-
  Blooms that agents are about, and the document's one.
-/
namespace Go.Proofs.Ytlkmdcncpdadbaa
open Go Go.AS Go.RowKit
set_option linter.unusedVariables false
variable {H H' H0 : Heap} {R : Value → Heap → Prop} {L M : List Asr} {a b : Option Addr} {ws vs : List (BitVec 64)}

/-! ### A row of a block, wherever the block stands -/
section
variable {i w k j o n : Nat} {ow : Bool} {css : List (List Value)} {row : List Value}
theorem rowld {v : Value} (h : Sep H L) (j : Nat) (hj : L[j]? = some (bx i (.cells ow w (css.set k row).flatten))) (hw : ∀ c ∈ css, c.length = w) (hr : row.length = w) (hk : k < css.length) (ho : row[o]? = some v) : H.cell i (0 + k * w + o) = some v := by
  have hlt : o < w := by have := (List.getElem?_eq_some_iff.1 ho).1; omega
  have hk' : k < (css.set k row).length := by simpa using hk
  rw [cell_of (h.get j hj), Nat.zero_add, rowsFlat_cell (set_rows hw hr) hk' hlt]
  simpa using ho
theorem rowld0 {v : Value} (h : Sep H L) (j : Nat) (hj : L[j]? = some (bx i (.cells ow w (css.set k row).flatten))) (hw : ∀ c ∈ css, c.length = w) (hr : row.length = w) (hk : k < css.length) (ho : row[0]? = some v) : H.cell i (0 + k * w) = some v := rowld (o := 0) h j hj hw hr hk ho
theorem takeAt_row {cs : List Value} {vs : List Value} (h : takeAt row o n = some vs) : ∃ p q, row = p ++ (vs ++ q) ∧ p.length = o ∧ vs.length = n := by
  unfold takeAt at h
  split at h
  · rename_i hl
    obtain rfl := Option.some.inj h
    refine ⟨row.take o, (row.drop o).drop n, ?_, by rw [List.length_take]; omega, by rw [List.length_take, List.length_drop]; omega⟩
    rw [List.take_append_drop, List.take_append_drop]
  · cases h
theorem rowlds {vs : List Value} (h : Sep H L) (j : Nat) (hj : L[j]? = some (bx i (.cells ow w (css.set k row).flatten))) (hw : ∀ c ∈ css, c.length = w) (hr : row.length = w) (hk : k < css.length) (ho : takeAt row o n = some vs) : H.cellsAt i (0 + k * w + o) n = some vs := by
  have hk' : k < (css.set k row).length := by simpa using hk
  have h1 := rowsFlat_len _ (set_rows (k := k) hw hr)
  have hle : k * w + w ≤ (css.set k row).length * w := by rw [← Nat.succ_mul]; exact Nat.mul_le_mul_right _ hk'
  rw [cellsAt_of (h.get j hj), Nat.zero_add]
  unfold takeAt at ho ⊢
  split at ho
  · rename_i hl
    rw [if_pos (by omega), ← List.drop_drop, rowsFlat_drop _ k (set_rows hw hr), List.drop_eq_getElem_cons hk', List.flatten_cons]
    have e : (css.set k row)[k] = row := by simp
    rw [e, List.drop_append_of_le_length (by omega), List.take_append_of_le_length (by rw [List.length_drop]; omega)]
    exact ho
  · cases ho
theorem setAt_app : ∀ (vs : List Value) (p m q : List Value), m.length = vs.length → setAt (p ++ (m ++ q)) p.length vs = p ++ (vs ++ q)
  | [], p, m, q, h => by
    have : m = [] := List.eq_nil_of_length_eq_zero h
    subst this; rfl
  | v :: vs, p, m, q, h => by
    cases m with
    | nil => simp at h
    | cons x m =>
      have e1 : (p ++ (x :: m ++ q)).set p.length v = (p ++ [v]) ++ (m ++ q) := by simp
      show setAt ((p ++ (x :: m ++ q)).set p.length v) (p.length + 1) vs = _
      have e2 : p.length + 1 = (p ++ [v]).length := by simp
      rw [e1, e2, setAt_app vs (p ++ [v]) m q (by simpa using h)]
      simp
theorem rowst {vs : List Value} {K : Heap → Prop} (h : Sep H L) (j : Nat) (hj : L[j]? = some (bx i (.cells true w (css.set k row).flatten))) (hw : ∀ c ∈ css, c.length = w) (hr : row.length = w) (hk : k < css.length) (ho : o + vs.length ≤ w)
    (r : ∀ H', Sep H' (L.set j (bx i (.cells true w (css.set k (setAt row o vs)).flatten))) → K H') : stc H i (0 + k * w + o) vs K := by
  have hk' : k < (css.set k row).length := by simpa using hk
  have hlen := rowsFlat_len _ (set_rows (k := k) hw hr)
  have hle : k * w + w ≤ (css.set k row).length * w := by rw [← Nat.succ_mul]; exact Nat.mul_le_mul_right _ hk'
  refine Sep.st h j hj (by omega) fun H' h' => r H' ?_
  have e : setAt (css.set k row).flatten (0 + k * w + o) vs = (css.set k (setAt row o vs)).flatten := by
    have hkc : (css.set k row)[k]? = some row := by rw [List.getElem?_set_self hk]
    have s1 : css.set k row = css.take k ++ row :: css.drop (k + 1) := by rw [List.set_eq_take_append_cons_drop, if_pos hk]
    have s2 : css.set k (setAt row o vs) = css.take k ++ setAt row o vs :: css.drop (k + 1) := by rw [List.set_eq_take_append_cons_drop, if_pos hk]
    have l1 : (css.take k).flatten.length = k * w := by
      rw [rowsFlat_len (w := w) _ fun c hc => hw c (List.mem_of_mem_take hc), List.length_take, Nat.min_eq_left (by omega)]
    obtain ⟨p, q, ep, lp, lm⟩ := takeAt_row (row := row) (o := o) (n := vs.length) (cs := row) (vs := (row.drop o).take vs.length) (by unfold takeAt; rw [if_pos (by omega)])
    rw [s1, s2, List.flatten_append, List.flatten_append, List.flatten_cons, List.flatten_cons]
    generalize hm : (row.drop o).take vs.length = m at *
    have e3 : setAt row o vs = p ++ (vs ++ q) := by
      conv => lhs; rw [ep]
      rw [← lp]; exact setAt_app vs p m q lm
    rw [e3]
    have e4 : (css.take k).flatten ++ (row ++ (css.drop (k + 1)).flatten) = ((css.take k).flatten ++ p) ++ (m ++ (q ++ (css.drop (k + 1)).flatten)) := by
      conv => lhs; rw [ep]
      simp
    have e5 : 0 + k * w + o = ((css.take k).flatten ++ p).length := by rw [List.length_append, l1, lp]; omega
    rw [e4, e5, setAt_app vs _ m _ lm]
    simp
  rw [e] at h'
  exact h'
theorem rowst0 {vs : List Value} {K : Heap → Prop} (h : Sep H L) (j : Nat) (hj : L[j]? = some (bx i (.cells true w (css.set k row).flatten))) (hw : ∀ c ∈ css, c.length = w) (hr : row.length = w) (hk : k < css.length) (ho : vs.length ≤ w)
    (r : ∀ H', Sep H' (L.set j (bx i (.cells true w (css.set k (setAt row 0 vs)).flatten))) → K H') : stc H i (0 + k * w) vs K := rowst (o := 0) h j hj hw hr hk (by omega) r
end

/-! ### The document's -/
abbrev refA (rr bb : Nat) (d : Dc) (n : Nat) : Asr := bx rr (.cells true 0 [I d.kind, I d.entries, I d.words, I d.buckets, I d.inner, .slice (some ⟨bb, 0, none⟩) n 0])
theorem or_wrap (a b : BitVec 64) : IntKind.u64.wrap (((BitVec.ofInt 64 (a.toNat : Int) ||| BitVec.ofInt 64 (b.toNat : Int)).toNat : Nat) : Int) = (((a ||| b).toNat : Nat) : Int) := by
  rw [ofInt_bv, ofInt_bv, wrap_bv]
theorem wds_get {j : Nat} (h : j < ws.length) : (wds ws)[0 + j * 1]? = some (W (ws.getD j 0)) := by
  rw [Nat.zero_add, Nat.mul_one, List.getElem?_map, List.getElem?_eq_getElem h, List.getD_eq_getElem?_getD, List.getElem?_eq_getElem h]; rfl

theorem setAt1 (cs : List Value) (o : Nat) (v : Value) : setAt cs o [v] = cs.set o v := rfl
theorem bdo_s {rr bb q : Nat} {d : Dc} {v : BitVec 64} {kind key fl cp : Int} (h : Sep H (refA rr bb d ws.length :: bx bb (.cells true 1 (wds ws)) :: bx q (.cells true 1 (wds [v])) :: L)) (hb : d.buckets = ws.length) (h1 : 1 ≤ ws.length ∧ ws.length ≤ 32)
    (hR : ∀ H', Sep H' (refA rr bb d ws.length :: bx bb (.cells true 1 (wds (done kind ws v))) :: bx q (.cells true 1 (wds [v])) :: L) → R (.agg #[I (gives kind ws v), .slice none 0 0, .int .u64 0, I 0]) H') :
    CA en F.crossbarref18_Map_Do [P rr, .agg #[I kind, .int .u64 key, .slice (some ⟨q, 0, none⟩) 1 0, I fl, I cp]] H R := by
  apply vc_crossbarref18_Map_Do
  refine Sep.nw h fun i1 H2 h2 => Sep.nw h2 fun i3 H4 h4 => ?_
  have hB := h4.bump 15
  have hbk := bkt_of (k := v) (n := d.buckets) (by omega)
  refine ⟨_, _, Sep.ld1 hB rfl, by unfold inB; omega, asRow_in ⟨_, Sep.ld4 hB rfl, asAddr_in ⟨_, Sep.ld2 hB rfl, ?_⟩⟩⟩
  refine RBloom_ok (k := v) (by omega) ⟨_, _, rfl, ⟨_, Sep.ld1 hB rfl, ?_⟩, trivial⟩
  obtain ⟨j, hj⟩ : ∃ j : Nat, bkt v d.buckets = (j : Int) := ⟨(bkt v d.buckets).toNat, by omega⟩
  have hjl : j < ws.length := by omega
  have hj2 : (bkt v ws.length).toNat = j := by rw [← hb, hj]; rfl
  unfold done gives push has at hR
  rw [hj2] at hR
  rw [hj]
  refine cond_of (fun z => ?_) fun z => ?_
  · have z : kind = 6 := by simpa using z
    rw [if_pos z, if_pos z] at hR
    have hC := hB.bump 16
    refine asAddr_in ⟨_, _, Sep.ld2 hC rfl, asAddr_in ⟨_, _, Sep.ld2 hC rfl, by unfold inB; omega, asRow_in ⟨_, Sep.ld3 hC (wds_get hjl), by unfold inB; omega, asRow_in ?_⟩⟩⟩
    have hlen : 0 + (j : Int).toNat * 1 + 1 ≤ (wds ws).length := by rw [List.length_map, Int.toNat_natCast]; omega
    refine Sep.st3 hC hlen fun H5 h5 => ⟨Sep.st0 h5 (Nat.le_of_ble_eq_true rfl) fun H6 h6 => ⟨_, _, _, _, _, Sep.lds0 h6 rfl, hR H6 ?_⟩, trivial⟩
    rw [or_wrap, Int.toNat_natCast, setAt1, Nat.zero_add, Nat.mul_one, ← List.map_set (f := W)] at h6
    exact Sep.pick h6 5 [2, 3, 4] (by decide)
  · have z : ¬ kind = 6 := by simpa using z
    rw [if_neg z, if_neg z] at hR
    refine asAddr_in ⟨_, _, Sep.ld2 hB rfl, by unfold inB; omega, asRow_in ⟨_, Sep.ld3 hB (wds_get hjl), ?_⟩⟩
    rw [and_wrap, bv_bne]
    refine cond_of (fun y => ?_) fun y => ?_
    · have y : ¬ ws.getD j 0 &&& bitsOf v = bitsOf v := by simpa using y
      rw [decide_eq_false y] at hR
      exact Sep.st0 hB (Nat.le_of_ble_eq_true rfl) fun H6 h6 => ⟨_, _, _, _, _, Sep.lds0 h6 rfl, hR H6 (Sep.pick h6 5 [2, 3, 4] (by decide))⟩
    · have y : ws.getD j 0 &&& bitsOf v = bitsOf v := by simpa using y
      rw [decide_eq_true y] at hR
      exact Sep.st0 hB (Nat.le_of_ble_eq_true rfl) fun H6 h6 => ⟨_, _, _, _, _, Sep.lds0 h6 rfl, hR H6 (Sep.pick h6 5 [2, 3, 4] (by decide))⟩

theorem rdw_bx {q : Nat} (hm : bx q (.cells true 1 (wds ws)) ∈ L) : RdW L (some ⟨q, 0, none⟩) ws := by
  intro H' hs j x hx
  have hg : H'.get q = some (.cells true 1 (wds ws)) := hs.all _ hm
  exact ⟨q, rfl, by rw [cell_of hg, Nat.zero_add, Nat.mul_one, List.getElem?_map, hx]; rfl⟩

/-! ### What agents are about -/
structure Ak where
  run : Option Addr
  kind : Int
  key : Int
  va : Option Addr
  vn : Nat
  fl : Int
  cp : Int
  at_ : Nat
  had : Bool
  no : Int
  ra : Option Addr
  rn : Nat
  rk : Int
  re : Int
abbrev Ak.cells (k : Ak) : List Value := [.pointer k.run, I k.kind, .int .u64 k.key, .slice k.va k.vn 0, I k.fl, I k.cp, I k.at_, .bool k.had, I k.no, .slice k.ra k.rn 0, .int .u64 k.rk, I k.re]
theorem ak_len (As : List Ak) : ∀ c ∈ As.map Ak.cells, c.length = 12 := by
  intro c hc; obtain ⟨v, _, rfl⟩ := List.mem_map.1 hc; rfl
theorem ak_set {As : List Ak} {k : Nat} {x : Ak} {row : List Value} (h : row = x.cells) : (As.map Ak.cells).set k row = (As.set k x).map Ak.cells := by rw [h, List.map_set]
theorem ak_row {As : List Ak} {k : Nat} {x : Ak} (h : As[k]? = some x) : (As.map Ak.cells).set k x.cells = As.map Ak.cells := by
  refine set_same ?_
  rw [List.getElem?_map, h]; rfl
abbrev sideA (s m x rr ab n : Nat) (d : Dc) (la : Option Addr) : Asr := bx s (.cells true 0 [P m, P x, P rr, I d.kind, I d.entries, I d.words, I d.buckets, I d.inner, .slice la n 0, .slice (some ⟨ab, 0, none⟩) n 0])

/-- All of it. -/
structure BS (H0 : Heap) (s m x rr bb ab n : Nat) (d : Dc) (la : Option Addr) (ll : List (List Op)) (H : Heap) (As : List Ak) (ws : List (BitVec 64)) (c : Int) : Prop where
  len : As.length = n
  run : ∀ (i : Nat) (a : Ak), As[i]? = some a → a.run = none
  at_ : ∀ (i : Nat) (a : Ak) (l : List Op), As[i]? = some a → ll[i]? = some l → a.at_ ≤ l.length
  ex : ∃ S, One S ws c ∧ Sep H [bx ab (.cells true 12 (As.map Ak.cells).flatten), sideA s m x rr ab n d la, bm m x d 1, mem m S, refA rr bb d ws.length, bx bb (.cells true 1 (wds ws)), old H0]

/-- What a map of this sort is like. -/
structure BD (d : Dc) (ws : List (BitVec 64)) : Prop where
  kind : d.kind = 8
  words : d.words = 1
  inner : d.inner = 0
  b : d.buckets = ws.length
  h1 : 1 ≤ ws.length ∧ ws.length ≤ 32

theorem done_len {kind : Int} {ws : List (BitVec 64)} {k : BitVec 64} : (done kind ws k).length = ws.length := by
  unfold done; split
  · exact push_len ws k
  · rfl

theorem sameRes (a k e : Int) (p : Option Addr) (l : Nat) : sameN 8 (.agg #[.int .i64 a, .slice p l 0, .int .u64 k, .int .i64 e]) (.agg #[.int .i64 a, .slice p l 0, .int .u64 k, .int .i64 e]) = true := by simp [sameN, sameN.sameL]
set_option maxHeartbeats 4000000 in
theorem bside_s {s m x rr bb ab n k : Nat} {d : Dc} {la : Option Addr} {ll : List (List Op)} {As : List Ak} {c : Int} (o : OpsLL H0 la n ll) (bd : BD d ws) (w : BS H0 s m x rr bb ab n d la ll H As ws c) (hk : k < n) (hn : n ≤ 4) (hl : ∀ l ∈ ll, l.length ≤ 1000) (hc : c < 4611686018427380000)
    (hR : ∀ H' (As' : List Ak) (ws' : List (BitVec 64)) c', c' ≤ c + 10 → ws'.length = ws.length → BS H0 s m x rr bb ab n d la ll H' As' ws' c' → (∀ (i : Nat) (a : Ak) (l : List Op), As[i]? = some a → ll[i]? = some l → ∃ a', As'[i]? = some a' ∧ a'.at_ = if i = k then (if a.at_ < l.length then a.at_ + 1 else a.at_) else a.at_) → R (.bool true) H') :
    CA en F.crossbarlaw18_side_step [P s, I k] H R := by
  apply vc_crossbarlaw18_side_step
  have hln := o.len
  have hkl : k < As.length := by rw [w.len]; exact hk
  obtain ⟨a, ha⟩ : ∃ a, As[k]? = some a := ⟨_, List.getElem?_eq_getElem hkl⟩
  obtain ⟨l, hll⟩ : ∃ l, ll[k]? = some l := ⟨_, List.getElem?_eq_getElem (by omega)⟩
  have hal := w.at_ k a l ha hll
  have hl' := hl l (List.mem_of_getElem? hll)
  obtain ⟨S, o1, h⟩ := w.ex
  have hrun := w.run k a ha
  obtain ⟨arun, akind, akey, ava, avn, afl, acp, aat, ahad, ano, ara, arn, ark, are⟩ := a
  simp only at hal hrun
  subst hrun
  have hw := ak_len As
  have hkc : k < (As.map Ak.cells).length := by simpa using hkl
  rw [← ak_row ha] at h
  have h : Sep H [bx ab (.cells true 12 ((As.map Ak.cells).set k [.pointer none, I akind, .int .u64 akey, .slice ava avn 0, I afl, I acp, I aat, .bool ahad, I ano, .slice ara arn 0, .int .u64 ark, I are]).flatten), sideA s m x rr ab n d la, bm m x d 1, mem m S, refA rr bb d ws.length, bx bb (.cells true 1 (wds ws)), old H0] := h
  have ew : aat < l.length → IntKind.i64.wrap ((aat : Int) + 1) = ((aat + 1 : Nat) : Int) := fun _ => by rw [wrap_i64 (by omega)]; omega
  have hm : ∀ (A B C D E F' : Asr), old H0 ∈ [A, B, C, D, E, F', old H0] := fun _ _ _ _ _ _ => by simp
  refine asAddr_in ⟨_, _, Sep.ld1 h rfl, by unfold inB; omega, asRow_in ?_⟩
  rw [Int.toNat_natCast]
  refine ⟨fun _ H' => ∃ (op : Op) (f : Nat) (v : BitVec 64) (q r c0 c1 c2 : Nat) (key' fl' : Int) (S' : Sm), aat < l.length ∧ f = (if fitK d.kind op.kind = 6 then F.bloom_Map_Begin_1 else F.bloom_Map_Begin_2) ∧ One S' ws c ∧ Sep H' [bx ab (.cells true 12 ((As.map Ak.cells).set k [P r, I (fitK d.kind op.kind), .int .u64 key', .slice (some ⟨q, 0, none⟩) 1 0, I fl', I 0, I ((aat + 1 : Nat) : Int), .bool false, I ano, .slice ara arn 0, .int .u64 ark, I are]).flatten), sideA s m x rr ab n d la, bld r c0 c1 c2 f, bx c0 (.cells true 0 [P x]), bx c1 (.cells true 0 [I (bkt v d.buckets)]), bx c2 (.cells true 0 [W (bitsOf v)]), bm m x d 1, mem m S', refA rr bb d ws.length, bx bb (.cells true 1 (wds ws)), bx q (.cells true 1 (wds [v])), old H0], ?_, ?_⟩
  · refine ⟨_, rowld0 h 0 rfl hw rfl hkc rfl, cond_yes rfl ?_⟩
    have hB := h.bump 13
    obtain ⟨i, a', n', rfl, e1, o'⟩ := o.at' hB (hm _ _ _ _ _ _) hll
    refine ⟨_, rowld hB 0 rfl hw rfl hkc rfl, asAddr_in ⟨_, _, Sep.ld1 hB rfl, by unfold inB; omega, asRow_in ⟨_, _, e1, ?_, trivial⟩⟩⟩
    have hn' := o'.len
    subst hn'
    refine cond_of (fun hge => ?_) fun hge => ?_
    · have hge : l.length ≤ aat := by simp only [decide_eq_true_eq] at hge; omega
      refine hR _ As ws c (by omega) rfl ⟨w.len, w.run, w.at_, S, o1, ?_⟩ fun i a l h1 h2 => ⟨a, h1, ?_⟩
      · rw [ak_row ha] at hB; exact hB
      · split
        · rename_i e; subst e
          rw [ha] at h1; obtain rfl := Option.some.inj h1
          rw [hll] at h2; obtain rfl := Option.some.inj h2
          rw [if_neg (by show ¬ aat < _; omega)]
        · rfl
    · have hge : aat < l.length := by simp only [decide_eq_false_iff_not] at hge; omega
      refine asAddr_in ⟨_, Sep.ld1 hB rfl, count_s (Sep.up3 hB) ⟨_, rfl, ?_⟩⟩
      have hC := hB.bump 22
      obtain ⟨i, a'', n'', e0, e2, o''⟩ := o.at' hC (hm _ _ _ _ _ _) hll
      cases e0
      obtain ⟨op, hop⟩ : ∃ op, l[aat]? = some op := ⟨_, List.getElem?_eq_getElem hge⟩
      obtain ⟨j, a3, n3, e3, e4, en3, rd⟩ := o''.at' hC (hm _ _ _ _ _ _) hop
      subst e3
      refine asAddr_in ⟨_, _, _, _, _, Sep.lds1 hC rfl, asAddr_in ⟨_, _, Sep.ld1 hC rfl, by unfold inB; omega, asRow_in ⟨_, _, e2, _, rowld hC 0 rfl hw rfl hkc rfl, (by show (0 : Int) ≤ (aat : Int) ∧ (aat : Int) < (n'' : Nat); rw [o''.len]; omega), asRow_in ⟨_, _, _, _, _, _, e4, ?_⟩⟩⟩⟩
      refine FitOp_s (d := d) (w := 1) bd.words (by decide) bd.inner (by rw [bd.kind]; decide) hC rd en3 fun H49 q hq h49 => ⟨_, _, _, _, _, _, rfl, ?_⟩
      have hkd := bd.kind
      have hfit : ∃ v, fitV d.kind 1 (fitK d.kind op.kind) op.val = [v] := by
        rw [hkd]
        have : fitB 8 (fitK 8 op.kind) = true := by
          unfold fitK
          have h1 := Int.emod_nonneg op.kind (b := 2) (by decide)
          have h2 := Int.emod_lt_of_pos op.kind (b := 2) (by decide)
          have e : ((kl 8).length : Int) = 2 := rfl
          rw [e]
          obtain e1 | e1 : op.kind % 2 = 0 ∨ op.kind % 2 = 1 := by omega
          · rw [e1]; rfl
          · rw [e1]; rfl
        unfold fitV
        rw [if_pos this]
        exact ⟨op.val.getD 0 0, rfl⟩
      obtain ⟨v, hv1⟩ := hfit
      rw [hv1] at hq h49 ⊢
      have hF : fitF d.kind (fitK d.kind op.kind) op.flag = fitF 8 (fitK 8 op.kind) op.flag := by rw [hkd]
      obtain ⟨q, rfl⟩ : ∃ q', q = some q' := by cases q with
        | none => cases hq rfl
        | some q => exact ⟨q, rfl⟩
      have h49 := gl_some.1 h49
      -- q ab side bm mem ref bits old
      refine rowst h49 1 rfl hw rfl hkc (Nat.le_of_ble_eq_true rfl) fun H56 h56 => ⟨⟨_, rowld h56 1 rfl hw rfl hkc rfl, ?_⟩, trivial⟩
      rw [ew hge]
      refine rowst h56 1 rfl hw rfl hkc (Nat.le_of_ble_eq_true rfl) fun H58 h58 => rowst h58 1 rfl hw rfl hkc (Nat.le_of_ble_eq_true rfl) fun H59 h59 => ⟨_, _, _, _, _, _, rowlds h59 1 rfl hw rfl hkc rfl, ?_⟩
      refine CopyOp_s h59 (rdw_bx (ws := [v]) List.mem_cons_self) rfl (by show 1 < 1000000000; decide) fun H67 q2 hq2 h67 => ⟨_, _, _, _, _, _, rfl, ?_⟩
      obtain ⟨q2, rfl⟩ : ∃ q', q2 = some q' := by cases q2 with
        | none => cases hq2 rfl
        | some q => exact ⟨q, rfl⟩
      have h67 := gl_some.1 h67
      refine Sep.nw h67 fun i74 H75 h75 => Sep.st0 h75 (Nat.le_of_ble_eq_true rfl) fun H76 h76 => ?_
      have hD := h76.bump 10
      -- i74 q2 q ab side bm mem ref bits old
      refine asAddr_in ⟨_, Sep.ld4 hD rfl, _, _, _, _, _, _, Sep.lds0 hD rfl, ?_⟩
      have hE := Sep.pick hD 10 [5, 1, 0, 2, 3, 4, 6, 7, 8, 9] (by decide)
      refine bbegin_s (n := 0) (cs := []) hE (by rw [bd.b]; have := bd.h1; omega) fun H87 r c0 c1 c2 h87 => ⟨_, rfl, ?_⟩
      -- r c0 c1 c2 bm q2 i74 q ab side mem ref bits old
      refine rowst0 h87 8 rfl hw rfl hkc (Nat.le_of_ble_eq_true rfl) fun H89 h89 => ⟨⟨_, _, Sep.ld6 h89 rfl, ?_⟩, trivial⟩
      refine SpoilWords_s (ws := [v]) (q := some q2) rfl (by show 1 < 100000; decide) (fun e => by cases e) (gl_some.2 (Sep.up5 h89)) fun H93 h93 => ⟨rfl, ?_⟩
      -- r c0 c1 c2 bm i74 q ab side mem ref bits old
      refine ⟨_, rowld0 h93 7 rfl hw rfl hkc rfl, cond_no rfl (asAddr_in ⟨_, Sep.ld8 h93 rfl, ?_⟩)⟩
      refine count_s (Sep.up9 h93) ⟨_, rfl, cond_no (by simp) ⟨op, _, v, q, r, c0, c1, c2, (op.key.toNat : Int), fitF d.kind (fitK d.kind op.kind) op.flag, S, hge, rfl, o1, ?_⟩⟩
      exact Sep.pick h93 13 [7, 8, 0, 1, 2, 3, 4, 9, 10, 11, 6, 12] (by decide)
  · rintro ys H102 ⟨op, f, v, q, r, c0, c1, c2, key', fl', S1, hge, ef, o1', hs⟩
    generalize hkk : fitK d.kind op.kind = kk at *
    -- ab side r c0 c1 c2 bm mem ref bits q old
    refine asAddr_in ⟨_, Sep.ld1 hs rfl, count_s (Sep.up7 hs) ⟨_, rfl, asAddr_in ⟨_, Sep.ld1 hs rfl, bad_s (Sep.up7 hs) ⟨_, rfl, _, rowld0 hs 0 rfl hw rfl hkc rfl, ?_⟩⟩⟩⟩
    have h1 := Sep.pick hs 12 [2, 3, 4, 5, 6, 7, 0, 1, 8, 9, 10, 11] (by decide)
    subst ef
    refine bstep_s h1 o1' (by omega) bd.b bd.h1.1 fun H117 S2 o2 h2 => ⟨_, _, rfl, ?_⟩
    -- r c0 c1 c2 bm mem ab side ref bits q old
    have hcn : S1.count = c := o1'.cnt
    have hcn2 : S2.count = c + 1 := o2.cnt
    refine asAddr_in ⟨_, Sep.ld7 h2 rfl, count_s (Sep.up5 h2) ⟨_, rfl, cond_no ?_ (asAddr_in ⟨_, Sep.ld7 h2 rfl, bad_s (Sep.up5 h2) ⟨_, rfl, cond_no ?_ ?_⟩⟩)⟩⟩
    · have c0' := o1'.c0
      rw [hcn, hcn2, wrap_i64 (by omega)]; simp
    · rw [o1'.bads, o2.bads]; rfl
    refine cond_yes rfl ⟨_, rowld h2 6 rfl hw rfl hkc rfl, cond_no rfl ?_⟩
    have hdl : (done kk ws v).length = ws.length := done_len
    refine ⟨fun _ H' => ∃ (ra' : Option Addr), Sep H' [bx ab (.cells true 12 ((As.map Ak.cells).set k [P r, I kk, .int .u64 key', .slice (some ⟨q, 0, none⟩) 1 0, I fl', I 0, I ((aat + 1 : Nat) : Int), .bool true, I (gives kk ws v), .slice ra' 0 0, .int .u64 0, I 0]).flatten), sideA s m x rr ab n d la, bdn r (gives kk ws v), bm m x d 1, mem m S2, refA rr bb d ws.length, bx bb (.cells true 1 (wds (done kk ws v))), old H0], ?_, ?_⟩
    · refine cond_yes rfl (rowst h2 6 rfl hw rfl hkc (Nat.le_of_ble_eq_true rfl) fun H134 h134 => ⟨_, rowld0 h134 6 rfl hw rfl hkc rfl, ?_⟩)
      refine bresult_s h134 fun H137 h137 => ⟨_, _, _, _, _, rfl, ?_⟩
      refine CopyRes_s (ws := []) h137 (fun H' hs j x hx => by simp at hx) rfl (by decide) fun H144 q3 _ h144 => ⟨_, _, _, _, _, rfl, ?_⟩
      -- q3 r c0 c1 c2 bm mem ab side ref bits q old
      refine rowst h144 7 rfl hw rfl hkc (Nat.le_of_ble_eq_true rfl) fun H150 h150 => ?_
      have hB := h150.bump 15
      refine ⟨_, _, _, _, _, rowlds hB 7 rfl hw rfl hkc rfl, asAddr_in ⟨_, Sep.ld8 hB rfl, _, _, _, _, _, _, rowlds hB 7 rfl hw rfl hkc rfl, ?_⟩⟩
      refine bdo_s (Sep.pick hB 13 [9, 10, 11, 1, 2, 3, 4, 5, 6, 7, 8, 12] (by decide)) bd.b bd.h1 fun H166 h166 => ⟨_, _, _, _, _, rfl, ?_⟩
      -- ref bits q r c0 c1 c2 bm mem ab side old
      refine SameRes_s (ws := []) h166 (fun H' hs j x hx => by simp at hx) (fun H' hs j x hx => by simp at hx) rfl rfl (by decide) fun H173 h173 => ⟨_, rfl, ⟨cond_no rfl ⟨addr q3, ?_⟩, ⟨⟨_, _, _, _, _, rowlds hB 7 rfl hw rfl hkc rfl, sameRes _ _ _ _ _⟩, ⟨_, _, _, _, _, rowlds h166 9 rfl hw rfl hkc rfl, sameRes _ _ _ _ _⟩, trivial⟩, trivial⟩⟩
      exact Sep.pick h173 12 [9, 10, 3, 7, 8, 0, 1, 11] (by decide)
    · rintro ys H186 ⟨ra', h186⟩
      -- ab side r bm mem ref bits old
      refine cond_no rfl (asAddr_in ⟨_, Sep.ld1 h186 rfl, count_s (Sep.up4 h186) ⟨_, rfl, _, rowld0 h186 0 rfl hw rfl hkc rfl, bagain_s (Sep.up2 h186) ⟨_, _, rfl, ?_⟩⟩⟩)
      have hB := h186.bump 34
      refine ⟨_, rowld hB 0 rfl hw rfl hkc rfl, cond_no rfl (cond_no rfl (cond_no rfl (asAddr_in ⟨_, Sep.ld1 hB rfl, count_s (Sep.up4 hB) ⟨_, rfl, cond_no (by simp) ⟨_, rowld0 hB 0 rfl hw rfl hkc rfl, ?_⟩⟩⟩)))⟩
      refine bresult_s (Sep.up2 hB) fun H207 h207 => ⟨_, _, _, _, _, rfl, _, _, _, _, _, rowlds h207 1 rfl hw rfl hkc rfl, ?_⟩
      refine SameRes_s (ws := []) h207 (fun H' hs j x hx => by simp at hx) (fun H' hs j x hx => by simp at hx) rfl rfl (by decide) fun H219 h219 => ⟨_, rfl, ⟨cond_no rfl ?_, ⟨⟨_, _, _, _, _, rowlds hB 0 rfl hw rfl hkc rfl, sameRes _ _ _ _ _⟩, ⟨_, _, _, _, _, rowlds h207 1 rfl hw rfl hkc rfl, sameRes _ _ _ _ _⟩, trivial⟩, trivial⟩⟩
      -- r ab side bm mem ref bits old
      refine rowst0 h219 1 rfl hw rfl hkc (Nat.le_of_ble_eq_true rfl) fun H231 h231 => ?_
      let a' : Ak := ⟨none, kk, key', some ⟨q, 0, none⟩, 1, fl', 0, aat + 1, true, gives kk ws v, ra', 0, 0, 0⟩
      refine hR H231 (As.set k a') (done kk ws v) (c + 1) (by omega) hdl ⟨by rw [List.length_set]; exact w.len, fun i a h => ?_, fun i a l' h h' => ?_, S2, o2, ?_⟩ fun i a l' hx hx' => ?_
      · rw [List.getElem?_set] at h
        split at h
        · obtain rfl := Option.some.inj h; rfl
        · exact w.run i a h
      · rw [List.getElem?_set] at h
        split at h
        · rename_i e; subst e
          obtain rfl := Option.some.inj h
          rw [hll] at h'; obtain rfl := Option.some.inj h'
          exact hge
        · exact w.at_ i a l' h h'
      · have e := ak_set (As := As) (k := k) (x := a') rfl
        rw [← e, hdl]
        exact Sep.pick h231 8 [1, 2, 3, 4, 5, 6, 7] (by decide)
      · by_cases e : i = k
        · subst e
          refine ⟨a', by rw [List.getElem?_set_self hkl], ?_⟩
          rw [ha] at hx; obtain rfl := Option.some.inj hx
          rw [hll] at hx'; obtain rfl := Option.some.inj hx'
          rw [if_pos rfl, if_pos hge]
        · exact ⟨a, by rw [List.getElem?_set_ne (fun z => e z.symm)]; exact hx, by rw [if_neg e]⟩
end Go.Proofs.Ytlkmdcncpdadbaa

