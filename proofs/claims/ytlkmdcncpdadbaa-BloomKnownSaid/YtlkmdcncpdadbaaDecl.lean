/-
  What maps may be like: what the functions of the program do.
-/
import Derived.Test.YtlkmdcncpdadbaaVc1
import Derived.Test.YtlkmdcncpdadbaaKit
namespace Go.Proofs.Ytlkmdcncpdadbaa
open Go Go.AS Go.RowKit
set_option linter.unusedVariables false

variable {H : Heap} {R : Value → Heap → Prop}

/-- The hash of a key. -/
def hsh (k : BitVec 64) : Nat := (k * 11400714819323198485#64).toNat / 4294967296
def bkt (k : BitVec 64) (n : Int) : Int := if n < 1 then 0 else (hsh k : Int) % n

theorem hsh_lt (k : BitVec 64) : hsh k < 4294967296 := by
  have := (k * 11400714819323198485#64).isLt
  unfold hsh; omega

theorem mul_wrap (k : BitVec 64) (c : Nat) (hc : c < 18446744073709551616) : IntKind.u64.wrap ((k.toNat : Int) * (c : Int)) = (((k * BitVec.ofNat 64 c).toNat : Nat) : Int) := by
  rw [wrap_u64]
  congr 2
  have e : (c : Int) = ((BitVec.ofNat 64 c).toNat : Int) := by simp [BitVec.toNat_ofNat, Nat.mod_eq_of_lt hc]
  rw [e, BitVec.ofInt_mul, ofInt_bv, ofInt_bv]

theorem u64_self {n : Int} (h0 : 0 ≤ n) (h1 : n < 18446744073709551616) : IntKind.u64.wrap n = n := by
  have e : IntKind.u64.wrap n = n % 18446744073709551616 := rfl
  rw [e]; omega

theorem Bucket_ok {k : BitVec 64} {n : Int} (hn : n < 9223372036854775808) (hR : R (I (bkt k n)) H) : CA en F.decl_Bucket [W k, I n] H R := by
  apply vc_decl_Bucket
  by_cases h : n < 1
  · refine cond_yes (by simpa using h) ?_
    have : bkt k n = 0 := by unfold bkt; rw [if_pos h]
    rw [this] at hR
    exact hR
  · refine cond_no (by simpa using h) ⟨by unfold nn; decide, ?_, ?_⟩
    · rw [u64_self (by omega) (by omega)]; unfold nz; omega
    · rw [u64_self (n := n) (by omega) (by omega)]
      have e := mul_wrap k 11400714819323198485 (by decide)
      rw [show ((k.toNat : Int) * 11400714819323198485) = ((k.toNat : Int) * ((11400714819323198485 : Nat) : Int)) from rfl, e]
      have e2 : ((((k * BitVec.ofNat 64 11400714819323198485).toNat : Nat) : Int).fdiv 4294967296) = (hsh k : Int) := by
        unfold hsh
        rw [Int.fdiv_eq_ediv_of_nonneg _ (by decide)]
        rfl
      rw [e2, Int.tmod_eq_emod_of_nonneg (by omega)]
      have hb := hsh_lt k
      have e3 : (hsh k : Int) % n = ((hsh k % n.toNat : Nat) : Int) := by rw [Int.natCast_emod, Int.toNat_of_nonneg (by omega)]
      have e4 := Nat.mod_le (hsh k) n.toNat
      have h1 : (hsh k : Int) % n < 4294967296 := by omega
      have h2 : 0 ≤ (hsh k : Int) % n := Int.emod_nonneg _ (by omega)
      rw [wrap_i64 (by omega)]
      have : bkt k n = (hsh k : Int) % n := by unfold bkt; rw [if_neg h]
      rw [this] at hR
      exact hR

/-! ### Kinds -/
structure Kind where
  words : Int
  buckets : Bool
  nested : Bool
  does : List Int
  bucketed : Bool

def kindOf (k : Int) : Option Kind :=
  if k = 1 then some ⟨1, false, false, [1, 2, 4], false⟩
  else if k = 2 then some ⟨1, false, false, [1, 2, 4], false⟩
  else if k = 3 then some ⟨4, false, false, [1, 2, 4], false⟩
  else if k = 4 then some ⟨1, true, false, [3, 5, 1, 2, 4], true⟩
  else if k = 5 then some ⟨1, false, false, [3, 5, 1, 2, 4], false⟩
  else if k = 6 then some ⟨4, false, false, [6, 7, 8], false⟩
  else if k = 7 then some ⟨4, false, false, [6, 7, 8], false⟩
  else if k = 8 then some ⟨1, true, false, [6, 8], false⟩
  else if k = 9 then some ⟨1, false, true, [3, 1, 2, 4], false⟩
  else if k = 10 then some ⟨1, true, true, [3, 1, 2, 4], true⟩
  else none

def kindD (k : Int) : Kind := (kindOf k).getD ⟨0, false, false, [], false⟩

/-- A row of numbers. -/
def Ints (H : Heap) (a : Option Addr) (l : Nat) (xs : List Int) : Prop :=
  l = xs.length ∧ (xs = [] ∨ ∃ i w, a = some ⟨i, 0, none⟩ ∧ i < H.next ∧ H.get i = some (.cells w 1 (xs.map I)))

theorem kinds_ok {x : Int} (hR : ∀ H' a l, Frm [] H H' → Ints H' a l (kindD x).does → R (.tuple #[.agg #[I (kindD x).words, .bool (kindD x).buckets, .bool (kindD x).nested, .slice a l 0, .bool (kindD x).bucketed], .bool (kindOf x).isSome]) H') :
    CA en F.decl_kinds [I x] H R := by
  apply vc_decl_kinds
  refine nwH_in fun i1 H2 e1 h2 => nwH_in fun i3 H4 e3 h4 => nwH_in fun i5 H6 e5 h6 => nwH_in fun i7 H8 e7 h8 => ?_
  have g8 : H8.get i1 = some (.cells true 0 [I 0, .bool false, .bool false, .slice none 0 0, .bool false]) ∧ H8.get i3 = some (.cells true 1 [I 1, I 2, I 4]) ∧ H8.get i5 = some (.cells true 1 [I 6, I 7, I 8]) ∧ H8.get i7 = some (.cells true 1 [I 3, I 5]) ∧ H8.next = H.next + 4 ∧ i1 = H.next ∧ i3 = H.next + 1 ∧ i5 = H.next + 2 ∧ i7 = H.next + 3 := by
    subst_vars
    simp only [get_new, next_new]
    refine ⟨?_, ?_, ?_, ?_, ?_, ?_, ?_, ?_, ?_⟩ <;> first | trivial | omega | ((repeat (first | rw [if_pos trivial] | rw [if_pos rfl] | rw [if_neg (by omega)])); try (first | rfl | assumption))
  have f8 : Frm [] H H8 := by subst_vars; exact ((((Frm.refl _ _).new _).new _).new _).new _
  clear e1 h2 e3 h4 e5 h6 e7 h8
  obtain ⟨g1, g3, g5, g7, n8, i1e, i3e, i5e, i7e⟩ := g8
  refine ⟨[I 1, I 2, I 4], by simp [rowOf, firstCellsA, g3, takeAt], ?_⟩
  refine apd_grow (old := [I 3, I 5]) g7 (by decide) (by decide) rfl (by decide) fun j H11 ej hj => ?_
  refine nwH_in fun i12 H13 e12 h13 => ?_
  have g13 : H13.get i1 = some (.cells true 0 [I 0, .bool false, .bool false, .slice none 0 0, .bool false]) ∧ H13.get i3 = some (.cells true 1 [I 1, I 2, I 4]) ∧ H13.get i5 = some (.cells true 1 [I 6, I 7, I 8]) ∧ H13.get j = some (.cells true 1 [I 3, I 5, I 1, I 2, I 4]) ∧ H13.get i12 = some (.cells true 1 [I 3]) ∧ H13.next = H.next + 6 ∧ j = H.next + 4 ∧ i12 = H.next + 5 := by
    subst e12 h13 ej hj
    simp only [get_new, get_set, next_new, next_set]
    refine ⟨?_, ?_, ?_, ?_, ?_, by omega, by omega, by omega⟩ <;> (first | trivial | omega | ((repeat (first | rw [if_pos trivial] | rw [if_pos rfl] | rw [if_neg (by omega)])); try (first | rfl | assumption)))
  have f13 : Frm [] H H13 := by subst e12 h13 ej hj; exact ((f8.set _ (by right; omega)).new _).new _
  clear e12 h13 ej hj g1 g3 g5 g7
  obtain ⟨g1, g3, g5, gj, g12, n13, je, i12e⟩ := g13
  refine ⟨[I 1, I 2, I 4], by simp [rowOf, firstCellsA, g3, takeAt], ?_⟩
  refine apd_grow (old := [I 3]) g12 (by decide) (by decide) rfl (by decide) fun q H16 eq hq => ?_
  refine nwH_in fun i17 H18 e17 h18 => nwH_in fun i19 H20 e19 h20 => ?_
  have g20 : H20.get i1 = some (.cells true 0 [I 0, .bool false, .bool false, .slice none 0 0, .bool false]) ∧ H20.get i3 = some (.cells true 1 [I 1, I 2, I 4]) ∧ H20.get i5 = some (.cells true 1 [I 6, I 7, I 8]) ∧ H20.get j = some (.cells true 1 [I 3, I 5, I 1, I 2, I 4]) ∧ H20.get q = some (.cells true 1 [I 3, I 1, I 2, I 4]) ∧ H20.get i17 = some (.cells true 1 [I 6, I 8]) ∧ (∃ c, H20.get i19 = some (.cells true 0 c) ∧ c.length = 55) ∧ H20.next = H.next + 9 ∧ q = H.next + 6 ∧ i17 = H.next + 7 ∧ i19 = H.next + 8 := by
    subst e17 h18 e19 h20 eq hq
    simp only [get_new, get_set, next_new, next_set]
    refine ⟨?_, ?_, ?_, ?_, ?_, ?_, ⟨_, if_pos trivial, rfl⟩, by omega, by omega, by omega, by omega⟩ <;> (first | trivial | omega | ((repeat (first | rw [if_pos trivial] | rw [if_pos rfl] | rw [if_neg (by omega)])); try (first | rfl | assumption)))
  have f20 : Frm [] H H20 := by subst e17 h18 e19 h20 eq hq; exact (((f13.set _ (by right; omega)).new _).new _).new _
  clear e17 h18 e19 h20 eq hq g1 g3 g5 gj g12
  obtain ⟨g1, g3, g5, gj, gq, g17, ⟨c, g19, hc⟩, n20, qe, i17e, i19e⟩ := g20
  refine stc_of' g19 (by rw [hc]; exact Nat.le_refl _) fun H23 e23 => ?_
  have hset : ∀ vs : List Value, vs.length = 55 → setAt c 0 vs = vs := by
    intro vs hv
    have key : ∀ (vs c pre : List Value), vs.length = c.length → setAt (pre ++ c) pre.length vs = pre ++ vs := by
      intro vs
      induction vs with
      | nil => intro c pre h; cases c with | nil => simp [setAt] | cons => simp at h
      | cons v vs ih =>
        intro c pre h
        cases c with
        | nil => simp at h
        | cons x c =>
          simp only [setAt]
          rw [List.set_append_right _ _ (Nat.le_refl _), Nat.sub_self, List.set_cons_zero]
          have := ih c (pre ++ [v]) (by simpa using h)
          simpa using this
    have := key vs c [] (by omega)
    simpa using this
  rw [hset _ rfl] at e23
  have t19 := (congrArg (fun h : Heap => h.get i19) e23).trans (get_set_self _ _ _)
  have f23 : Frm [] H H23 := by rw [e23]; exact f20.set _ (by right; omega)
  have n23 : H23.next = H.next + 9 := by rw [e23, next_set]; exact n20
  have s1 : H23.get i1 = some (.cells true 0 [I 0, .bool false, .bool false, .slice none 0 0, .bool false]) := by rw [e23, get_set_ne (by omega)]; exact g1
  have s3 : H23.get i3 = some (.cells true 1 [I 1, I 2, I 4]) := by rw [e23, get_set_ne (by omega)]; exact g3
  have s5 : H23.get i5 = some (.cells true 1 [I 6, I 7, I 8]) := by rw [e23, get_set_ne (by omega)]; exact g5
  have sj : H23.get j = some (.cells true 1 [I 3, I 5, I 1, I 2, I 4]) := by rw [e23, get_set_ne (by omega)]; exact gj
  have sq : H23.get q = some (.cells true 1 [I 3, I 1, I 2, I 4]) := by rw [e23, get_set_ne (by omega)]; exact gq
  have s17 : H23.get i17 = some (.cells true 1 [I 6, I 8]) := by rw [e23, get_set_ne (by omega)]; exact g17
  clear e23 g1 g3 g5 gj gq g17 g19
  have none1 : kindOf x = none → stc H23 i1 0 [I 0, .bool false, .bool false, .slice none 0 0, .bool false] fun H24 => ∃ n25 b26 b27 a28 i29 b30, H24.cellsAt i1 0 5 = some [I n25, .bool b26, .bool b27, .slice a28 i29 0, .bool b30] ∧ R (.tuple #[.agg #[I n25, .bool b26, .bool b27, .slice a28 i29 0, .bool b30], .bool false]) H24 := by
    intro hk
    refine stc_of' s1 (by decide) fun H24 e24 => ?_
    have hD : kindD x = ⟨0, false, false, [], false⟩ := by unfold kindD; rw [hk]; rfl
    have := hR H24 none 0 (by rw [e24]; exact f23.set _ (by right; omega)) (by rw [hD]; exact ⟨rfl, .inl rfl⟩)
    rw [hD, hk] at this
    exact ⟨0, false, false, none, 0, false, by rw [e24, cellsAt_of (get_set_self _ _ _)]; rfl, this⟩
  have some1 : ∀ (K : Kind) (a : Option Addr) (i : Nat) (b : Bool), kindOf x = some K → a = some ⟨i, 0, none⟩ → i ≠ i1 → i < H.next + 9 → H23.get i = some (.cells b 1 (K.does.map I)) → ∀ l, l = K.does.length →
      H23.cellsAt i19 (0 + x.toNat * 5) 5 = some [I K.words, .bool K.buckets, .bool K.nested, .slice a l 0, .bool K.bucketed] →
      ∃ n38 b39 b40 a41 i42 b43, H23.cellsAt i19 (0 + x.toNat * 5) 5 = some [I n38, .bool b39, .bool b40, .slice a41 i42 0, .bool b43] ∧
        stc H23 i1 0 [I n38, .bool b39, .bool b40, .slice a41 i42 0, .bool b43] fun H44 => ∃ n45 b46 b47 a48 i49 b50, H44.cellsAt i1 0 5 = some [I n45, .bool b46, .bool b47, .slice a48 i49 0, .bool b50] ∧
          R (.tuple #[.agg #[I n45, .bool b46, .bool b47, .slice a48 i49 0, .bool b50], .bool true]) H44 := by
    intro K a i b hk ha hne hlt hg l hl hcell
    refine ⟨_, _, _, _, _, _, hcell, ?_⟩
    refine stc_of' s1 (Nat.le_refl _) fun H44 e44 => ?_
    have hD : kindD x = K := by unfold kindD; rw [hk]; rfl
    have := hR H44 a l (by rw [e44]; exact f23.set _ (by right; omega)) (by rw [hD]; exact ⟨hl, .inr ⟨i, b, ha, by rw [e44, next_set]; omega, by rw [e44, get_set_ne hne]; exact hg⟩⟩)
    rw [hD, hk] at this
    exact ⟨K.words, K.buckets, K.nested, a, l, K.bucketed, by rw [e44, cellsAt_of (get_set_self _ _ _)]; rfl, this⟩
  refine cond_of (fun h => none1 ?_) fun h => cond_of (fun h' => none1 ?_) fun h' => ⟨?_, ?_⟩
  · simp only [decide_eq_true_eq] at h
    unfold kindOf
    repeat rw [if_neg (by omega)]
  · simp only [decide_eq_true_eq, ge_iff_le] at h'
    unfold kindOf
    repeat rw [if_neg (by omega)]
  · simp only [decide_eq_false_iff_not, ge_iff_le] at h h'
    exact ⟨by omega, by omega⟩
  · simp only [decide_eq_false_iff_not, ge_iff_le] at h h'
    have hx : x = 1 ∨ x = 2 ∨ x = 3 ∨ x = 4 ∨ x = 5 ∨ x = 6 ∨ x = 7 ∨ x = 8 ∨ x = 9 ∨ x = 10 := by omega
    rcases hx with rfl | rfl | rfl | rfl | rfl | rfl | rfl | rfl | rfl | rfl
    · exact some1 ⟨1, false, false, [1, 2, 4], false⟩ _ i3 true rfl rfl (by omega) (by omega) s3 _ rfl (by rw [cellsAt_of t19]; rfl)
    · exact some1 ⟨1, false, false, [1, 2, 4], false⟩ _ i3 true rfl rfl (by omega) (by omega) s3 _ rfl (by rw [cellsAt_of t19]; rfl)
    · exact some1 ⟨4, false, false, [1, 2, 4], false⟩ _ i3 true rfl rfl (by omega) (by omega) s3 _ rfl (by rw [cellsAt_of t19]; rfl)
    · exact some1 ⟨1, true, false, [3, 5, 1, 2, 4], true⟩ _ j true rfl rfl (by omega) (by omega) sj _ rfl (by rw [cellsAt_of t19]; rfl)
    · exact some1 ⟨1, false, false, [3, 5, 1, 2, 4], false⟩ _ j true rfl rfl (by omega) (by omega) sj _ rfl (by rw [cellsAt_of t19]; rfl)
    · exact some1 ⟨4, false, false, [6, 7, 8], false⟩ _ i5 true rfl rfl (by omega) (by omega) s5 _ rfl (by rw [cellsAt_of t19]; rfl)
    · exact some1 ⟨4, false, false, [6, 7, 8], false⟩ _ i5 true rfl rfl (by omega) (by omega) s5 _ rfl (by rw [cellsAt_of t19]; rfl)
    · exact some1 ⟨1, true, false, [6, 8], false⟩ _ i17 true rfl rfl (by omega) (by omega) s17 _ rfl (by rw [cellsAt_of t19]; rfl)
    · exact some1 ⟨1, false, true, [3, 1, 2, 4], false⟩ _ q true rfl rfl (by omega) (by omega) sq _ rfl (by rw [cellsAt_of t19]; rfl)
    · exact some1 ⟨1, true, true, [3, 1, 2, 4], true⟩ _ q true rfl rfl (by omega) (by omega) sq _ rfl (by rw [cellsAt_of t19]; rfl)

/-! ### The order of keys -/
def ahd (k n : Int) (a b : BitVec 64) : Bool :=
  let m := if (kindD k).bucketed then n else 0
  if bkt a m ≠ bkt b m then decide (bkt a m < bkt b m) else decide ((a.toNat : Int) < (b.toNat : Int))

structure Dc where
  kind : Int
  entries : Int
  words : Int
  buckets : Int
  inner : Int

abbrev Dc.cells (d : Dc) : List Value := [I d.kind, I d.entries, I d.words, I d.buckets, I d.inner]
abbrev Dc.val (d : Dc) : Value := .agg #[I d.kind, I d.entries, I d.words, I d.buckets, I d.inner]

theorem Ahead_ok {d : Dc} {a b : BitVec 64} (hn : d.buckets < 9223372036854775808) (hR : ∀ H', Frm [] H H' → R (.bool (ahd d.kind d.buckets a b)) H') : CA en F.decl_Ahead [d.val, W a, W b] H R := by
  apply vc_decl_Ahead
  refine nwH_in fun i1 H2 e1 h2 => ?_
  have g2 : H2.get i1 = some (.cells true 0 d.cells) := by subst e1 h2; exact get_new_self _ _
  have l2 : i1 < H2.next := by subst e1 h2; rw [next_new]; omega
  have f2 : Frm [] H H2 := by subst h2; exact (Frm.refl _ _).new _
  have ie : H.next ≤ i1 := by omega
  clear e1 h2
  refine ⟨d.kind, by rw [cell_of g2]; rfl, kinds_ok fun H5 al l f5 hi => ⟨_, _, _, _, _, _, _, rfl, ?_⟩⟩
  refine nwH_in fun i13 H14 e13 h14 => ?_
  have g14 : H14.get i13 = some (.cells true 0 [I 0, .bool false, .bool false, .slice none 0 0, .bool false]) := by subst e13 h14; exact get_new_self _ _
  refine stc_of' g14 (Nat.le_refl _) fun H15 e15 => ?_
  have f15 : Frm [] H2 H15 := by
    subst e15 h14
    exact (f5.new _).set _ (by right; have := f5.1; omega)
  have g15 : H15.get i1 = some (.cells true 0 d.cells) := by rw [f15.2 _ l2 (by simp)]; exact g2
  have f : Frm [] H H15 := f2.trans f15 (by simp)
  refine ⟨(kindD d.kind).bucketed, by rw [e15, cell_of (get_set_self _ _ _)]; rfl, ?_⟩
  have fin : ∀ n, n < 9223372036854775808 → n = (if (kindD d.kind).bucketed then d.buckets else 0) → CA en F.decl_Bucket [W a, I n] H15 fun v18 H19 => ∃ n20, v18 = I n20 ∧ CA en F.decl_Bucket [W b, I n] H19 fun v21 H22 => ∃ n23, v21 = I n23 ∧
      cond (n20 != n23) (R (.bool (decide (n20 < n23))) H22) (R (.bool (decide ((a.toNat : Int) < (b.toNat : Int)))) H22) := by
    intro n h1 h2
    refine Bucket_ok h1 ⟨_, rfl, Bucket_ok h1 ⟨_, rfl, ?_⟩⟩
    have := hR H15 f
    unfold ahd at this
    rw [← h2] at this
    refine cond_of (fun h => ?_) fun h => ?_
    · rw [bne_iff_ne] at h
      simp only [h, ne_eq, not_false_eq_true, if_true] at this
      exact this
    · rw [bne_eq_false_iff_eq] at h
      simp only [h, ne_eq, not_true_eq_false, if_false] at this
      exact this
  refine cond_of (fun h => ⟨d.buckets, by rw [cell_of g15]; rfl, fin _ hn (by rw [h]; rfl)⟩) fun h => fin 0 (by decide) (by rw [h]; rfl)
end Go.Proofs.Ytlkmdcncpdadbaa
