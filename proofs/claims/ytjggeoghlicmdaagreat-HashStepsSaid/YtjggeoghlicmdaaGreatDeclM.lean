/-
  Written by merge.py: Decl DeclBits DeclRef DeclTells DeclChecks DeclOne DeclLoops
-/
import Derived.Test.YtjggeoghlicmdaaGreatVc1
import Derived.Test.YtjggeoghlicmdaaGreatKit
import Derived.Test.YtjggeoghlicmdaaGreatVc2
import Derived.Test.YtjggeoghlicmdaaGreatArgs
import Derived.Test.YtjggeoghlicmdaaGreatVc3
import Derived.Test.YtjggeoghlicmdaaGreatAs40
/-
  What maps may be like: what the functions of the program do.
-/
namespace Go.Proofs.YtjggeoghlicmdaaGreat
open Go Go.AS Go.RowKit
set_option linter.unusedVariables false

variable {H : Heap} {R : Value → Heap → Prop}

/-- The hash of a key. -/
def hsh (k : BitVec 64) : Nat := (k * 11400714819323198485#64).toNat / 4294967296
def bkt (k : BitVec 64) (n : Int) : Int := if n < 1 then 0 else (hsh k : Int) % n

theorem hsh_lt (k : BitVec 64) : hsh k < 4294967296 := by
  have := (k * 11400714819323198485#64).isLt
  unfold hsh; omega

theorem mul_wrap (k : BitVec 64) (c : Nat) (hc : c < 18446744073709551616) : IntKind.u64.wrap ((k.toNat : Int) * (c : Int)) = (((k * BitVec.ofNat 64 c).toNat : Nat) : Int) := by
  rw [wrap_u64]
  congr 2
  have e : (c : Int) = ((BitVec.ofNat 64 c).toNat : Int) := by simp [BitVec.toNat_ofNat, Nat.mod_eq_of_lt hc]
  rw [e, BitVec.ofInt_mul, ofInt_bv, ofInt_bv]

theorem u64_self {n : Int} (h0 : 0 ≤ n) (h1 : n < 18446744073709551616) : IntKind.u64.wrap n = n := by
  have e : IntKind.u64.wrap n = n % 18446744073709551616 := rfl
  rw [e]; omega

theorem Bucket_ok {k : BitVec 64} {n : Int} (hn : n < 9223372036854775808) (hR : R (I (bkt k n)) H) : CA en F.decl_Bucket [W k, I n] H R := by
  apply vc_decl_Bucket
  by_cases h : n < 1
  · refine cond_yes (by simpa using h) ?_
    have : bkt k n = 0 := by unfold bkt; rw [if_pos h]
    rw [this] at hR
    exact hR
  · refine cond_no (by simpa using h) ⟨by unfold nn; decide, ?_, ?_⟩
    · rw [u64_self (by omega) (by omega)]; unfold nz; omega
    · rw [u64_self (n := n) (by omega) (by omega)]
      have e := mul_wrap k 11400714819323198485 (by decide)
      rw [show ((k.toNat : Int) * 11400714819323198485) = ((k.toNat : Int) * ((11400714819323198485 : Nat) : Int)) from rfl, e]
      have e2 : ((((k * BitVec.ofNat 64 11400714819323198485).toNat : Nat) : Int).fdiv 4294967296) = (hsh k : Int) := by
        unfold hsh
        rw [Int.fdiv_eq_ediv_of_nonneg _ (by decide)]
        rfl
      rw [e2, Int.tmod_eq_emod_of_nonneg (by omega)]
      have hb := hsh_lt k
      have e3 : (hsh k : Int) % n = ((hsh k % n.toNat : Nat) : Int) := by rw [Int.natCast_emod, Int.toNat_of_nonneg (by omega)]
      have e4 := Nat.mod_le (hsh k) n.toNat
      have h1 : (hsh k : Int) % n < 4294967296 := by omega
      have h2 : 0 ≤ (hsh k : Int) % n := Int.emod_nonneg _ (by omega)
      rw [wrap_i64 (by omega)]
      have : bkt k n = (hsh k : Int) % n := by unfold bkt; rw [if_neg h]
      rw [this] at hR
      exact hR

/-! ### Kinds -/
structure Kind where
  words : Int
  buckets : Bool
  nested : Bool
  does : List Int
  bucketed : Bool

def kindOf (k : Int) : Option Kind :=
  if k = 1 then some ⟨1, false, false, [1, 2, 4], false⟩
  else if k = 2 then some ⟨1, false, false, [1, 2, 4], false⟩
  else if k = 3 then some ⟨4, false, false, [1, 2, 4], false⟩
  else if k = 4 then some ⟨1, true, false, [3, 5, 1, 2, 4], true⟩
  else if k = 5 then some ⟨1, false, false, [3, 5, 1, 2, 4], false⟩
  else if k = 6 then some ⟨4, false, false, [6, 7, 8], false⟩
  else if k = 7 then some ⟨4, false, false, [6, 7, 8], false⟩
  else if k = 8 then some ⟨1, true, false, [6, 8], false⟩
  else if k = 9 then some ⟨1, false, true, [3, 1, 2, 4], false⟩
  else if k = 10 then some ⟨1, true, true, [3, 1, 2, 4], true⟩
  else none

def kindD (k : Int) : Kind := (kindOf k).getD ⟨0, false, false, [], false⟩

/-- A row of numbers. -/
def Ints (H : Heap) (a : Option Addr) (l : Nat) (xs : List Int) : Prop :=
  l = xs.length ∧ (xs = [] ∨ ∃ i w, a = some ⟨i, 0, none⟩ ∧ i < H.next ∧ H.get i = some (.cells w 1 (xs.map I)))

theorem kinds_ok {x : Int} (hR : ∀ H' a l, Frm [] H H' → Ints H' a l (kindD x).does → R (.tuple #[.agg #[I (kindD x).words, .bool (kindD x).buckets, .bool (kindD x).nested, .slice a l 0, .bool (kindD x).bucketed], .bool (kindOf x).isSome]) H') :
    CA en F.decl_kinds [I x] H R := by
  apply vc_decl_kinds
  refine nwH_in fun i1 H2 e1 h2 => nwH_in fun i3 H4 e3 h4 => nwH_in fun i5 H6 e5 h6 => nwH_in fun i7 H8 e7 h8 => ?_
  have g8 : H8.get i1 = some (.cells true 0 [I 0, .bool false, .bool false, .slice none 0 0, .bool false]) ∧ H8.get i3 = some (.cells true 1 [I 1, I 2, I 4]) ∧ H8.get i5 = some (.cells true 1 [I 6, I 7, I 8]) ∧ H8.get i7 = some (.cells true 1 [I 3, I 5]) ∧ H8.next = H.next + 4 ∧ i1 = H.next ∧ i3 = H.next + 1 ∧ i5 = H.next + 2 ∧ i7 = H.next + 3 := by
    subst_vars
    simp only [get_new, next_new]
    refine ⟨?_, ?_, ?_, ?_, ?_, ?_, ?_, ?_, ?_⟩ <;> first | trivial | omega | ((repeat (first | rw [if_pos trivial] | rw [if_pos rfl] | rw [if_neg (by omega)])); try (first | rfl | assumption))
  have f8 : Frm [] H H8 := by subst_vars; exact ((((Frm.refl _ _).new _).new _).new _).new _
  clear e1 h2 e3 h4 e5 h6 e7 h8
  obtain ⟨g1, g3, g5, g7, n8, i1e, i3e, i5e, i7e⟩ := g8
  refine ⟨[I 1, I 2, I 4], by simp [rowOf, firstCellsA, g3, takeAt], ?_⟩
  refine apd_grow (old := [I 3, I 5]) g7 (by decide) (by decide) rfl (by decide) fun j H11 ej hj => ?_
  refine nwH_in fun i12 H13 e12 h13 => ?_
  have g13 : H13.get i1 = some (.cells true 0 [I 0, .bool false, .bool false, .slice none 0 0, .bool false]) ∧ H13.get i3 = some (.cells true 1 [I 1, I 2, I 4]) ∧ H13.get i5 = some (.cells true 1 [I 6, I 7, I 8]) ∧ H13.get j = some (.cells true 1 [I 3, I 5, I 1, I 2, I 4]) ∧ H13.get i12 = some (.cells true 1 [I 3]) ∧ H13.next = H.next + 6 ∧ j = H.next + 4 ∧ i12 = H.next + 5 := by
    subst e12 h13 ej hj
    simp only [get_new, get_set, next_new, next_set]
    refine ⟨?_, ?_, ?_, ?_, ?_, by omega, by omega, by omega⟩ <;> (first | trivial | omega | ((repeat (first | rw [if_pos trivial] | rw [if_pos rfl] | rw [if_neg (by omega)])); try (first | rfl | assumption)))
  have f13 : Frm [] H H13 := by subst e12 h13 ej hj; exact ((f8.set _ (by right; omega)).new _).new _
  clear e12 h13 ej hj g1 g3 g5 g7
  obtain ⟨g1, g3, g5, gj, g12, n13, je, i12e⟩ := g13
  refine ⟨[I 1, I 2, I 4], by simp [rowOf, firstCellsA, g3, takeAt], ?_⟩
  refine apd_grow (old := [I 3]) g12 (by decide) (by decide) rfl (by decide) fun q H16 eq hq => ?_
  refine nwH_in fun i17 H18 e17 h18 => nwH_in fun i19 H20 e19 h20 => ?_
  have g20 : H20.get i1 = some (.cells true 0 [I 0, .bool false, .bool false, .slice none 0 0, .bool false]) ∧ H20.get i3 = some (.cells true 1 [I 1, I 2, I 4]) ∧ H20.get i5 = some (.cells true 1 [I 6, I 7, I 8]) ∧ H20.get j = some (.cells true 1 [I 3, I 5, I 1, I 2, I 4]) ∧ H20.get q = some (.cells true 1 [I 3, I 1, I 2, I 4]) ∧ H20.get i17 = some (.cells true 1 [I 6, I 8]) ∧ (∃ c, H20.get i19 = some (.cells true 0 c) ∧ c.length = 55) ∧ H20.next = H.next + 9 ∧ q = H.next + 6 ∧ i17 = H.next + 7 ∧ i19 = H.next + 8 := by
    subst e17 h18 e19 h20 eq hq
    simp only [get_new, get_set, next_new, next_set]
    refine ⟨?_, ?_, ?_, ?_, ?_, ?_, ⟨_, if_pos trivial, rfl⟩, by omega, by omega, by omega, by omega⟩ <;> (first | trivial | omega | ((repeat (first | rw [if_pos trivial] | rw [if_pos rfl] | rw [if_neg (by omega)])); try (first | rfl | assumption)))
  have f20 : Frm [] H H20 := by subst e17 h18 e19 h20 eq hq; exact (((f13.set _ (by right; omega)).new _).new _).new _
  clear e17 h18 e19 h20 eq hq g1 g3 g5 gj g12
  obtain ⟨g1, g3, g5, gj, gq, g17, ⟨c, g19, hc⟩, n20, qe, i17e, i19e⟩ := g20
  refine stc_of' g19 (by rw [hc]; exact Nat.le_refl _) fun H23 e23 => ?_
  have hset : ∀ vs : List Value, vs.length = 55 → setAt c 0 vs = vs := by
    intro vs hv
    have key : ∀ (vs c pre : List Value), vs.length = c.length → setAt (pre ++ c) pre.length vs = pre ++ vs := by
      intro vs
      induction vs with
      | nil => intro c pre h; cases c with | nil => simp [setAt] | cons => simp at h
      | cons v vs ih =>
        intro c pre h
        cases c with
        | nil => simp at h
        | cons x c =>
          simp only [setAt]
          rw [List.set_append_right _ _ (Nat.le_refl _), Nat.sub_self, List.set_cons_zero]
          have := ih c (pre ++ [v]) (by simpa using h)
          simpa using this
    have := key vs c [] (by omega)
    simpa using this
  rw [hset _ rfl] at e23
  have t19 := (congrArg (fun h : Heap => h.get i19) e23).trans (get_set_self _ _ _)
  have f23 : Frm [] H H23 := by rw [e23]; exact f20.set _ (by right; omega)
  have n23 : H23.next = H.next + 9 := by rw [e23, next_set]; exact n20
  have s1 : H23.get i1 = some (.cells true 0 [I 0, .bool false, .bool false, .slice none 0 0, .bool false]) := by rw [e23, get_set_ne (by omega)]; exact g1
  have s3 : H23.get i3 = some (.cells true 1 [I 1, I 2, I 4]) := by rw [e23, get_set_ne (by omega)]; exact g3
  have s5 : H23.get i5 = some (.cells true 1 [I 6, I 7, I 8]) := by rw [e23, get_set_ne (by omega)]; exact g5
  have sj : H23.get j = some (.cells true 1 [I 3, I 5, I 1, I 2, I 4]) := by rw [e23, get_set_ne (by omega)]; exact gj
  have sq : H23.get q = some (.cells true 1 [I 3, I 1, I 2, I 4]) := by rw [e23, get_set_ne (by omega)]; exact gq
  have s17 : H23.get i17 = some (.cells true 1 [I 6, I 8]) := by rw [e23, get_set_ne (by omega)]; exact g17
  clear e23 g1 g3 g5 gj gq g17 g19
  have none1 : kindOf x = none → stc H23 i1 0 [I 0, .bool false, .bool false, .slice none 0 0, .bool false] fun H24 => ∃ n25 b26 b27 a28 i29 b30, H24.cellsAt i1 0 5 = some [I n25, .bool b26, .bool b27, .slice a28 i29 0, .bool b30] ∧ R (.tuple #[.agg #[I n25, .bool b26, .bool b27, .slice a28 i29 0, .bool b30], .bool false]) H24 := by
    intro hk
    refine stc_of' s1 (by decide) fun H24 e24 => ?_
    have hD : kindD x = ⟨0, false, false, [], false⟩ := by unfold kindD; rw [hk]; rfl
    have := hR H24 none 0 (by rw [e24]; exact f23.set _ (by right; omega)) (by rw [hD]; exact ⟨rfl, .inl rfl⟩)
    rw [hD, hk] at this
    exact ⟨0, false, false, none, 0, false, by rw [e24, cellsAt_of (get_set_self _ _ _)]; rfl, this⟩
  have some1 : ∀ (K : Kind) (a : Option Addr) (i : Nat) (b : Bool), kindOf x = some K → a = some ⟨i, 0, none⟩ → i ≠ i1 → i < H.next + 9 → H23.get i = some (.cells b 1 (K.does.map I)) → ∀ l, l = K.does.length →
      H23.cellsAt i19 (0 + x.toNat * 5) 5 = some [I K.words, .bool K.buckets, .bool K.nested, .slice a l 0, .bool K.bucketed] →
      ∃ n38 b39 b40 a41 i42 b43, H23.cellsAt i19 (0 + x.toNat * 5) 5 = some [I n38, .bool b39, .bool b40, .slice a41 i42 0, .bool b43] ∧
        stc H23 i1 0 [I n38, .bool b39, .bool b40, .slice a41 i42 0, .bool b43] fun H44 => ∃ n45 b46 b47 a48 i49 b50, H44.cellsAt i1 0 5 = some [I n45, .bool b46, .bool b47, .slice a48 i49 0, .bool b50] ∧
          R (.tuple #[.agg #[I n45, .bool b46, .bool b47, .slice a48 i49 0, .bool b50], .bool true]) H44 := by
    intro K a i b hk ha hne hlt hg l hl hcell
    refine ⟨_, _, _, _, _, _, hcell, ?_⟩
    refine stc_of' s1 (Nat.le_refl _) fun H44 e44 => ?_
    have hD : kindD x = K := by unfold kindD; rw [hk]; rfl
    have := hR H44 a l (by rw [e44]; exact f23.set _ (by right; omega)) (by rw [hD]; exact ⟨hl, .inr ⟨i, b, ha, by rw [e44, next_set]; omega, by rw [e44, get_set_ne hne]; exact hg⟩⟩)
    rw [hD, hk] at this
    exact ⟨K.words, K.buckets, K.nested, a, l, K.bucketed, by rw [e44, cellsAt_of (get_set_self _ _ _)]; rfl, this⟩
  refine cond_of (fun h => none1 ?_) fun h => cond_of (fun h' => none1 ?_) fun h' => ⟨?_, ?_⟩
  · simp only [decide_eq_true_eq] at h
    unfold kindOf
    repeat rw [if_neg (by omega)]
  · simp only [decide_eq_true_eq, ge_iff_le] at h'
    unfold kindOf
    repeat rw [if_neg (by omega)]
  · simp only [decide_eq_false_iff_not, ge_iff_le] at h h'
    exact ⟨by omega, by omega⟩
  · simp only [decide_eq_false_iff_not, ge_iff_le] at h h'
    have hx : x = 1 ∨ x = 2 ∨ x = 3 ∨ x = 4 ∨ x = 5 ∨ x = 6 ∨ x = 7 ∨ x = 8 ∨ x = 9 ∨ x = 10 := by omega
    rcases hx with rfl | rfl | rfl | rfl | rfl | rfl | rfl | rfl | rfl | rfl
    · exact some1 ⟨1, false, false, [1, 2, 4], false⟩ _ i3 true rfl rfl (by omega) (by omega) s3 _ rfl (by rw [cellsAt_of t19]; rfl)
    · exact some1 ⟨1, false, false, [1, 2, 4], false⟩ _ i3 true rfl rfl (by omega) (by omega) s3 _ rfl (by rw [cellsAt_of t19]; rfl)
    · exact some1 ⟨4, false, false, [1, 2, 4], false⟩ _ i3 true rfl rfl (by omega) (by omega) s3 _ rfl (by rw [cellsAt_of t19]; rfl)
    · exact some1 ⟨1, true, false, [3, 5, 1, 2, 4], true⟩ _ j true rfl rfl (by omega) (by omega) sj _ rfl (by rw [cellsAt_of t19]; rfl)
    · exact some1 ⟨1, false, false, [3, 5, 1, 2, 4], false⟩ _ j true rfl rfl (by omega) (by omega) sj _ rfl (by rw [cellsAt_of t19]; rfl)
    · exact some1 ⟨4, false, false, [6, 7, 8], false⟩ _ i5 true rfl rfl (by omega) (by omega) s5 _ rfl (by rw [cellsAt_of t19]; rfl)
    · exact some1 ⟨4, false, false, [6, 7, 8], false⟩ _ i5 true rfl rfl (by omega) (by omega) s5 _ rfl (by rw [cellsAt_of t19]; rfl)
    · exact some1 ⟨1, true, false, [6, 8], false⟩ _ i17 true rfl rfl (by omega) (by omega) s17 _ rfl (by rw [cellsAt_of t19]; rfl)
    · exact some1 ⟨1, false, true, [3, 1, 2, 4], false⟩ _ q true rfl rfl (by omega) (by omega) sq _ rfl (by rw [cellsAt_of t19]; rfl)
    · exact some1 ⟨1, true, true, [3, 1, 2, 4], true⟩ _ q true rfl rfl (by omega) (by omega) sq _ rfl (by rw [cellsAt_of t19]; rfl)

/-! ### The order of keys -/
def ahd (k n : Int) (a b : BitVec 64) : Bool :=
  let m := if (kindD k).bucketed then n else 0
  if bkt a m ≠ bkt b m then decide (bkt a m < bkt b m) else decide ((a.toNat : Int) < (b.toNat : Int))

structure Dc where
  kind : Int
  entries : Int
  words : Int
  buckets : Int
  inner : Int

abbrev Dc.cells (d : Dc) : List Value := [I d.kind, I d.entries, I d.words, I d.buckets, I d.inner]
abbrev Dc.val (d : Dc) : Value := .agg #[I d.kind, I d.entries, I d.words, I d.buckets, I d.inner]

end Go.Proofs.YtjggeoghlicmdaaGreat

/-
  'crossbarlaw07.DeclBits' returns true: a key has from one to three bits.
-/
namespace Go.Proofs.YtjggeoghlicmdaaGreat
open Go Go.AS Go.RowKit
set_option linter.unusedVariables false
variable {H : Heap} {R : Value → Heap → Prop}

def blm (k : BitVec 64) : BitVec 64 := k * 14029467366897019727#64
def pos1 (k : BitVec 64) : Nat := (blm k).toNat / 288230376151711744
def pos2 (k : BitVec 64) : Nat := (blm k).toNat / 4503599627370496 % 64
def pos3 (k : BitVec 64) : Nat := (blm k).toNat / 70368744177664 % 64
def bitsOf (k : BitVec 64) : BitVec 64 := BitVec.twoPow 64 (pos1 k) ||| BitVec.twoPow 64 (pos2 k) ||| BitVec.twoPow 64 (pos3 k)

theorem pos_lt (k : BitVec 64) : pos1 k < 64 ∧ pos2 k < 64 ∧ pos3 k < 64 := by
  have := (blm k).isLt
  unfold pos1 pos2 pos3
  omega

theorem shl_pow {p : Nat} (hp : p < 64) : IntKind.u64.wrap (1 * 2 ^ min p 64) = ((BitVec.twoPow 64 p).toNat : Int) := by
  rw [Nat.min_eq_left (by omega), Int.one_mul, wrap_u64]
  congr 2
  apply BitVec.eq_of_toNat_eq
  rw [BitVec.toNat_twoPow]
  have : ((2:Int) ^ p) = ((2 ^ p : Nat) : Int) := by simp
  rw [this, BitVec.ofInt_natCast, BitVec.toNat_ofNat]

theorem and63 (a : Nat) (h : a < 18446744073709551616) : (BitVec.ofInt 64 (a : Int) &&& BitVec.ofInt 64 63).toNat = a % 64 := by
  have e1 : BitVec.ofInt 64 (a : Int) = BitVec.ofNat 64 a := BitVec.ofInt_natCast ..
  have e2 : BitVec.ofInt 64 63 = BitVec.ofNat 64 63 := rfl
  rw [e1, e2, BitVec.toNat_and, BitVec.toNat_ofNat, BitVec.toNat_ofNat, Nat.mod_eq_of_lt (by omega)]
  exact Nat.and_two_pow_sub_one_eq_mod a 6

theorem blm_wrap (k : BitVec 64) : IntKind.u64.wrap ((k.toNat : Int) * 14029467366897019727) = ((blm k).toNat : Int) := by
  have e := mul_wrap k 14029467366897019727 (by decide)
  rw [show ((k.toNat : Int) * 14029467366897019727) = ((k.toNat : Int) * ((14029467366897019727 : Nat) : Int)) from rfl, e]
  rfl
theorem blm_pos1 (k : BitVec 64) : ((blm k).toNat : Int).fdiv 288230376151711744 = (pos1 k : Int) := by
  rw [Int.fdiv_eq_ediv_of_nonneg _ (by decide)]
  unfold pos1
  generalize (blm k).toNat = a
  omega
theorem blm_pos (a : Nat) (ha : a < 18446744073709551616) (d : Nat) : IntKind.u64.wrap (((BitVec.ofInt 64 ((a : Int).fdiv (d : Int)) &&& BitVec.ofInt 64 63).toNat : Nat) : Int) = ((a / d % 64 : Nat) : Int) := by
  rw [Int.fdiv_eq_ediv_of_nonneg _ (by omega), ← Int.natCast_ediv]
  have := Nat.div_le_self a d
  rw [and63 _ (by omega)]
  have := Nat.mod_lt (a / d) (show 64 > 0 by decide)
  rw [u64_self (by omega) (by omega)]
theorem blm_pos2 (k : BitVec 64) : IntKind.u64.wrap (((BitVec.ofInt 64 (((blm k).toNat : Int).fdiv 4503599627370496) &&& BitVec.ofInt 64 63).toNat : Nat) : Int) = (pos2 k : Int) :=
  blm_pos _ (blm k).isLt 4503599627370496
theorem blm_pos3 (k : BitVec 64) : IntKind.u64.wrap (((BitVec.ofInt 64 (((blm k).toNat : Int).fdiv 70368744177664) &&& BitVec.ofInt 64 63).toNat : Nat) : Int) = (pos3 k : Int) :=
  blm_pos _ (blm k).isLt 70368744177664

/-! ### How many -/
def hit (k : BitVec 64) (j : Nat) : Bool := decide (pos1 k = j) || decide (pos2 k = j) || decide (pos3 k = j)
def cnt (k : BitVec 64) : Nat → Nat
  | 0 => 0
  | i + 1 => cnt k i + if hit k i then 1 else 0

theorem cnt_le (k : BitVec 64) : ∀ i, cnt k i ≤ (if pos1 k < i then 1 else 0) + (if pos2 k < i then 1 else 0) + (if pos3 k < i then 1 else 0)
  | 0 => by simp [cnt]
  | i + 1 => by
    have ih := cnt_le k i
    unfold cnt
    by_cases h : hit k i = true
    · rw [if_pos h]
      simp only [hit, Bool.or_eq_true, decide_eq_true_eq] at h
      rcases h with (h | h) | h <;> (repeat' split at ih) <;> (repeat' split) <;> omega
    · rw [if_neg h]
      (repeat' split at ih) <;> (repeat' split) <;> omega
theorem cnt_pos (k : BitVec 64) : ∀ i, pos1 k < i → 1 ≤ cnt k i
  | 0, h => by omega
  | i + 1, h => by
    unfold cnt
    by_cases e : pos1 k = i
    · have : hit k i = true := by simp [hit, e]
      rw [if_pos this]; omega
    · have := cnt_pos k i (by omega)
      omega

theorem bit_at (k : BitVec 64) {i : Nat} (hi : i < 64) : ((((bitsOf k).toNat : Int).fdiv (2 ^ min i 64)).tmod 2 == 1) = hit k i := by
  have e1 : ((bitsOf k).toNat : Int).fdiv (2 ^ min i 64) = (((bitsOf k).toNat / 2 ^ i : Nat) : Int) := by
    rw [Nat.min_eq_left (by omega), Int.fdiv_eq_ediv_of_nonneg _ (Int.pow_nonneg (by decide))]
    simp
  rw [e1, Int.tmod_eq_emod_of_nonneg (Int.natCast_nonneg _)]
  have e2 : (bitsOf k).getLsbD i = hit k i := by
    have p := pos_lt k
    unfold bitsOf hit
    simp [BitVec.getLsbD_or, BitVec.getLsbD_twoPow, p.1, p.2.1, p.2.2]
  rw [← e2]
  unfold BitVec.getLsbD
  rw [Nat.testBit_eq_decide_div_mod_eq, Bool.eq_iff_iff]
  simp only [beq_iff_eq, decide_eq_true_eq]
  omega

end Go.Proofs.YtjggeoghlicmdaaGreat

/-
  What the document answers about maps: what its functions do.
-/
namespace Go.Proofs.YtjggeoghlicmdaaGreat
open Go Go.AS Go.RowKit
set_option linter.unusedVariables false
variable {H : Heap} {R : Value → Heap → Prop}

/-! ### What the document answers -/
theorem RBucket_ok {k : BitVec 64} {n : Int} (hn : n < 9223372036854775808) (hR : R (I (bkt k n)) H) : CA en F.crossbarref07_Bucket [W k, I n] H R := by
  apply vc_crossbarref07_Bucket
  by_cases h : n < 1
  · refine cond_yes (by simpa using h) ?_
    have : bkt k n = 0 := by unfold bkt; rw [if_pos h]
    rw [this] at hR
    exact hR
  · refine cond_no (by simpa using h) ⟨by unfold nz; decide, ?_, ?_⟩
    · rw [u64_self (by omega) (by omega)]; unfold nz; omega
    · rw [u64_self (n := n) (by omega) (by omega)]
      have e := mul_wrap k 11400714819323198485 (by decide)
      rw [show ((k.toNat : Int) * 11400714819323198485) = ((k.toNat : Int) * ((11400714819323198485 : Nat) : Int)) from rfl, e]
      have e2 : ((((k * BitVec.ofNat 64 11400714819323198485).toNat : Nat) : Int).tdiv 4294967296) = (hsh k : Int) := by
        unfold hsh
        rw [Int.tdiv_eq_ediv_of_nonneg (Int.natCast_nonneg _)]
        rfl
      have hb := hsh_lt k
      rw [e2, u64_self (n := (hsh k : Int)) (by omega) (by omega), Int.tmod_eq_emod_of_nonneg (by omega)]
      have e3 : (hsh k : Int) % n = ((hsh k % n.toNat : Nat) : Int) := by rw [Int.natCast_emod, Int.toNat_of_nonneg (by omega)]
      have e4 := Nat.mod_le (hsh k) n.toNat
      have h1 : (hsh k : Int) % n < 4294967296 := by omega
      have h2 : 0 ≤ (hsh k : Int) % n := Int.emod_nonneg _ (by omega)
      rw [wrap_i64 (by omega)]
      have : bkt k n = (hsh k : Int) % n := by unfold bkt; rw [if_neg h]
      rw [this] at hR
      exact hR

theorem bucketed_iff (k : Int) : (kindD k).bucketed = (k == 4 || k == 10) := by
  by_cases h : 1 ≤ k ∧ k ≤ 10
  · have hx : k = 1 ∨ k = 2 ∨ k = 3 ∨ k = 4 ∨ k = 5 ∨ k = 6 ∨ k = 7 ∨ k = 8 ∨ k = 9 ∨ k = 10 := by omega
    rcases hx with rfl | rfl | rfl | rfl | rfl | rfl | rfl | rfl | rfl | rfl <;> rfl
  · have e : kindOf k = none := by
      unfold kindOf
      repeat rw [if_neg (by omega)]
    have e2 : (k == 4 || k == 10) = false := by simp; omega
    rw [e2]; unfold kindD; rw [e]; rfl

theorem bkt_zero (k : BitVec 64) : bkt k 0 = 0 := rfl

theorem RAhead_ok {d : Dc} {a b : BitVec 64} (hn : d.buckets < 9223372036854775808) (hR : ∀ H', Frm [] H H' → R (.bool (ahd d.kind d.buckets a b)) H') : CA en F.crossbarref07_Ahead [d.val, W a, W b] H R := by
  apply vc_crossbarref07_Ahead
  refine nwH_in fun i1 H2 e1 h2 => ?_
  have g2 : H2.get i1 = some (.cells true 0 d.cells) := by subst e1 h2; exact get_new_self _ _
  have f2 : Frm [] H H2 := by subst h2; exact (Frm.refl _ _).new _
  clear e1 h2
  have this := hR H2 f2
  unfold ahd at this
  rw [bucketed_iff] at this
  have fin : (d.kind == 4 || d.kind == 10) = true → cond (bkt a d.buckets != bkt b d.buckets) (R (.bool (decide (bkt a d.buckets < bkt b d.buckets))) H2) (R (.bool (decide ((a.toNat : Int) < (b.toNat : Int)))) H2) := by
    intro hk
    rw [hk] at this
    simp only [if_true] at this
    refine cond_of (fun h => ?_) fun h => ?_
    · rw [bne_iff_ne] at h
      rw [if_pos h] at this
      exact this
    · rw [bne_eq_false_iff_eq] at h
      rw [if_neg (by simpa using h)] at this
      exact this
  refine ⟨d.kind, by rw [cell_of g2]; rfl, cond_of (fun h => ?_) fun h => ?_⟩
  · exact ⟨d.buckets, by rw [cell_of g2]; rfl, RBucket_ok hn ⟨_, rfl, d.buckets, by rw [cell_of g2]; rfl, RBucket_ok hn ⟨_, rfl, fin (by rw [h]; rfl)⟩⟩⟩
  · refine ⟨d.kind, by rw [cell_of g2]; rfl, cond_of (fun h' => ?_) fun h' => ?_⟩
    · exact ⟨d.buckets, by rw [cell_of g2]; rfl, RBucket_ok hn ⟨_, rfl, d.buckets, by rw [cell_of g2]; rfl, RBucket_ok hn ⟨_, rfl, fin (by rw [h']; simp)⟩⟩⟩
    · rw [h, h'] at this
      simpa [bkt_zero] using this

/-! bits -/
def acc (k : BitVec 64) : Nat → BitVec 64
  | 0 => 0#64
  | j + 1 => if hit k j then acc k j + BitVec.twoPow 64 j else acc k j

theorem acc_bit (k : BitVec 64) : ∀ j, j ≤ 64 → ∀ i, i < 64 → (acc k j).getLsbD i = (decide (i < j) && hit k i)
  | 0, _, i, _ => by simp [acc]
  | j + 1, hj, i, hi => by
    have ih := acc_bit k j (by omega)
    unfold acc
    by_cases h : hit k j = true
    · rw [if_pos h, BitVec.add_eq_or_of_and_eq_zero, BitVec.getLsbD_or, ih i hi, BitVec.getLsbD_twoPow]
      · by_cases e : i = j
        · subst e; simp [h, hi]
        · have : decide (i < j + 1) = decide (i < j) := by rw [Bool.eq_iff_iff]; simp; omega
          rw [this]; simp [Ne.symm e]
      · apply BitVec.eq_of_getLsbD_eq
        intro m hm
        rw [BitVec.getLsbD_and, ih m hm, BitVec.getLsbD_twoPow]
        by_cases e : j = m
        · subst e; simp
        · simp [e]
    · rw [if_neg h, ih i hi]
      by_cases e : i = j
      · subst e; simp [h]
      · have : decide (i < j + 1) = decide (i < j) := by rw [Bool.eq_iff_iff]; simp; omega
        rw [this]

theorem acc_all (k : BitVec 64) : acc k 64 = bitsOf k := by
  apply BitVec.eq_of_getLsbD_eq
  intro i hi
  rw [acc_bit k 64 (Nat.le_refl _) i hi]
  have p := pos_lt k
  unfold bitsOf hit
  have c : ∀ a b : Nat, decide (a = b) = decide (b = a) := fun a b => decide_eq_decide.2 eq_comm
  simp [BitVec.getLsbD_or, BitVec.getLsbD_twoPow, p.1, p.2.1, p.2.2, hi]
  rw [c (pos1 k), c (pos2 k), c (pos3 k)]

theorem acc_wrap (a b : BitVec 64) : IntKind.u64.wrap ((a.toNat : Int) + (b.toNat : Int)) = (((a + b).toNat : Nat) : Int) := by
  rw [wrap_u64, BitVec.ofInt_add, ofInt_bv, ofInt_bv]

theorem rem_pos2 (k : BitVec 64) : (((blm k).toNat : Int).fdiv 4503599627370496).tmod 64 = (pos2 k : Int) := by
  unfold pos2
  generalize (blm k).toNat = a
  rw [Int.fdiv_eq_ediv_of_nonneg _ (by decide), Int.tmod_eq_emod_of_nonneg (by omega)]
  omega
theorem rem_pos3 (k : BitVec 64) : (((blm k).toNat : Int).fdiv 70368744177664).tmod 64 = (pos3 k : Int) := by
  unfold pos3
  generalize (blm k).toNat = a
  rw [Int.fdiv_eq_ediv_of_nonneg _ (by decide), Int.tmod_eq_emod_of_nonneg (by omega)]
  omega

theorem RBloom_ok {k : BitVec 64} {n : Int} (hn : n < 9223372036854775808) (hR : R (.tuple #[I (bkt k n), W (bitsOf k)]) H) : CA en F.crossbarref07_Bloom [W k, I n] H R := by
  apply vc_crossbarref07_Bloom
  rw [blm_wrap]
  refine use_crossbarref07_Bloom_0 (fun m b i H' => ∃ j : Nat, j ≤ 64 ∧ m = 64 - j ∧ i = (j : Int) ∧ b = ((acc k j).toNat : Int) ∧ H' = H) 64 ⟨0, by omega, rfl, rfl, rfl, rfl⟩ ?_
  rintro m b i ys H' ⟨j, hj, rfl, rfl, rfl, rfl⟩
  refine cond_of (fun h => ?_) fun h => ?_
  · simp only [decide_eq_true_eq] at h
    have hj' : j < 64 := by omega
    rw [u64_self (n := (j : Int)) (by omega) (by omega), wrap_i64 (n := (j : Int) + 1) (by omega), blm_pos1, rem_pos2, rem_pos3]
    rw [Int.toNat_natCast, shl_pow hj', acc_wrap]
    have yes : hit k j = true → ∃ i1, i1 < 64 - j ∧ ∃ j' : Nat, j' ≤ 64 ∧ i1 = 64 - j' ∧ (j : Int) + 1 = (j' : Int) ∧ (((acc k j + BitVec.twoPow 64 j).toNat : Nat) : Int) = ((acc k j').toNat : Int) ∧ H' = H' :=
      fun hh => ⟨64 - (j + 1), by omega, j + 1, by omega, rfl, by omega, by simp [acc, hh], rfl⟩
    have no : hit k j = false → ∃ i1, i1 < 64 - j ∧ ∃ j' : Nat, j' ≤ 64 ∧ i1 = 64 - j' ∧ (j : Int) + 1 = (j' : Int) ∧ (((acc k j).toNat : Nat) : Int) = ((acc k j').toNat : Int) ∧ H' = H' :=
      fun hh => ⟨64 - (j + 1), by omega, j + 1, by omega, rfl, by omega, by simp [acc, hh], rfl⟩
    have hnn : nn (j : Int) := by unfold nn; omega
    refine ⟨by unfold nn; decide, cond_of (fun h1 => ⟨hnn, yes ?_⟩) fun h1 => ⟨by unfold nn; decide, by unfold nz; decide, cond_of (fun h2 => ⟨hnn, yes ?_⟩) fun h2 => ⟨by unfold nn; decide, by unfold nz; decide, cond_of (fun h3 => ⟨hnn, yes ?_⟩) fun h3 => no ?_⟩⟩⟩
    · simp only [beq_iff_eq] at h1
      simp [hit, show pos1 k = j by omega]
    · simp only [beq_iff_eq] at h2
      simp [hit, show pos2 k = j by omega]
    · simp only [beq_iff_eq] at h3
      simp [hit, show pos3 k = j by omega]
    · simp only [beq_eq_false_iff_ne, ne_eq] at h1 h2 h3
      simp [hit, show pos1 k ≠ j by omega, show pos2 k ≠ j by omega, show pos3 k ≠ j by omega]
  · simp only [decide_eq_false_iff_not] at h
    obtain rfl : j = 64 := by omega
    simp only [List.getD_cons_succ, List.getD_cons_zero, asInt_int]
    rw [acc_all]
    exact RBucket_ok hn ⟨_, rfl, hR⟩
end Go.Proofs.YtjggeoghlicmdaaGreat

/-
  'crossbarlaw07.DeclTells' returns true: each call about two maps, two keys and a number answers what the document says.
-/
namespace Go.Proofs.YtjggeoghlicmdaaGreat
open Go Go.AS Go.RowKit
set_option linter.unusedVariables false
variable {H : Heap} {R : Value → Heap → Prop}

/-! ### A row has a number -/
/-! ### What operations a kind may have -/
theorem does_len (x : Int) : (kindD x).does.length < 9223372036854775807 := by
  unfold kindD kindOf
  repeat (first | decide | (split))

theorem may_none {x : Int} (h : (kindOf x).isSome = false) : (kindD x).does = [] := by
  unfold kindD
  cases e : kindOf x with
  | none => rfl
  | some k => rw [e] at h; cases h

theorem Nested_ok {x : Int} (hR : R (.bool (x == 9 || x == 10)) H) : CA en F.crossbarref07_Nested [I x] H R := by
  apply vc_crossbarref07_Nested
  refine cond_of (fun h => ?_) fun h => ?_
  · rw [h] at hR; exact hR
  · rw [h] at hR; exact hR

theorem RMay_ok {x op : Int} (hR : R (.bool (decide (op ∈ (kindD x).does))) H) : CA en F.crossbarref07_May [I x, I op] H R := by
  apply vc_crossbarref07_May
  have hop : op = 1 ∨ op = 2 ∨ op = 3 ∨ op = 4 ∨ op = 5 ∨ op = 6 ∨ op = 7 ∨ op = 8 ∨ ((op == 1) = false ∧ (op == 2) = false ∧ (op == 3) = false ∧ (op == 4) = false ∧ (op == 5) = false ∧ (op == 6) = false ∧ (op == 7) = false ∧ (op == 8) = false) := by
    simp only [beq_eq_false_iff_ne, ne_eq]; omega
  by_cases h : 1 ≤ x ∧ x ≤ 10
  · have hx : x = 1 ∨ x = 2 ∨ x = 3 ∨ x = 4 ∨ x = 5 ∨ x = 6 ∨ x = 7 ∨ x = 8 ∨ x = 9 ∨ x = 10 := by omega
    rcases hx with rfl | rfl | rfl | rfl | rfl | rfl | rfl | rfl | rfl | rfl <;> clear h <;> simp only [Int.reduceBEq, cond_true, cond_false]
    all_goals
      rcases hop with rfl | rfl | rfl | rfl | rfl | rfl | rfl | rfl | ⟨h1, h2, h3, h4, h5, h6, h7, h8⟩
      all_goals first
        | (simp only [Int.reduceBEq, cond_true, cond_false]; first | exact hR | exact Nested_ok ⟨_, rfl, hR⟩ | exact Nested_ok hR)
        | (simp only [h1, h2, h3, h4, h5, h6, h7, h8, cond_false]
           simp only [beq_eq_false_iff_ne, ne_eq] at h1 h2 h3 h4 h5 h6 h7 h8
           have e : ∀ xs : List Int, (∀ y ∈ xs, y = 1 ∨ y = 2 ∨ y = 3 ∨ y = 4 ∨ y = 5 ∨ y = 6 ∨ y = 7 ∨ y = 8) → decide (op ∈ xs) = false := by
             intro xs hxs
             rw [decide_eq_false_iff_not]
             intro hm
             have := hxs op hm
             omega
           rw [e _ (by decide)] at hR
           exact hR)
  · have e : kindOf x = none := by
      unfold kindOf
      repeat rw [if_neg (by omega)]
    have e2 : decide (op ∈ (kindD x).does) = false := by unfold kindD; rw [e]; rfl
    rw [e2] at hR
    have n1 : (x == 1) = false := by rw [beq_eq_false_iff_ne]; omega
    have n2 : (x == 2) = false := by rw [beq_eq_false_iff_ne]; omega
    have n3 : (x == 3) = false := by rw [beq_eq_false_iff_ne]; omega
    have n4 : (x == 4) = false := by rw [beq_eq_false_iff_ne]; omega
    have n5 : (x == 5) = false := by rw [beq_eq_false_iff_ne]; omega
    have n6 : (x == 6) = false := by rw [beq_eq_false_iff_ne]; omega
    have n7 : (x == 7) = false := by rw [beq_eq_false_iff_ne]; omega
    have n8 : (x == 8) = false := by rw [beq_eq_false_iff_ne]; omega
    have n9 : (x == 9) = false := by rw [beq_eq_false_iff_ne]; omega
    have n10 : (x == 10) = false := by rw [beq_eq_false_iff_ne]; omega
    have ne : ∀ {R' : Value → Heap → Prop}, R' (.bool false) H → CA en F.crossbarref07_Nested [I x] H R' := fun hr => Nested_ok (by rw [n9, n10]; exact hr)
    simp only [n1, n2, n3, n4, n5, n6, n7, n8, cond_false]
    repeat' (first | exact hR | exact ne ⟨_, rfl, hR⟩ | (refine cond_of (fun _ => ?_) fun _ => ?_))

/-! ### Likeness -/
def like (d e : Dc) : Bool := d.kind == e.kind && (d.entries == e.entries && (d.words == e.words && (d.buckets == e.buckets && d.inner == e.inner)))

theorem RLike_ok {d e : Dc} (hR : ∀ H', Frm [] H H' → R (.bool (like d e)) H') : CA en F.crossbarref07_Like [d.val, e.val] H R := by
  apply vc_crossbarref07_Like
  refine nwH_in fun i1 H2 e1 h2 => nwH_in fun i3 H4 e3 h4 => ?_
  have g : H4.get i1 = some (.cells true 0 d.cells) ∧ H4.get i3 = some (.cells true 0 e.cells) := by
    subst e1 h2 e3 h4
    exact ⟨by rw [get_new_lt (by rw [next_new]; omega)]; exact get_new_self _ _, get_new_self _ _⟩
  have f : Frm [] H H4 := by subst h2 h4; exact ((Frm.refl _ _).new _).new _
  have hR := hR _ f
  unfold like at hR
  refine ⟨d.kind, by rw [cell_of g.1]; rfl, e.kind, by rw [cell_of g.2]; rfl, cond_of (fun h => ?_) fun h => by rw [h] at hR; exact hR⟩
  rw [h, Bool.true_and] at hR
  refine ⟨d.entries, by rw [cell_of g.1]; rfl, e.entries, by rw [cell_of g.2]; rfl, cond_of (fun h => ?_) fun h => by rw [h] at hR; exact hR⟩
  rw [h, Bool.true_and] at hR
  refine ⟨d.words, by rw [cell_of g.1]; rfl, e.words, by rw [cell_of g.2]; rfl, cond_of (fun h => ?_) fun h => by rw [h] at hR; exact hR⟩
  rw [h, Bool.true_and] at hR
  refine ⟨d.buckets, by rw [cell_of g.1]; rfl, e.buckets, by rw [cell_of g.2]; rfl, cond_of (fun h => ?_) fun h => by rw [h] at hR; exact hR⟩
  rw [h, Bool.true_and] at hR
  exact ⟨d.inner, by rw [cell_of g.1]; rfl, e.inner, by rw [cell_of g.2]; rfl, hR⟩

/-! ### The statement -/
end Go.Proofs.YtjggeoghlicmdaaGreat

/-
  What is wrong with a map: the code and the document answer the same (UNDER WAY).
-/
namespace Go.Proofs.YtjggeoghlicmdaaGreat
open Go Go.AS Go.RowKit
set_option linter.unusedVariables false
variable {H : Heap} {R : Value → Heap → Prop}

/-! ### Rows of maps -/
def flat (l : List Dc) : List Value := (l.map Dc.cells).flatten
def Rows (H : Heap) (a : Option Addr) (n : Nat) (l : List Dc) : Prop :=
  n = l.length ∧ (l = [] ∨ ∃ i w z, a = some ⟨i, 0, none⟩ ∧ i < H.next ∧ H.get i = some (.cells w z (flat l)))

theorem Rows.frm {H H' : Heap} {a n l} (h : Rows H a n l) (f : Frm [] H H') : Rows H' a n l := by
  refine ⟨h.1, h.2.imp_right fun ⟨i, w, z, h1, h2, h3⟩ => ⟨i, w, z, h1, ?_, ?_⟩⟩
  · have := f.1; omega
  · rw [f.2 i h2 (by simp)]; exact h3

def dc0 : Dc := ⟨0, 0, 0, 0, 0⟩
theorem flat_kind : ∀ (l : List Dc) (j : Nat), j < l.length → (flat l)[j * 5]? = some (I (l.getD j dc0).kind)
  | [], j, h => by simp at h
  | d :: l, 0, _ => rfl
  | d :: l, j + 1, h => by
    have ih := flat_kind l j (by simpa using h)
    have e : flat (d :: l) = d.cells ++ flat l := rfl
    rw [e, List.getElem?_append_right (by simp only [List.length_cons, List.length_nil]; omega)]
    have e2 : (j + 1) * 5 - d.cells.length = j * 5 := by simp only [List.length_cons, List.length_nil]; omega
    rw [e2, ih]
    simp

theorem flat_take : ∀ (l : List Dc) (j : Nat), j < l.length → takeAt (flat l) (j * 5) 5 = some (l.getD j dc0).cells
  | [], j, h => by simp at h
  | d :: l, 0, _ => rfl
  | d :: l, j + 1, h => by
    have ih := flat_take l j (by simpa using h)
    have e : flat (d :: l) = d.cells ++ flat l := rfl
    have e2 : (j + 1) * 5 = (j * 5) + 1 + 1 + 1 + 1 + 1 := by omega
    rw [e, e2]
    simpa [takeAt] using ih

/-! ### What is wrong with one -/
def pow (n : Int) : Prop := n = 1 ∨ n = 2 ∨ n = 4 ∨ n = 8 ∨ n = 16 ∨ n = 32
instance (n : Int) : Decidable (pow n) := inferInstanceAs (Decidable (n = 1 ∨ n = 2 ∨ n = 4 ∨ n = 8 ∨ n = 16 ∨ n = 32))

def chk (l : List Dc) (d : Dc) : Int :=
  if (kindOf d.kind).isSome = false then 1
  else if d.entries < 1 ∨ d.entries > 64 ∨ d.words < 1 ∨ d.words > (kindD d.kind).words then 1
  else if (kindD d.kind).buckets = true ∧ ¬ pow d.buckets ∨ (kindD d.kind).buckets = false ∧ d.buckets ≠ 0 then 1
  else if (kindD d.kind).nested = true then
    (if d.inner < 1 ∨ d.inner > (l.length : Int) then 1 else if (kindD (l.getD (d.inner - 1).toNat dc0).kind).nested = true then 14 else 0)
  else if d.inner ≠ 0 then 1 else 0

theorem Within_ok {x m : Int} (hR : R (.bool (decide (1 ≤ x ∧ x ≤ m))) H) : CA en F.decl_within [I x, I m] H R := by
  apply vc_decl_within
  refine cond_of (fun h => ?_) fun h => ?_
  · have e : decide (1 ≤ x ∧ x ≤ m) = decide (x ≤ m) := by
      simp only [decide_eq_true_eq] at h
      rw [Bool.eq_iff_iff]; simp only [decide_eq_true_eq]; omega
    rw [e] at hR; exact hR
  · have e : decide (1 ≤ x ∧ x ≤ m) = false := by
      simp only [decide_eq_false_iff_not] at h ⊢; omega
    rw [e] at hR; exact hR

theorem Ones_ok {n : Int} (h : 1 ≤ n ∧ n ≤ 32) (hR : ∀ c : Int, (c = 1 ↔ pow n) → R (I c) H) : CA en F.math_bits_OnesCount [.int .u64 (IntKind.u64.wrap n)] H R := by
  rw [u64_self (by omega) (by omega)]
  apply vc_math_bits_OnesCount
  apply vc_math_bits_OnesCount64
  have hx : n = 1 ∨ n = 2 ∨ n = 3 ∨ n = 4 ∨ n = 5 ∨ n = 6 ∨ n = 7 ∨ n = 8 ∨ n = 9 ∨ n = 10 ∨ n = 11 ∨ n = 12 ∨ n = 13 ∨ n = 14 ∨ n = 15 ∨ n = 16 ∨ n = 17 ∨ n = 18 ∨ n = 19 ∨ n = 20 ∨ n = 21 ∨ n = 22 ∨ n = 23 ∨ n = 24 ∨ n = 25 ∨ n = 26 ∨ n = 27 ∨ n = 28 ∨ n = 29 ∨ n = 30 ∨ n = 31 ∨ n = 32 := by omega
  rcases hx with rfl | rfl | rfl | rfl | rfl | rfl | rfl | rfl | rfl | rfl | rfl | rfl | rfl | rfl | rfl | rfl | rfl | rfl | rfl | rfl | rfl | rfl | rfl | rfl | rfl | rfl | rfl | rfl | rfl | rfl | rfl | rfl
  · refine ⟨by unfold nn; decide, by unfold nn; decide, by unfold nn; decide, by unfold nn; decide, by unfold nn; decide, by unfold nn; decide, ?_⟩; refine ⟨_, rfl, ?_⟩; apply turnInto (hR 1 (by decide)); kernel_rfl
  · refine ⟨by unfold nn; decide, by unfold nn; decide, by unfold nn; decide, by unfold nn; decide, by unfold nn; decide, by unfold nn; decide, ?_⟩; refine ⟨_, rfl, ?_⟩; apply turnInto (hR 1 (by decide)); kernel_rfl
  · refine ⟨by unfold nn; decide, by unfold nn; decide, by unfold nn; decide, by unfold nn; decide, by unfold nn; decide, by unfold nn; decide, ?_⟩; refine ⟨_, rfl, ?_⟩; apply turnInto (hR 2 (by decide)); kernel_rfl
  · refine ⟨by unfold nn; decide, by unfold nn; decide, by unfold nn; decide, by unfold nn; decide, by unfold nn; decide, by unfold nn; decide, ?_⟩; refine ⟨_, rfl, ?_⟩; apply turnInto (hR 1 (by decide)); kernel_rfl
  · refine ⟨by unfold nn; decide, by unfold nn; decide, by unfold nn; decide, by unfold nn; decide, by unfold nn; decide, by unfold nn; decide, ?_⟩; refine ⟨_, rfl, ?_⟩; apply turnInto (hR 2 (by decide)); kernel_rfl
  · refine ⟨by unfold nn; decide, by unfold nn; decide, by unfold nn; decide, by unfold nn; decide, by unfold nn; decide, by unfold nn; decide, ?_⟩; refine ⟨_, rfl, ?_⟩; apply turnInto (hR 2 (by decide)); kernel_rfl
  · refine ⟨by unfold nn; decide, by unfold nn; decide, by unfold nn; decide, by unfold nn; decide, by unfold nn; decide, by unfold nn; decide, ?_⟩; refine ⟨_, rfl, ?_⟩; apply turnInto (hR 3 (by decide)); kernel_rfl
  · refine ⟨by unfold nn; decide, by unfold nn; decide, by unfold nn; decide, by unfold nn; decide, by unfold nn; decide, by unfold nn; decide, ?_⟩; refine ⟨_, rfl, ?_⟩; apply turnInto (hR 1 (by decide)); kernel_rfl
  · refine ⟨by unfold nn; decide, by unfold nn; decide, by unfold nn; decide, by unfold nn; decide, by unfold nn; decide, by unfold nn; decide, ?_⟩; refine ⟨_, rfl, ?_⟩; apply turnInto (hR 2 (by decide)); kernel_rfl
  · refine ⟨by unfold nn; decide, by unfold nn; decide, by unfold nn; decide, by unfold nn; decide, by unfold nn; decide, by unfold nn; decide, ?_⟩; refine ⟨_, rfl, ?_⟩; apply turnInto (hR 2 (by decide)); kernel_rfl
  · refine ⟨by unfold nn; decide, by unfold nn; decide, by unfold nn; decide, by unfold nn; decide, by unfold nn; decide, by unfold nn; decide, ?_⟩; refine ⟨_, rfl, ?_⟩; apply turnInto (hR 3 (by decide)); kernel_rfl
  · refine ⟨by unfold nn; decide, by unfold nn; decide, by unfold nn; decide, by unfold nn; decide, by unfold nn; decide, by unfold nn; decide, ?_⟩; refine ⟨_, rfl, ?_⟩; apply turnInto (hR 2 (by decide)); kernel_rfl
  · refine ⟨by unfold nn; decide, by unfold nn; decide, by unfold nn; decide, by unfold nn; decide, by unfold nn; decide, by unfold nn; decide, ?_⟩; refine ⟨_, rfl, ?_⟩; apply turnInto (hR 3 (by decide)); kernel_rfl
  · refine ⟨by unfold nn; decide, by unfold nn; decide, by unfold nn; decide, by unfold nn; decide, by unfold nn; decide, by unfold nn; decide, ?_⟩; refine ⟨_, rfl, ?_⟩; apply turnInto (hR 3 (by decide)); kernel_rfl
  · refine ⟨by unfold nn; decide, by unfold nn; decide, by unfold nn; decide, by unfold nn; decide, by unfold nn; decide, by unfold nn; decide, ?_⟩; refine ⟨_, rfl, ?_⟩; apply turnInto (hR 4 (by decide)); kernel_rfl
  · refine ⟨by unfold nn; decide, by unfold nn; decide, by unfold nn; decide, by unfold nn; decide, by unfold nn; decide, by unfold nn; decide, ?_⟩; refine ⟨_, rfl, ?_⟩; apply turnInto (hR 1 (by decide)); kernel_rfl
  · refine ⟨by unfold nn; decide, by unfold nn; decide, by unfold nn; decide, by unfold nn; decide, by unfold nn; decide, by unfold nn; decide, ?_⟩; refine ⟨_, rfl, ?_⟩; apply turnInto (hR 2 (by decide)); kernel_rfl
  · refine ⟨by unfold nn; decide, by unfold nn; decide, by unfold nn; decide, by unfold nn; decide, by unfold nn; decide, by unfold nn; decide, ?_⟩; refine ⟨_, rfl, ?_⟩; apply turnInto (hR 2 (by decide)); kernel_rfl
  · refine ⟨by unfold nn; decide, by unfold nn; decide, by unfold nn; decide, by unfold nn; decide, by unfold nn; decide, by unfold nn; decide, ?_⟩; refine ⟨_, rfl, ?_⟩; apply turnInto (hR 3 (by decide)); kernel_rfl
  · refine ⟨by unfold nn; decide, by unfold nn; decide, by unfold nn; decide, by unfold nn; decide, by unfold nn; decide, by unfold nn; decide, ?_⟩; refine ⟨_, rfl, ?_⟩; apply turnInto (hR 2 (by decide)); kernel_rfl
  · refine ⟨by unfold nn; decide, by unfold nn; decide, by unfold nn; decide, by unfold nn; decide, by unfold nn; decide, by unfold nn; decide, ?_⟩; refine ⟨_, rfl, ?_⟩; apply turnInto (hR 3 (by decide)); kernel_rfl
  · refine ⟨by unfold nn; decide, by unfold nn; decide, by unfold nn; decide, by unfold nn; decide, by unfold nn; decide, by unfold nn; decide, ?_⟩; refine ⟨_, rfl, ?_⟩; apply turnInto (hR 3 (by decide)); kernel_rfl
  · refine ⟨by unfold nn; decide, by unfold nn; decide, by unfold nn; decide, by unfold nn; decide, by unfold nn; decide, by unfold nn; decide, ?_⟩; refine ⟨_, rfl, ?_⟩; apply turnInto (hR 4 (by decide)); kernel_rfl
  · refine ⟨by unfold nn; decide, by unfold nn; decide, by unfold nn; decide, by unfold nn; decide, by unfold nn; decide, by unfold nn; decide, ?_⟩; refine ⟨_, rfl, ?_⟩; apply turnInto (hR 2 (by decide)); kernel_rfl
  · refine ⟨by unfold nn; decide, by unfold nn; decide, by unfold nn; decide, by unfold nn; decide, by unfold nn; decide, by unfold nn; decide, ?_⟩; refine ⟨_, rfl, ?_⟩; apply turnInto (hR 3 (by decide)); kernel_rfl
  · refine ⟨by unfold nn; decide, by unfold nn; decide, by unfold nn; decide, by unfold nn; decide, by unfold nn; decide, by unfold nn; decide, ?_⟩; refine ⟨_, rfl, ?_⟩; apply turnInto (hR 3 (by decide)); kernel_rfl
  · refine ⟨by unfold nn; decide, by unfold nn; decide, by unfold nn; decide, by unfold nn; decide, by unfold nn; decide, by unfold nn; decide, ?_⟩; refine ⟨_, rfl, ?_⟩; apply turnInto (hR 4 (by decide)); kernel_rfl
  · refine ⟨by unfold nn; decide, by unfold nn; decide, by unfold nn; decide, by unfold nn; decide, by unfold nn; decide, by unfold nn; decide, ?_⟩; refine ⟨_, rfl, ?_⟩; apply turnInto (hR 3 (by decide)); kernel_rfl
  · refine ⟨by unfold nn; decide, by unfold nn; decide, by unfold nn; decide, by unfold nn; decide, by unfold nn; decide, by unfold nn; decide, ?_⟩; refine ⟨_, rfl, ?_⟩; apply turnInto (hR 4 (by decide)); kernel_rfl
  · refine ⟨by unfold nn; decide, by unfold nn; decide, by unfold nn; decide, by unfold nn; decide, by unfold nn; decide, by unfold nn; decide, ?_⟩; refine ⟨_, rfl, ?_⟩; apply turnInto (hR 4 (by decide)); kernel_rfl
  · refine ⟨by unfold nn; decide, by unfold nn; decide, by unfold nn; decide, by unfold nn; decide, by unfold nn; decide, by unfold nn; decide, ?_⟩; refine ⟨_, rfl, ?_⟩; apply turnInto (hR 5 (by decide)); kernel_rfl
  · refine ⟨by unfold nn; decide, by unfold nn; decide, by unfold nn; decide, by unfold nn; decide, by unfold nn; decide, by unfold nn; decide, ?_⟩; refine ⟨_, rfl, ?_⟩; apply turnInto (hR 1 (by decide)); kernel_rfl

theorem check_ok {a : Option Addr} {n : Nat} {l : List Dc} {d : Dc} (hr : Rows H a n l) (hl : l.length < 9223372036854775808) (hR : ∀ H', Frm [] H H' → R (I (chk l d)) H') : CA en F.decl_check [.slice a n 0, d.val] H R := by
  obtain ⟨rfl, hr⟩ := hr
  apply vc_decl_check
  refine nwH_in fun i1 H2 e1 h2 => ?_
  have g2 : H2.get i1 = some (.cells true 0 d.cells) := by subst e1 h2; exact get_new_self _ _
  have l2 : i1 < H2.next := by subst e1 h2; rw [next_new]; omega
  have f2 : Frm [] H H2 := by subst h2; exact (Frm.refl _ _).new _
  clear e1 h2
  refine ⟨d.kind, by rw [cell_of g2]; rfl, kinds_ok fun H5 al ll f5 hi => ⟨_, _, _, _, _, _, _, rfl, ?_⟩⟩
  refine nwH_in fun i13 H14 e13 h14 => ?_
  have g14 : H14.get i13 = some (.cells true 0 [I 0, .bool false, .bool false, .slice none 0 0, .bool false]) := by subst e13 h14; exact get_new_self _ _
  refine stc_of' g14 (Nat.le_refl _) fun H15 e15 => ?_
  have f15 : Frm [] H2 H15 := by
    subst e15 h14
    exact (f5.new _).set _ (by right; have := f5.1; omega)
  have g1 : H15.get i1 = some (.cells true 0 d.cells) := by rw [f15.2 _ l2 (by simp)]; exact g2
  have g13 : H15.get i13 = some (.cells true 0 [I (kindD d.kind).words, .bool (kindD d.kind).buckets, .bool (kindD d.kind).nested, .slice al ll 0, .bool (kindD d.kind).bucketed]) := by rw [e15]; exact get_set_self _ _ _
  have f : Frm [] H H15 := f2.trans f15 (by simp)
  clear e15 h14 g14 e13 hi f5 f2 g2
  have hr15 : l = [] ∨ ∃ (i : Nat) (w : Bool) (z : Nat), a = some ⟨i, 0, none⟩ ∧ i < H15.next ∧ H15.get i = some (AS.Obj.cells w z (flat l)) :=
    hr.imp_right fun ⟨i, w, z, h1, h2, h3⟩ => ⟨i, w, z, h1, Nat.lt_of_lt_of_le h2 f.1, by rw [f.2 i h2 (by simp)]; exact h3⟩
  have nested : (1 ≤ d.inner ∧ d.inner ≤ (l.length : Int)) → (∀ H', Frm [] H H' → R (I (if (kindD (l.getD (d.inner - 1).toNat dc0).kind).nested = true then 14 else 0)) H') →
      ∃ n44, H15.cell i1 4 = some (I n44) ∧ inB (IntKind.i64.wrap (n44 - 1)) l.length ∧ asRow a fun i45 i46 =>
        ∃ n47, H15.cell i45 (i46 + (IntKind.i64.wrap (n44 - 1)).toNat * 5) = some (I n47) ∧ CA en F.decl_kinds [I n47] H15 fun v48 H49 =>
          ∃ n50 b51 b52 a53 i54 b55 b56, v48 = .tuple #[.agg #[I n50, .bool b51, .bool b52, .slice a53 i54 0, .bool b55], .bool b56] ∧
            nwH H49 (.cells true 0 [I 0, .bool false, .bool false, .slice none 0 0, .bool false]) fun i57 H58 =>
              stc H58 i57 0 [I n50, .bool b51, .bool b52, .slice a53 i54 0, .bool b55] fun H59 => ∃ b60, H59.cell i57 2 = some (.bool b60) ∧ cond b60 (R (I 14) H59) (R (I 0) H59) := by
    intro hin hR
    refine ⟨d.inner, by rw [cell_of g1]; rfl, ?_⟩
    rw [wrap_i64 (by omega)]
    refine ⟨by unfold inB; omega, ?_⟩
    rcases hr15 with rfl | ⟨i, w, z, rfl, hb, hg⟩
    · simp only [List.length_nil] at hin; omega
    · rw [asRow_some]
      refine ⟨(l.getD (d.inner - 1).toNat dc0).kind, by rw [cell_of hg, Nat.zero_add]; exact flat_kind l _ (by omega), ?_⟩
      refine kinds_ok fun H49 a2 l3 f49 hi => ⟨_, _, _, _, _, _, _, rfl, ?_⟩
      refine nwH_in fun i57 H58 e57 h58 => ?_
      have g58 : H58.get i57 = some (.cells true 0 [I 0, .bool false, .bool false, .slice none 0 0, .bool false]) := by subst e57 h58; exact get_new_self _ _
      refine stc_of' g58 (Nat.le_refl _) fun H59 e59 => ?_
      have f59 : Frm [] H H59 := by
        subst e59 h58
        exact ((f.trans f49 (by simp)).new _).set _ (by right; have := f49.1; have := f.1; omega)
      refine ⟨(kindD (l.getD (d.inner - 1).toNat dc0).kind).nested, by rw [e59, cell_of (get_set_self _ _ _)]; rfl, ?_⟩
      have := hR _ f59
      refine cond_of (fun h => ?_) fun h => ?_
      · rw [if_pos h] at this; exact this
      · rw [if_neg (by rw [h]; decide)] at this; exact this
  have leaf : ∀ c, chk l d = c → R (I c) H15 := fun c e => by have := hR _ f; rw [e] at this; exact this
  have deep : ∀ c, chk l d = c → ∀ H', Frm [] H H' → R (I c) H' := fun c e H' f' => by have := hR _ f'; rw [e] at this; exact this
  clear hR hr15 hr f15 f
  cases his : (kindOf d.kind).isSome
  · exact leaf _ (by unfold chk; rw [if_pos his])
  cases hkb : (kindD d.kind).buckets <;> cases hkn : (kindD d.kind).nested <;> rw [hkb, hkn] at g13
  all_goals
    repeat' first
      | refine leaf _ ?_
      | refine Within_ok ⟨_, rfl, ?_⟩
      | refine nested ?_ (deep _ ?_)
      | refine ⟨_, by rw [cell_of g1]; rfl, ?_⟩
      | refine ⟨_, by rw [cell_of g13]; rfl, ?_⟩
      | (refine Ones_ok (by simp only [Bool.not_eq_false', decide_eq_true_eq, Bool.not_eq_false] at *; omega) fun c hc => ⟨_, rfl, ?_⟩)
      | refine cond_of (fun h => ?_) fun h => ?_
  all_goals
    clear leaf nested deep g1 g13
    try unfold chk
    try unfold pow at *
    simp only [his, hkb, hkn, Bool.not_eq_true', Bool.not_eq_false', Bool.not_eq_true, Bool.not_eq_false, decide_eq_true_eq, decide_eq_false_iff_not, bne_iff_ne, bne_eq_false_iff_eq, Bool.not_true, Bool.not_false, Bool.true_eq_false, Bool.false_eq_true, if_true, if_false, true_and, false_and, or_false, false_or, ne_eq, reduceCtorEq] at *
    try ((repeat' split) <;> omega)
end Go.Proofs.YtjggeoghlicmdaaGreat

/-
  What is wrong with a map: the document's answer (UNDER WAY).
-/
namespace Go.Proofs.YtjggeoghlicmdaaGreat
open Go Go.AS Go.RowKit
set_option linter.unusedVariables false
variable {H : Heap} {R : Value → Heap → Prop}

theorem some_eq (k : Int) : (kindOf k).isSome = decide (1 ≤ k ∧ k ≤ 10) := by
  by_cases h : 1 ≤ k ∧ k ≤ 10
  · have hx : k = 1 ∨ k = 2 ∨ k = 3 ∨ k = 4 ∨ k = 5 ∨ k = 6 ∨ k = 7 ∨ k = 8 ∨ k = 9 ∨ k = 10 := by omega
    rcases hx with rfl | rfl | rfl | rfl | rfl | rfl | rfl | rfl | rfl | rfl <;> rfl
  · have e : kindOf k = none := by
      unfold kindOf
      repeat rw [if_neg (by omega)]
    rw [e, decide_eq_false h]; rfl

theorem buckets_eq (k : Int) : (kindD k).buckets = decide (k = 4 ∨ k = 8 ∨ k = 10) := by
  by_cases h : 1 ≤ k ∧ k ≤ 10
  · have hx : k = 1 ∨ k = 2 ∨ k = 3 ∨ k = 4 ∨ k = 5 ∨ k = 6 ∨ k = 7 ∨ k = 8 ∨ k = 9 ∨ k = 10 := by omega
    rcases hx with rfl | rfl | rfl | rfl | rfl | rfl | rfl | rfl | rfl | rfl <;> rfl
  · have e : kindOf k = none := by
      unfold kindOf
      repeat rw [if_neg (by omega)]
    unfold kindD; rw [e, decide_eq_false (by omega)]; rfl

theorem nested_eq (k : Int) : (kindD k).nested = decide (k = 9 ∨ k = 10) := by
  by_cases h : 1 ≤ k ∧ k ≤ 10
  · have hx : k = 1 ∨ k = 2 ∨ k = 3 ∨ k = 4 ∨ k = 5 ∨ k = 6 ∨ k = 7 ∨ k = 8 ∨ k = 9 ∨ k = 10 := by omega
    rcases hx with rfl | rfl | rfl | rfl | rfl | rfl | rfl | rfl | rfl | rfl <;> rfl
  · have e : kindOf k = none := by
      unfold kindOf
      repeat rw [if_neg (by omega)]
    unfold kindD; rw [e, decide_eq_false (by omega)]; rfl

theorem words_eq (k : Int) : (kindD k).words = if k = 3 ∨ k = 6 ∨ k = 7 then 4 else if 1 ≤ k ∧ k ≤ 10 then 1 else 0 := by
  by_cases h : 1 ≤ k ∧ k ≤ 10
  · have hx : k = 1 ∨ k = 2 ∨ k = 3 ∨ k = 4 ∨ k = 5 ∨ k = 6 ∨ k = 7 ∨ k = 8 ∨ k = 9 ∨ k = 10 := by omega
    rcases hx with rfl | rfl | rfl | rfl | rfl | rfl | rfl | rfl | rfl | rfl <;> rfl
  · have e : kindOf k = none := by
      unfold kindOf
      repeat rw [if_neg (by omega)]
    unfold kindD; rw [e, if_neg (by omega), if_neg h]; rfl

theorem RBuck_ok {x : Int} (hR : R (.bool (kindD x).buckets) H) : CA en F.crossbarref07_bucketed [I x] H R := by
  apply vc_crossbarref07_bucketed
  rw [buckets_eq] at hR
  have e : decide (x = 4 ∨ x = 8 ∨ x = 10) = (x == 4 || (x == 8 || x == 10)) := by rw [Bool.eq_iff_iff]; simp
  rw [e] at hR
  exact cond_of (fun h => by rw [h] at hR; exact hR) fun h => cond_of (fun h' => by rw [h, h'] at hR; exact hR) fun h' => by rw [h, h'] at hR; exact hR

theorem RNest_ok {x : Int} (hR : R (.bool (kindD x).nested) H) : CA en F.crossbarref07_Nested [I x] H R := by
  apply Nested_ok
  rw [nested_eq] at hR
  have e : decide (x = 9 ∨ x = 10) = (x == 9 || x == 10) := by rw [Bool.eq_iff_iff]; simp
  rw [e] at hR; exact hR

theorem RPow_ok {x : Int} (hR : R (.bool (decide (x = 1 ∨ x = 2 ∨ x = 4 ∨ x = 8 ∨ x = 16 ∨ x = 32))) H) : CA en F.crossbarref07_power [I x] H R := by
  apply vc_crossbarref07_power
  have e : decide (x = 1 ∨ x = 2 ∨ x = 4 ∨ x = 8 ∨ x = 16 ∨ x = 32) = (x == 1 || (x == 2 || (x == 4 || (x == 8 || (x == 16 || x == 32))))) := by rw [Bool.eq_iff_iff, decide_eq_true_iff]; simp
  rw [e] at hR
  repeat' (refine cond_of (fun h => ?_) fun h => ?_)
  all_goals simp_all

set_option maxHeartbeats 4000000 in
theorem one_ok {a : Option Addr} {n : Nat} {l : List Dc} {d : Dc} (hr : Rows H a n l) (hl : l.length < 9223372036854775808) (hR : ∀ H', Frm [] H H' → R (I (chk l d)) H') : CA en F.crossbarref07_one [.slice a n 0, d.val] H R := by
  obtain ⟨rfl, hr⟩ := hr
  apply vc_crossbarref07_one
  refine nwH_in fun i1 H2 e1 h2 => ?_
  have g1 : H2.get i1 = some (.cells true 0 d.cells) := by subst e1 h2; exact get_new_self _ _
  have f2 : Frm [] H H2 := by subst h2; exact (Frm.refl _ _).new _
  clear e1 h2
  have g1' : (H2.bump 18).get i1 = some (.cells true 0 d.cells) := g1
  have f3 : Frm [] H (H2.bump 18) := f2.bump _
  have hr15 : l = [] ∨ ∃ (i : Nat) (w : Bool) (z : Nat), a = some ⟨i, 0, none⟩ ∧ i < H.next ∧ (H2.bump 18).get i = some (AS.Obj.cells w z (flat l)) :=
    hr.imp_right fun ⟨i, w, z, h1, h2, h3⟩ => ⟨i, w, z, h1, h2, by rw [f3.2 i h2 (by simp)]; exact h3⟩
  have nested : (1 ≤ d.inner ∧ d.inner ≤ (l.length : Int)) → chk l d = (if (kindD (l.getD (d.inner - 1).toNat dc0).kind).nested = true then 14 else 0) →
      ∃ n44, (H2.bump 18).cell i1 4 = some (I n44) ∧ inB (IntKind.i64.wrap (n44 - 1)) l.length ∧ asRow a fun i45 i46 =>
        ∃ n47, (H2.bump 18).cell i45 (i46 + (IntKind.i64.wrap (n44 - 1)).toNat * 5) = some (I n47) ∧ CA en F.crossbarref07_Nested [I n47] (H2.bump 18) fun v48 H49 =>
          ∃ b50, v48 = .bool b50 ∧ cond b50 (R (I 14) H49) (R (I 0) H49) := by
    intro hin hc
    have := hR _ f3
    refine ⟨d.inner, by rw [cell_of g1']; rfl, ?_⟩
    rw [wrap_i64 (by omega)]
    refine ⟨by unfold inB; omega, ?_⟩
    rcases hr15 with rfl | ⟨i, w, z, rfl, hb, hg⟩
    · simp only [List.length_nil] at hin; omega
    · rw [asRow_some]
      refine ⟨(l.getD (d.inner - 1).toNat dc0).kind, by rw [cell_of hg, Nat.zero_add]; exact flat_kind l _ (by omega), ?_⟩
      refine RNest_ok ⟨_, rfl, ?_⟩
      rw [hc] at this
      refine cond_of (fun h => ?_) fun h => ?_
      · rw [if_pos h] at this; exact this
      · rw [if_neg (by rw [h]; decide)] at this; exact this
  have leaf2 : ∀ c, chk l d = c → R (I c) H2 := fun c e => by have := hR _ f2; rw [e] at this; exact this
  have leaf3 : ∀ c, chk l d = c → R (I c) (H2.bump 18) := fun c e => by have := hR _ f3; rw [e] at this; exact this
  clear hR hr15 hr f2 f3
  have hb := (buckets_eq d.kind).symm
  have hn := (nested_eq d.kind).symm
  cases hkb : (kindD d.kind).buckets <;> cases hkn : (kindD d.kind).nested <;> rw [hkb] at hb <;> rw [hkn] at hn
  all_goals
    repeat' first
      | refine leaf2 _ ?_
      | refine leaf3 _ ?_
      | refine RBuck_ok ⟨_, rfl, ?_⟩
      | refine RNest_ok ⟨_, rfl, ?_⟩
      | refine RPow_ok ⟨_, rfl, ?_⟩
      | refine nested ?_ ?_
      | refine ⟨_, by rw [cell_of g1]; rfl, ?_⟩
      | refine ⟨_, by rw [cell_of g1']; rfl, ?_⟩
      | refine cond_of (fun h => ?_) fun h => ?_
      | refine ⟨?_, ⟨rfl, rfl, trivial⟩, ⟨⟨_, by rw [cell_of g1']; rfl, rfl⟩, ⟨_, by rw [cell_of g1']; rfl, rfl⟩, trivial⟩, trivial⟩
      | fail
  all_goals
    clear leaf2 leaf3 nested g1 g1'
    try unfold chk
    try rw [some_eq, words_eq]
    try unfold pow at *
    simp only [hkb, hkn, beq_iff_eq, beq_eq_false_iff_ne, Bool.true_beq, Bool.false_beq, Bool.not_eq_true', Bool.not_eq_false', Bool.not_eq_true, Bool.not_eq_false, decide_eq_true_eq, decide_eq_false_iff_not, bne_iff_ne, bne_eq_false_iff_eq, Bool.not_true, Bool.not_false, Bool.true_eq_false, Bool.false_eq_true, if_true, if_false, true_and, false_and, or_false, false_or, ne_eq, reduceCtorEq] at *
    try ((repeat' split) <;> omega)
end Go.Proofs.YtjggeoghlicmdaaGreat

/-
  What is wrong with maps: the loops; the statement.
-/
namespace Go.Proofs.YtjggeoghlicmdaaGreat
open Go Go.AS Go.RowKit
set_option linter.unusedVariables false
variable {H : Heap} {R : Value → Heap → Prop}

def firstBad (l : List Dc) : List Dc → Int
  | [] => 0
  | d :: r => if chk l d ≠ 0 then chk l d else firstBad l r

def chks (l : List Dc) : Int := if (l.length : Int) > 10 then 19 else firstBad l l

theorem drop_getD (l : List Dc) (j : Nat) (h : j < l.length) : l.drop j = l.getD j dc0 :: l.drop (j + 1) := by
  rw [List.getD_eq_getElem?_getD, List.getElem?_eq_getElem h, Option.getD_some]
  exact List.drop_eq_getElem_cons h

theorem rows_row {a n l} (hr : Rows H a n l) {j : Nat} (hj : j < l.length) : ∃ i, a = some ⟨i, 0, none⟩ ∧ i < H.next ∧ H.cellsAt i (0 + j * 5) 5 = some (l.getD j dc0).cells := by
  rcases hr.2 with rfl | ⟨i, w, z, rfl, h1, h2⟩
  · simp at hj
  · exact ⟨i, rfl, h1, by rw [cellsAt_of h2, Nat.zero_add]; exact flat_take l j hj⟩

theorem Check_ok {a : Option Addr} {n : Nat} {l : List Dc} (hr : Rows H a n l) (hR : ∀ H', Frm [] H H' → R (I (chks l)) H') : CA en F.decl_Check [.slice a n 0] H R := by
  obtain rfl := hr.1
  apply vc_decl_Check
  refine cond_of (fun h => ?_) fun h => ?_
  · have := hR H (Frm.refl _ _)
    unfold chks at this
    rw [if_pos (by simpa using h)] at this
    exact this
  simp only [decide_eq_false_iff_not] at h
  refine use_decl_Check_0 (fun m _ i H' => ∃ j : Nat, j ≤ l.length ∧ m = l.length - j ∧ i = (j : Int) ∧ Frm [] H H' ∧ chks l = firstBad l (l.drop j)) l.length ⟨0, by omega, rfl, rfl, Frm.refl _ _, by unfold chks; rw [if_neg h]; rfl⟩ ?_
  rintro m t2 i ys H' ⟨j, hj, rfl, rfl, fr, hc⟩
  refine cond_of (fun h => ?_) fun h => ?_
  · simp only [decide_eq_true_eq] at h
    have hj' : j < l.length := by omega
    refine ⟨by unfold inB; omega, ?_⟩
    have hr' := hr.frm fr
    obtain ⟨b, rfl, hb, hg⟩ := rows_row hr' hj'
    rw [asRow_some]
    refine ⟨_, _, _, _, _, by rw [Int.toNat_natCast]; exact hg, ?_⟩
    have h0 : Sep H' [] := Sep.nil
    refine nwH_in fun i8 H9 e8 e9 => ?_
    have g9 : H9.get i8 = some (.cells true 0 [I 0, I 0, I 0, I 0, I 0]) := by subst e8 e9; exact get_new_self _ _
    refine stc_of' g9 (Nat.le_refl _) fun H10 e10 => ?_
    have fr10 : Frm [] H H10 := by subst e8 e9 e10; exact (fr.new _).set _ (by right; exact fr.1)
    refine ⟨_, _, _, _, _, by rw [e10, cellsAt_of (get_set_self _ _ _)]; rfl, ?_⟩
    refine check_ok (d := l.getD j dc0) (hr.frm fr10) (by omega) fun H17 fr17 => ⟨_, rfl, ?_⟩
    have fr' := fr10.trans fr17 (by simp)
    rw [drop_getD l j hj'] at hc
    refine cond_of (fun h1 => ?_) fun h1 => ⟨l.length - (j + 1), by omega, j + 1, by omega, rfl, ?_, fr', ?_⟩
    · simp only [List.getD_cons_succ, List.getD_cons_zero, asInt_int]
      have := hR _ fr'
      rw [hc] at this
      unfold firstBad at this
      rw [if_pos (by simpa using h1)] at this
      exact this
    · rw [wrap_i64 (by omega)]; omega
    · rw [hc]
      show (if chk l (l.getD j dc0) ≠ 0 then chk l (l.getD j dc0) else firstBad l (l.drop (j + 1))) = _
      rw [if_neg (by simpa using h1)]
  · simp only [decide_eq_false_iff_not] at h
    obtain rfl : j = l.length := by omega
    rw [List.drop_length] at hc
    simp only [List.getD_cons_succ, List.getD_cons_zero, asInt_int]
    have := hR _ fr
    rw [hc] at this
    exact this

theorem RCheck_ok {a : Option Addr} {n : Nat} {l : List Dc} (hr : Rows H a n l) (hR : ∀ H', Frm [] H H' → R (I (chks l)) H') : CA en F.crossbarref07_Check [.slice a n 0] H R := by
  obtain rfl := hr.1
  apply vc_crossbarref07_Check
  refine cond_of (fun h => ?_) fun h => ?_
  · have := hR H (Frm.refl _ _)
    unfold chks at this
    rw [if_pos (by simpa using h)] at this
    exact this
  simp only [decide_eq_false_iff_not] at h
  refine use_crossbarref07_Check_0 (fun m _ i H' => ∃ j : Nat, j ≤ l.length ∧ m = l.length - j ∧ i = (j : Int) ∧ Frm [] H H' ∧ chks l = firstBad l (l.drop j)) l.length ⟨0, by omega, rfl, rfl, Frm.refl _ _, by unfold chks; rw [if_neg h]; rfl⟩ ?_
  rintro m t2 i ys H' ⟨j, hj, rfl, rfl, fr, hc⟩
  refine cond_of (fun h => ?_) fun h => ?_
  · simp only [decide_eq_true_eq] at h
    have hj' : j < l.length := by omega
    refine ⟨by unfold inB; omega, ?_⟩
    have hr' := hr.frm fr
    obtain ⟨b, rfl, hb, hg⟩ := rows_row hr' hj'
    rw [asRow_some]
    refine ⟨_, _, _, _, _, by rw [Int.toNat_natCast]; exact hg, ?_⟩
    refine one_ok (d := l.getD j dc0) hr' (by omega) fun H17 fr17 => ⟨_, rfl, ?_⟩
    have fr' := fr.trans fr17 (by simp)
    rw [drop_getD l j hj'] at hc
    refine cond_of (fun h1 => ?_) fun h1 => ⟨l.length - (j + 1), by omega, j + 1, by omega, rfl, ?_, fr', ?_⟩
    · simp only [List.getD_cons_succ, List.getD_cons_zero, asInt_int]
      have := hR _ fr'
      rw [hc] at this
      unfold firstBad at this
      rw [if_pos (by simpa using h1)] at this
      exact this
    · rw [wrap_i64 (by omega)]; omega
    · rw [hc]
      show (if chk l (l.getD j dc0) ≠ 0 then chk l (l.getD j dc0) else firstBad l (l.drop (j + 1))) = _
      rw [if_neg (by simpa using h1)]
  · simp only [decide_eq_false_iff_not] at h
    obtain rfl : j = l.length := by omega
    rw [List.drop_length] at hc
    simp only [List.getD_cons_succ, List.getD_cons_zero, asInt_int]
    have := hR _ fr
    rw [hc] at this
    exact this

theorem flat_length : ∀ l : List Dc, (flat l).length = l.length * 5
  | [] => rfl
  | d :: l => by
    have e : flat (d :: l) = d.cells ++ flat l := rfl
    rw [e, List.length_append, flat_length l]; simp only [List.length_cons, List.length_nil]; omega

theorem takeAt_all (c : List Value) : takeAt c 0 c.length = some c := by
  simp [takeAt]

theorem flat_snoc (l : List Dc) (j : Nat) (h : j < l.length) : flat (l.take (j + 1)) = flat (l.take j) ++ (l.getD j dc0).cells := by
  rw [List.take_succ_eq_append_getElem h]
  unfold flat
  rw [List.map_append, List.flatten_append]
  simp only [List.map_cons, List.map_nil, List.flatten_cons, List.flatten_nil, List.append_nil]
  rw [List.getD_eq_getElem?_getD, List.getElem?_eq_getElem h, Option.getD_some]

theorem rows_of : ∀ (cs : List (List Value)), (∀ c ∈ cs, ∃ d : Dc, c = d.cells) → ∃ l : List Dc, cs.flatten = flat l ∧ cs.length = l.length
  | [], _ => ⟨[], rfl, rfl⟩
  | c :: cs, h => by
    obtain ⟨d, rfl⟩ := h c (by simp)
    obtain ⟨l, e1, e2⟩ := rows_of cs fun c hc => h c (List.mem_cons_of_mem _ hc)
    refine ⟨d :: l, ?_, by simp [e2]⟩
    rw [List.flatten_cons, e1]; rfl

end Go.Proofs.YtjggeoghlicmdaaGreat

