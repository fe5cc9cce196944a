/-
  Written by merge.py: Arr11 Arr11Do Arr11Right Pairs13 ArrRun ArrPlay ArrTurn ArrBegun
-/
import Derived.Test.YthnifkjpkepbaaaDeclM
import Derived.Test.YthnifkjpkepbaaaRws
import Derived.Test.YthnifkjpkepbaaaAs44
import Derived.Test.YthnifkjpkepbaaaAs48
import Derived.Test.YthnifkjpkepbaaaVcR
import Derived.Test.YthnifkjpkepbaaaVcP
import Derived.Test.YthnifkjpkepbaaaAs49
import Derived.Test.YthnifkjpkepbaaaSmemOne
import Derived.Test.YthnifkjpkepbaaaVcA
/-
  The document's model of maps, for arrays and maps of maps: made.
-/
namespace Go.Proofs.Ythnifkjpkepbaaa
open Go Go.AS Go.RowKit
set_option linter.unusedVariables false
variable {H H' H0 : Heap} {R : Value → Heap → Prop} {L M : List Asr} {A B : Asr} {ws : List (BitVec 64)} {qs : List Nat} {d : Dc} {k n inn cpus : Int} {y lb eb z : Nat} {nest : Bool}

/-! ### Parts of many -/
theorem mny_out {k : Nat} (hk : M[k]? = some A) (h : Sep H (many M :: L)) : Sep H (A :: many (M.eraseIdx k) :: L) := by
  have h1 := Sep.many_iff.1 h
  have h2 := h1.perm ((eraseIdx_perm hk).append_right L)
  exact (Sep.many_iff.2 (h2.perm List.perm_middle.symm)).swap
theorem mny_in {k : Nat} (hk : k < M.length) (h : Sep H (B :: many (M.eraseIdx k) :: L)) : Sep H (many (M.set k B) :: L) := by
  have h1 := Sep.many_iff.1 h.swap
  have h2 := h1.perm List.perm_middle
  exact Sep.many_iff.2 (h2.perm ((set_perm hk).append_right L).symm)
theorem mny_snoc (h : Sep H (B :: many M :: L)) : Sep H (many (M ++ [B]) :: L) := by
  have h1 := Sep.many_iff.1 h.swap
  refine Sep.many_iff.2 ?_
  rw [List.append_assoc]; exact h1

/-! ### A map -/
abbrev lrow (w : Nat) (nest : Bool) (j q : Nat) : List Value := [W (BitVec.ofNat 64 j), .slice (some ⟨q, 0, none⟩) w 0, I (if nest then 0 else (j : Int) + 1)]
abbrev lrows (w : Nat) (nest : Bool) (qs : List Nat) : List (List Value) := qs.mapIdx (lrow w nest)
abbrev esl (nest : Bool) (eb z : Nat) : Value := match nest with | true => .slice none 0 0 | false => .slice (some ⟨eb, 0, none⟩) z 0
abbrev yA (y lb eb : Nat) (nest : Bool) (k n inn : Int) (z : Nat) : Asr := bx y (.cells true 0 [I k, I n, I 1, I 0, I inn, .slice (some ⟨lb, 0, none⟩) z 0, esl nest eb z])
abbrev lA (lb : Nat) (nest : Bool) (qs : List Nat) : Asr := bx lb (.cells true 3 (lrows 1 nest qs).flatten)
abbrev vrow (q : Nat) (w : BitVec 64) : Asr := bx q (.cells true 1 (wds [w]))
abbrev rowsV (qs : List Nat) (ws : List (BitVec 64)) : List Asr := List.zipWith vrow qs ws
abbrev vA (nest : Bool) (eb : Nat) (qs : List Nat) (ws : List (BitVec 64)) : Asr := match nest with | true => many (rowsV qs ws) | false => bx eb (.cells true 1 (wds ws))
theorem lrows_len (w : Nat) (nest : Bool) (qs : List Nat) : ∀ c ∈ lrows w nest qs, c.length = 3 := by
  intro c hc
  obtain ⟨i, h, rfl⟩ := List.mem_mapIdx.1 hc; rfl
theorem lrows_get {w j q : Nat} (h : qs[j]? = some q) : (lrows w nest qs)[j]? = some (lrow w nest j q) := by
  show (qs.mapIdx (lrow w nest))[j]? = _
  rw [List.getElem?_mapIdx, h]; rfl
theorem lrows_row {w j q : Nat} (h : qs[j]? = some q) : (lrows w nest qs).set j (lrow w nest j q) = lrows w nest qs := set_same (lrows_get h)
theorem lrows_set {w j q : Nat} : (lrows w nest qs).set j (lrow w nest j q) = lrows w nest (qs.set j q) := by
  show (qs.mapIdx (lrow w nest)).set j _ = (qs.set j q).mapIdx (lrow w nest)
  rw [List.mapIdx_set]
theorem lrows_snoc (w q : Nat) : lrows w nest (qs ++ [q]) = lrows w nest qs ++ [lrow w nest qs.length q] := by
  show (qs ++ [q]).mapIdx (lrow w nest) = _
  rw [List.mapIdx_concat]
theorem rowsV_get {j q : Nat} {w : BitVec 64} (hq : qs[j]? = some q) (hw : ws[j]? = some w) : (rowsV qs ws)[j]? = some (vrow q w) := by
  show (List.zipWith _ qs ws)[j]? = _
  rw [List.getElem?_zipWith, hq, hw]
theorem rowsV_set : ∀ {qs : List Nat} {ws : List (BitVec 64)} (j q : Nat) (w : BitVec 64), (rowsV qs ws).set j (vrow q w) = rowsV (qs.set j q) (ws.set j w)
  | [], ws, j, q, w => by simp
  | q0 :: qs, [], j, q, w => by simp
  | q0 :: qs, w0 :: ws, 0, q, w => rfl
  | q0 :: qs, w0 :: ws, j + 1, q, w => congrArg (vrow q0 w0 :: ·) (rowsV_set (qs := qs) (ws := ws) j q w)
theorem rowsV_rep : ∀ (qs : List Nat), qs.map (fun q => bx q (.cells true 1 (wds (List.replicate 1 0)))) = rowsV qs (List.replicate qs.length 0)
  | [] => rfl
  | q :: qs => congrArg (vrow q 0 :: ·) (rowsV_rep qs)

/-- What a map that is made is, by its kind. -/
inductive MadeOk (d : Dc) (cpus : Int) (y : Nat) : List Asr → Prop
  | ar (nest : Bool) (lb eb : Nat) (qs : List Nat) (hk : (nest = true ∧ d.kind = 9 ∧ (qs.length : Int) = d.entries) ∨ (nest = false ∧ d.kind = 1 ∧ (qs.length : Int) = d.entries) ∨ (nest = false ∧ d.kind = 2 ∧ (qs.length : Int) = d.entries * cpus)) :
      MadeOk d cpus y [yA y lb eb nest d.kind d.entries d.inner qs.length, lA lb nest qs, vA nest eb qs (List.replicate qs.length 0)]
  | rc (t : List Value) (hk : d.kind = 3) : MadeOk d cpus y [bx y (.cells true 0 (d.cells ++ t))]
theorem arrays_s (h : Sep H L) (hR : ∀ H', Sep H' L → R (.bool (k == 1 || k == 2 || k == 3)) H') : CA en F.crossbarref11_arrays [I k] H R := by
  apply vc_crossbarref11_arrays
  have hR := hR H h
  refine cond_of (fun z => ?_) fun z => cond_of (fun z2 => ?_) fun z2 => ?_
  · have : k = 1 := by simpa using z
    subst this; exact hR
  · have : k = 2 := by simpa using z2
    subst this; exact hR
  · have e1 : (k == 1) = false := z
    have e2 : (k == 2) = false := z2
    rw [e1, e2] at hR
    exact hR
abbrev el (nest : Bool) (j : Nat) : Nat := match nest with | true => 0 | false => j
theorem wrapj {j : Nat} (h : j < 1000) : IntKind.u64.wrap (j : Int) = ((BitVec.ofNat 64 j).toNat : Int) := by
  rw [u64_self (by omega) (by omega), BitVec.toNat_ofNat, Nat.mod_eq_of_lt (by omega)]

set_option maxHeartbeats 1000000 in
theorem made_s {E T N : Nat} (h : Sep H L) (hk : d.kind = 1 ∨ d.kind = 2 ∨ d.kind = 3 ∨ d.kind = 9) (hE : d.entries = (E : Int)) (hn : 1 ≤ E ∧ E ≤ 64) (hw : d.words = (N : Int)) (hN : 1 ≤ N ∧ N ≤ 4) (hN1 : d.kind ≠ 3 → N = 1) (hb : d.buckets = 0) (hc : 1 ≤ cpus ∧ cpus ≤ 4) (hT : (T : Int) = if d.kind = 2 then d.entries * cpus else d.entries)
    (hR : ∀ H' y M, MadeOk d cpus y M → Sep H' (many M :: L) → R (P y) H') : CA en F.crossbarref11_made [d.val, I cpus] H R := by
  apply vc_crossbarref11_made
  have hT1 : 1 ≤ T ∧ T ≤ 256 := by
    split at hT
    · rw [hE] at hT
      have h1 : (E : Int) * cpus ≤ 64 * cpus := Int.mul_le_mul_of_nonneg_right (by omega) (by omega)
      have h2 : 1 * cpus ≤ (E : Int) * cpus := Int.mul_le_mul_of_nonneg_right (by omega) (by omega)
      omega
    · omega
  obtain ⟨nest, hne⟩ : ∃ nest : Bool, nest = false ↔ (d.kind = 1 ∨ d.kind = 2) := by
    by_cases h : d.kind = 1 ∨ d.kind = 2
    · exact ⟨false, fun _ => h, fun _ => rfl⟩
    · exact ⟨true, fun e => (by cases e), fun e => absurd e h⟩
  refine Sep.nw h fun i1 H2 h2 => ⟨_, _, _, _, _, Sep.lds0 h2 rfl, Sep.nw h2 fun i8 H9 h9 => ?_⟩
  refine ⟨fun vs H' => vs = [I d.entries] ∧ Sep H' (bx i8 (.cells true 0 [I d.kind, I d.entries, I d.words, I d.buckets, I d.inner, .slice none 0 0, .slice none 0 0]) :: bx i1 (.cells true 0 d.cells) :: L), ?_, ?_⟩
  · refine ⟨_, Sep.ld1 h9 rfl, arrays_s h9 fun H13 h13 => ⟨_, rfl, cond_of (fun z => ⟨_, Sep.ld1 h13 rfl, rfl, h13⟩) fun z => ⟨_, Sep.ld1 h13 rfl, cond_of (fun z9 => ⟨_, Sep.ld1 h13 rfl, rfl, h13⟩) fun z9 => ?_⟩⟩⟩
    rcases hk with e | e | e | e
    · rw [e] at z; cases z
    · rw [e] at z; cases z
    · rw [e] at z; cases z
    · rw [e] at z9; cases z9
  rintro ys18 H19 n20 ⟨e20, h19⟩
  obtain rfl := one_int e20
  refine ⟨fun vs H' => vs = [I T] ∧ Sep H' (bx i8 (.cells true 0 [I d.kind, I d.entries, I d.words, I d.buckets, I d.inner, .slice none 0 0, .slice none 0 0]) :: bx i1 (.cells true 0 d.cells) :: L), ?_, ?_⟩
  · refine ⟨_, Sep.ld1 h19 rfl, cond_of (fun z => ?_) fun z => ?_⟩
    · have z : d.kind = 2 := by simpa using z
      rw [if_pos z] at hT
      refine ⟨?_, h19⟩
      rw [← hT, wrap_i64 (by omega)]
    · have z : ¬ d.kind = 2 := by simpa using z
      rw [if_neg z] at hT
      exact ⟨by rw [hT], h19⟩
  rintro ys23 H24 n25 ⟨e25, h24⟩
  obtain rfl := one_int e25
  refine ⟨fun vs H' => vs = [I T] ∧ Sep H' (bx i8 (.cells true 0 [I d.kind, I d.entries, I d.words, I d.buckets, I d.inner, .slice none 0 0, .slice none 0 0]) :: bx i1 (.cells true 0 d.cells) :: L), ?_, ?_⟩
  · refine ⟨_, Sep.ld1 h24 rfl, cond_of (fun z => ?_) fun z => ⟨rfl, h24⟩⟩
    have z : d.kind = 8 := by simpa using z
    omega
  rintro ys29 H30 n31 ⟨e31, h30⟩
  obtain rfl := one_int e31
  have h0 : Sep H30 (bx i8 (.cells true 0 [I d.kind, I d.entries, I d.words, I d.buckets, I d.inner, .slice none 0 0, .slice none (el nest 0) 0]) :: bx i1 (.cells true 0 d.cells) :: gl 3 none (lrows N nest []).flatten :: gl 1 none (wds (List.replicate (el nest 0) 0)) :: many (([] : List Nat).map fun q => bx q (.cells true 1 (wds (List.replicate N 0)))) :: L) := by
    have e0 : el nest 0 = 0 := by cases nest <;> rfl
    rw [e0]
    have h1 := gl_none (es := 3) (cs := (lrows N nest []).flatten) |>.2 (gl_none (es := 1) (cs := wds (List.replicate 0 0)) |>.2 (Sep.many0 h30))
    exact Sep.pick h1 5 [3, 4, 0, 1, 2] (by decide)
  refine use_crossbarref11_made_0 (fun k' t7 H' => ∃ (j : Nat) (lb eb : Option Nat) (qs : List Nat), j ≤ T ∧ k' = T - j ∧ t7 = (j : Int) ∧ qs.length = j ∧ (lb = none → j = 0) ∧ (eb = none → el nest j = 0) ∧ (nest = true → eb = none) ∧
    Sep H' (bx i8 (.cells true 0 [I d.kind, I d.entries, I d.words, I d.buckets, I d.inner, .slice (addr lb) j 0, .slice (addr eb) (el nest j) 0]) :: bx i1 (.cells true 0 d.cells) :: gl 3 lb (lrows N nest qs).flatten :: gl 1 eb (wds (List.replicate (el nest j) 0)) :: many (qs.map fun q => bx q (.cells true 1 (wds (List.replicate N 0)))) :: L)) T
    ⟨0, none, none, [], Nat.zero_le _, rfl, rfl, rfl, fun _ => rfl, fun _ => (by cases nest <;> rfl), fun _ => rfl, h0⟩ ?_
  clear h0
  rintro k' t7 ys H3 ⟨j, lb, eb, qs, hj, rfl, rfl, hq, hlb, heb, hnb, h3⟩
  refine cond_of (fun hlt => ?_) fun hlt => ?_
  · have hlt : j < T := by simp only [decide_eq_true_eq] at hlt; omega
    refine ⟨_, Sep.ld1 h3 rfl, ⟨by omega, Int.le_refl _, by omega⟩, ?_⟩
    rw [show d.words.toNat = N by omega, reps_w, wrapj (by omega), wrap_i64 (n := (j : Int) + 1) (by omega)]
    have hll : (lrows N nest qs).flatten.length = j * 3 := by rw [rowsFlat_len _ (lrows_len N nest qs), List.length_mapIdx, hq]
    refine Sep.nw h3 fun i2 H4 h4 => Sep.nw h4 fun i4 H5 h5 => Sep.st0 h5 (Nat.le_of_ble_eq_true rfl) fun H6 h6 => ⟨_, Sep.ld3 h6 rfl, cond_of (fun z => ?_) fun z => ⟨_, Sep.ld3 h6 rfl, cond_of (fun z2 => ?_) fun z2 => ?_⟩⟩
    rotate_left 2
    · have z : ¬ d.kind = 1 := by simpa using z
      have z2 : ¬ d.kind = 2 := by simpa using z2
      obtain rfl : nest = true := by
        cases nest with
        | true => rfl
        | false => exact absurd (hne.1 rfl) (by omega)
      have hB := h6.bump 11
      refine ⟨_, _, Sep.ld2 hB rfl, _, _, _, _, Sep.lds0 hB rfl, Sep.nw hB fun i71 H72 h72 => ⟨lrow N true j i2, rowOf_bx (es := 3) (Sep.get0 h72) (by decide) rfl, ?_⟩⟩
      -- i71 i4 i2 i8 i1 gl3 gl1 many
      refine apd_gl (b := lb) (len := j) (n := 1) (es := 3) (cs := (lrows N true qs).flatten) (new := lrow N true j i2) (Sep.up5 h72) (fun e => by have := hlb e; rw [List.eq_nil_of_length_eq_zero (by omega : qs.length = 0)]; rfl) (by decide) hll (by decide) rfl (by omega) fun H76 q' h76 => ?_
      -- gl3 i71 i4 i2 i8 i1 gl1 many
      refine Sep.st4 h76 (Nat.le_of_ble_eq_true rfl) fun H77 h77 => ⟨⟨T - (j + 1), by omega, j + 1, some q', eb, qs ++ [i2], by omega, rfl, by omega, by simp [hq], (fun e => by cases e), fun _ => rfl, hnb, ?_⟩, ⟨⟨_, _, Sep.ld2 hB rfl, rfl, rfl, rfl⟩, ⟨_, _, Sep.ld3 h72 rfl, rfl, rfl, rfl⟩, trivial⟩, trivial⟩
      rw [lrows_snoc, List.flatten_append, hq, List.map_append]
      have h14 := Sep.pick h77 8 [3, 7, 4, 5, 0, 6] (by decide)
      have h15 := mny_snoc h14
      simp only [List.flatten_cons, List.flatten_nil, List.append_nil]
      exact Sep.pick h15 5 [1, 2, 3, 4, 0] (by decide)
    all_goals
      obtain rfl : nest = false := hne.2 (by first | (have z2 : d.kind = 2 := by simpa using z2); exact .inr z2 | (have z : d.kind = 1 := by simpa using z); exact .inl z)
      refine Sep.st0 h6 (Nat.le_of_ble_eq_true rfl) fun H8 h8 => ⟨_, _, Sep.ld2 h8 rfl, Sep.nw h8 fun i11 H12 h12 => ⟨[W 0], rowOf_bx (es := 1) (Sep.get0 h12) (by decide) rfl, ?_⟩⟩
      -- i11 i4 i2 i8 i1 gl3 gl1 many
      refine apd_gl (b := eb) (len := j) (n := 1) (es := 1) (cs := wds (List.replicate j 0)) (new := [W 0]) (Sep.up6 h12) (fun e => by have := heb e; obtain rfl : j = 0 := this; rfl) (by decide) (by simp) (by decide) rfl (by omega) fun H16 e' h16 => ?_
      -- gl1 i11 i4 i2 i8 i1 gl3 many
      refine Sep.st4 h16 (Nat.le_of_ble_eq_true rfl) fun H17 h17 => ?_
      have hB := h17.bump 11
      refine ⟨_, _, Sep.ld4 hB rfl, _, _, _, _, Sep.lds2 hB rfl, Sep.nw hB fun i24 H25 h25 => ⟨lrow N false j i2, rowOf_bx (es := 3) (Sep.get0 h25) (by decide) rfl, ?_⟩⟩
      -- i24 gl1 i11 i4 i2 i8 i1 gl3 many
      refine apd_gl (b := lb) (len := j) (n := 1) (es := 3) (cs := (lrows N false qs).flatten) (new := lrow N false j i2) (Sep.up7 h25) (fun e => by have := hlb e; rw [List.eq_nil_of_length_eq_zero (by omega : qs.length = 0)]; rfl) (by decide) hll (by decide) rfl (by omega) fun H29 q' h29 => ?_
      -- gl3 i24 gl1 i11 i4 i2 i8 i1 many
      refine Sep.st6 h29 (Nat.le_of_ble_eq_true rfl) fun H30 h30 => ⟨⟨T - (j + 1), by omega, j + 1, some q', some e', qs ++ [i2], by omega, rfl, by omega, by simp [hq], (fun e => by cases e), (fun e => by cases e), (fun e => by cases e), ?_⟩, ⟨⟨_, _, Sep.ld4 hB rfl, rfl, rfl, rfl⟩, ⟨_, _, Sep.ld5 h25 rfl, rfl, rfl, rfl⟩, trivial⟩, trivial⟩
      rw [lrows_snoc, List.flatten_append, hq, List.map_append]
      have h14 := Sep.pick h30 9 [5, 8, 6, 7, 0, 2] (by decide)
      have h15 := mny_snoc h14
      have ew : wds (List.replicate j 0) ++ [W 0] = wds (List.replicate (j + 1) 0) := by show _ = List.map W (List.replicate (j + 1) 0); rw [List.replicate_succ', List.map_append]; rfl
      rw [ew] at h15
      simp only [List.flatten_cons, List.flatten_nil, List.append_nil]
      exact Sep.pick h15 5 [1, 2, 3, 4, 0] (by decide)
  · have hj2 : j = T := by simp only [decide_eq_false_iff_not] at hlt; omega
    subst hj2
    obtain ⟨lb, rfl⟩ : ∃ v, lb = some v := by
      cases lb with
      | none => have := hlb rfl; omega
      | some v => exact ⟨v, rfl⟩
    by_cases k3 : d.kind = 3
    · refine hR H3 i8 _ (.rc [.slice (addr (some lb)) j 0, .slice (addr eb) (el nest j) 0] k3) ?_
      exact Sep.many1.2 (Sep.pick h3 5 [0] (by decide))
    · obtain rfl : N = 1 := hN1 k3
      have ew : d.words = 1 := hw
      have h4 := gl_some.1 (Sep.up2 h3)
      rw [rowsV_rep, hq] at h4
      rw [ew, hb] at h4
      -- gl3 i8 i1 gl1 many
      cases nest with
      | true =>
        have hk9 : d.kind = 9 := by
          have : ¬ (d.kind = 1 ∨ d.kind = 2) := fun h => by have := hne.2 h; cases this
          omega
        rw [if_neg (by omega)] at hT
        obtain rfl := hnb rfl
        have ho := MadeOk.ar (d := d) (cpus := cpus) (y := i8) true lb 0 qs (.inl ⟨rfl, hk9, by rw [hq]; exact hT⟩)
        rw [hq] at ho
        exact hR H3 i8 _ ho (Sep.many_iff.2 (Sep.pick h4 5 [1, 0, 4] (by decide)))
      | false =>
        obtain ⟨eb, rfl⟩ : ∃ v, eb = some v := by
          cases eb with
          | none => have : j = 0 := heb rfl; omega
          | some v => exact ⟨v, rfl⟩
        have ho := MadeOk.ar (d := d) (cpus := cpus) (y := i8) false lb eb qs (.inr (by
          rcases hne.1 rfl with h1 | h1
          · rw [if_neg (by omega)] at hT
            exact .inl ⟨rfl, h1, by rw [hq]; exact hT⟩
          · rw [if_pos h1] at hT
            exact .inr ⟨rfl, h1, by rw [hq]; exact hT⟩))
        rw [hq] at ho
        have h5 := gl_some.1 (Sep.up3 h4)
        -- gl1 gl3 i8 i1 many
        exact hR H3 i8 _ ho (Sep.many_iff.2 (Sep.pick h5 5 [2, 1, 0] (by decide)))
abbrev dr : Dc := ⟨3, 2, 2, 0, 0⟩
def MdOk (d : Dc) (cpus : Int) (nest : Bool) (z : Nat) : Prop := (nest = true ∧ d.kind = 9 ∧ (z : Int) = d.entries) ∨ (nest = false ∧ d.kind = 1 ∧ (z : Int) = d.entries) ∨ (nest = false ∧ d.kind = 2 ∧ (z : Int) = d.entries * cpus)
/-- The first map may be made. -/
structure FirstOk (d : Dc) (E : Nat) (cpus : Int) : Prop where
  kind : d.kind = 1 ∨ d.kind = 2 ∨ d.kind = 9
  ents : d.entries = (E : Int)
  n : 1 ≤ E ∧ E ≤ 64
  words : d.words = 1
  bk : d.buckets = 0
  inn : d.inner = if d.kind = 9 then 2 else 0
  cp : 1 ≤ cpus ∧ cpus ≤ 4
theorem chks_first {E : Nat} (f : FirstOk d E cpus) : chks [d, dr, dr] = 0 := by
  have hr : chk [d, dr, dr] dr = 0 := rfl
  have e : chks [d, dr, dr] = chk [d, dr, dr] d := by
    show (if (3 : Int) > 10 then (19 : Int) else if chk [d, dr, dr] d ≠ 0 then chk [d, dr, dr] d else if chk [d, dr, dr] dr ≠ 0 then chk [d, dr, dr] dr else if chk [d, dr, dr] dr ≠ 0 then chk [d, dr, dr] dr else 0) = _
    rw [if_neg (by omega), hr]
    simp only [ne_eq, not_true_eq_false, if_false]
    split <;> omega
  rw [e]
  obtain ⟨k, en, w, b, i⟩ := d
  have h1 := f.kind
  have h2 := f.ents
  have h3 := f.n
  have h4 := f.words
  have h5 := f.bk
  have h6 := f.inn
  simp only at h1 h2 h4 h5 h6
  subst h4 h5
  rcases h1 with rfl | rfl | rfl
  · have h6 : i = 0 := h6
    subst h6
    unfold chk
    rw [if_neg (by show ¬ (kindOf 1).isSome = false; decide), if_neg (by show ¬ (en < 1 ∨ en > 64 ∨ (1 : Int) < 1 ∨ (1 : Int) > 1); omega)]
    rfl
  · have h6 : i = 0 := h6
    subst h6
    unfold chk
    rw [if_neg (by show ¬ (kindOf 2).isSome = false; decide), if_neg (by show ¬ (en < 1 ∨ en > 64 ∨ (1 : Int) < 1 ∨ (1 : Int) > 1); omega)]
    rfl
  · have h6 : i = 2 := h6
    subst h6
    unfold chk
    rw [if_neg (by show ¬ (kindOf 9).isSome = false; decide), if_neg (by show ¬ (en < 1 ∨ en > 64 ∨ (1 : Int) < 1 ∨ (1 : Int) > 1); omega)]
    rfl
theorem rows_mem {li : Nat} {l : List Dc} (h : Sep H L) (hm : bx li (.cells true 5 (flat l)) ∈ L) : Rows H (some ⟨li, 0, none⟩) l.length l := by
  refine ⟨rfl, .inr ⟨li, true, 5, rfl, ?_, h.all _ hm⟩⟩
  refine h.lt li ?_
  unfold feet
  exact List.mem_flatMap.2 ⟨_, hm, by simp [bx]⟩

set_option maxHeartbeats 1000000 in
theorem new11_s {E li : Nat} (h : Sep H L) (hm : bx li (.cells true 5 (flat [d, dr, dr])) ∈ L) (f : FirstOk d E cpus)
    (hR : ∀ H' nest mx al y y2 y3 lb eb qs t2 t3, MdOk d cpus nest qs.length → Sep H' (bx mx (.cells true 0 [.slice (some ⟨al, 0, none⟩) 3 0, I cpus]) :: bx al (.cells true 1 [P y, P y2, P y3]) :: yA y lb eb nest d.kind d.entries d.inner qs.length :: lA lb nest qs :: vA nest eb qs (List.replicate qs.length 0) :: bx y2 (.cells true 0 (dr.cells ++ t2)) :: bx y3 (.cells true 0 (dr.cells ++ t3)) :: L) → R (.tuple #[P mx, I 0]) H') :
    CA en F.crossbarref11_New [.slice (some ⟨li, 0, none⟩) 3 0, I cpus] H R := by
  apply vc_crossbarref11_New
  have fc := f.cp
  refine RCheck_ok (l := [d, dr, dr]) (rows_mem h hm) fun H2 fr => ⟨_, rfl, ?_⟩
  rw [chks_first f]
  have h2 := h.keep fr
  refine cond_no rfl (cond_no (by rw [decide_eq_false_iff_not]; omega) (cond_no (by rw [decide_eq_false_iff_not]; omega) ?_))
  refine Sep.nw h2 fun i4 H5 h5 => ?_
  have h0 : Sep H5 (bx i4 (.cells true 0 [.slice (addr none) 0 0, I cpus]) :: gl 1 none (([] : List Nat).map fun y => P y) :: many (([] : List (List Asr)).map many) :: L) := by
    have h1 := gl_none (es := 1) (cs := ([] : List Nat).map fun y => P y) |>.2 (Sep.many0 h5)
    exact Sep.pick h1 3 [2, 0, 1] (by decide)
  refine use_crossbarref11_New_0 (fun k' t8 H' => ∃ (j : Nat) (g : Option Nat) (ys : List Nat) (Ms : List (List Asr)), j ≤ 3 ∧ k' = 3 - j ∧ t8 = (j : Int) ∧ ys.length = j ∧ Ms.length = j ∧ (g = none → j = 0) ∧ (∀ (i : Nat) e y M, [d, dr, dr][i]? = some e → ys[i]? = some y → Ms[i]? = some M → MadeOk e cpus y M) ∧
    Sep H' (bx i4 (.cells true 0 [.slice (addr g) j 0, I cpus]) :: gl 1 g (ys.map fun y => P y) :: many (Ms.map many) :: L)) 3 ⟨0, none, [], [], by omega, rfl, rfl, rfl, rfl, fun _ => rfl, fun i e y M _ h => by simp at h, h0⟩ ?_
  clear h0
  rintro k' t8 ys' H3 ⟨j, g, ys, Ms, hj, rfl, rfl, hys, hMs, hg, hok, h3⟩
  refine cond_of (fun hlt => ?_) fun hlt => ?_
  · have hlt : j < 3 := by simp only [decide_eq_true_eq] at hlt; omega
    have hB := h3.bump 16
    obtain ⟨_, e0, _, e1⟩ := rows_row (rows_mem hB (List.mem_cons_of_mem _ (List.mem_cons_of_mem _ (List.mem_cons_of_mem _ hm)))) (j := j) hlt
    cases e0
    refine ⟨_, _, Sep.ld0 hB rfl, ⟨by omega, by omega⟩, asRow_in ⟨_, _, _, _, _, by rw [Int.toNat_natCast]; exact e1, ?_⟩⟩
    generalize he : [d, dr, dr].getD j dc0 = e at *
    have hge : [d, dr, dr][j]? = some e := by
      rw [← he, List.getD_eq_getElem?_getD]
      have : j = 0 ∨ j = 1 ∨ j = 2 := by omega
      rcases this with rfl | rfl | rfl <;> rfl
    have hfin : ∀ H11 y M, MadeOk e cpus y M → Sep H11 (many M :: bx i4 (.cells true 0 [.slice (addr g) j 0, I cpus]) :: gl 1 g (ys.map fun y => P y) :: many (Ms.map many) :: L) → ∃ a12, P y = .pointer a12 ∧ nwH H11 (.cells true 1 [.pointer a12]) fun i13 H14 => ∃ l15, rowOf H14 1 (some ⟨i13, 0, none⟩) 1 = some l15 ∧ apd H14 8 1 (addr g) j 1 l15 fun a16 i17 H18 => stc H18 i4 0 [.slice a16 i17 0] fun H19 => (∃ k26, k26 < 3 - j ∧ ∃ (j' : Nat) (g : Option Nat) (ys : List Nat) (Ms : List (List Asr)), j' ≤ 3 ∧ k26 = 3 - j' ∧ IntKind.i64.wrap ((j : Int) + 1) = (j' : Int) ∧ ys.length = j' ∧ Ms.length = j' ∧ (g = none → j' = 0) ∧ (∀ (i : Nat) e y M, [d, dr, dr][i]? = some e → ys[i]? = some y → Ms[i]? = some M → MadeOk e cpus y M) ∧
    Sep H19 (bx i4 (.cells true 0 [.slice (addr g) j' 0, I cpus]) :: gl 1 g (ys.map fun y => P y) :: many (Ms.map many) :: L)) ∧ ((∃ a24 i25, (H3.bump 16).cell i4 0 = some (.slice a24 i25 0) ∧ (addr g = a24 ∧ j = i25 ∧ 0 = 0)) ∧ (∃ a22 i23, H11.cell i4 0 = some (.slice a22 i23 0) ∧ (addr g = a22 ∧ j = i23 ∧ 0 = 0)) ∧ (∃ a20 i21, H14.cell i4 0 = some (.slice a20 i21 0) ∧ (addr g = a20 ∧ j = i21 ∧ 0 = 0)) ∧ True) ∧ True := fun H11 y M hM h11 => by
      refine ⟨_, rfl, Sep.nw h11 fun i13 H14 h14 => ⟨[P y], rowOf_bx (es := 1) (Sep.get0 h14) (by decide) rfl, ?_⟩⟩
      -- i13 M i4 gl Ms
      refine apd_gl (b := g) (len := j) (n := 1) (es := 1) (cs := ys.map fun y => P y) (new := [P y]) (Sep.up3 h14) (fun e => by have := hg e; rw [List.eq_nil_of_length_eq_zero (by omega : ys.length = 0)]; rfl) (by decide) (by simp [hys]) (by decide) rfl (by omega) fun H18 q' h18 => ?_
      -- gl i13 M i4 Ms
      refine Sep.st3 h18 (Nat.le_of_ble_eq_true rfl) fun H19 h19 => ⟨⟨3 - (j + 1), by omega, j + 1, some q', ys ++ [y], Ms ++ [M], by omega, rfl, by rw [wrap_i64 (by omega)]; omega, by simp [hys], by simp [hMs], (fun e => by cases e), fun i e' y' M' g1 g2 g3 => ?_, ?_⟩, ⟨⟨_, _, Sep.ld0 hB rfl, rfl, rfl, rfl⟩, ⟨_, _, Sep.ld1 h11 rfl, rfl, rfl, rfl⟩, ⟨_, _, Sep.ld2 h14 rfl, rfl, rfl, rfl⟩, trivial⟩, trivial⟩
      · by_cases hi : i = j
        · subst hi
          rw [hge] at g1; obtain rfl := Option.some.inj g1
          rw [List.getElem?_append_right (by omega)] at g2 g3
          rw [show i - ys.length = 0 by omega] at g2
          rw [show i - Ms.length = 0 by omega] at g3
          obtain rfl := Option.some.inj g2
          obtain rfl := Option.some.inj g3
          exact hM
        · have hi2 : i < j := by
            have := (List.getElem?_eq_some_iff.1 g2).1
            rw [List.length_append, hys] at this
            simp only [List.length_cons, List.length_nil] at this
            omega
          rw [List.getElem?_append_left (by omega)] at g2 g3
          exact hok i e' y' M' g1 g2 g3
      · rw [List.map_append, List.map_append]
        have h20 := Sep.pick h19 5 [2, 4, 3, 0] (by decide)
        exact Sep.pick (mny_snoc h20) 3 [1, 2, 0] (by decide)
    have hcase : e = d ∨ e = dr := by
      have : j = 0 ∨ j = 1 ∨ j = 2 := by omega
      rcases this with rfl | rfl | rfl
      · exact .inl (Option.some.inj hge).symm
      · exact .inr (Option.some.inj hge).symm
      · exact .inr (Option.some.inj hge).symm
    rcases hcase with rfl | rfl
    · have hk := f.kind
      have hn := f.n
      have hpos : 0 ≤ (if e.kind = 2 then e.entries * cpus else e.entries) := by
        have := f.ents
        split
        · exact Int.mul_nonneg (by omega) (by omega)
        · omega
      refine made_s (E := E) (N := 1) (T := (if e.kind = 2 then e.entries * cpus else e.entries).toNat) hB (by omega) f.ents f.n f.words (by omega) (fun _ => rfl) f.bk f.cp (by omega) fun H11 y M hM h11 => hfin H11 y M hM h11
    · exact made_s (d := dr) (E := 2) (N := 2) (T := 2) hB (.inr (.inr (.inl rfl))) rfl (by omega) rfl (by omega) (fun h => absurd rfl h) rfl f.cp rfl fun H11 y M hM h11 => hfin H11 y M hM h11
  · have hj2 : j = 3 := by simp only [decide_eq_false_iff_not] at hlt; omega
    subst hj2
    obtain ⟨g, rfl⟩ : ∃ v, g = some v := by
      cases g with
      | none => have := hg rfl; omega
      | some v => exact ⟨v, rfl⟩
    match ys, hys, Ms, hMs with
    | [y, y2, y3], _, [M1, M2, M3], _ =>
      have o1 := hok 0 d y M1 rfl rfl rfl
      have o2 := hok 1 dr y2 M2 rfl rfl rfl
      have o3 := hok 2 dr y3 M3 rfl rfl rfl
      cases o2 with
      | ar nest lb eb qs hk => rcases hk with ⟨_, h, _⟩ | ⟨_, h, _⟩ | ⟨_, h, _⟩ <;> cases h
      | rc t2 _ =>
        cases o3 with
        | ar nest lb eb qs hk => rcases hk with ⟨_, h, _⟩ | ⟨_, h, _⟩ | ⟨_, h, _⟩ <;> cases h
        | rc t3 _ =>
          cases o1 with
          | rc t hk => have := f.kind; omega
          | ar nest lb eb qs hk =>
            refine hR H3 nest i4 g y y2 y3 lb eb qs t2 t3 hk ?_
            have h4 := Sep.many_iff.1 (Sep.up2 h3)
            -- many M1, many M2, many M3, i4 gl L
            have h5 := gl_some.1 (Sep.up4 h4)
            -- g M1 M2 M3 i4 L
            have h6 := Sep.many1.1 (Sep.up2 h5)
            have h7 := Sep.many1.1 (Sep.up3 h6)
            -- y3 y2 g M1 i4
            have h8 := Sep.many_iff.1 (Sep.up3 h7)
            -- yA lA vA y3 y2 g i4
            exact Sep.pick h8 7 [6, 5, 0, 1, 2, 4, 3] (by decide)
end Go.Proofs.Ythnifkjpkepbaaa

/-
  The document's model of maps, for arrays and maps of maps: what it does.
-/
namespace Go.Proofs.Ythnifkjpkepbaaa
open Go Go.AS Go.RowKit
set_option linter.unusedVariables false
variable {H H' H0 : Heap} {R : Value → Heap → Prop} {L M : List Asr} {A B : Asr} {ws : List (BitVec 64)} {qs : List Nat} {d : Dc} {k n inn cpus : Int} {y lb eb z : Nat} {nest : Bool}

/-- A map's three blocks. -/
abbrev m3 (y lb eb : Nat) (nest : Bool) (k n inn : Int) (qs : List Nat) (ws : List (BitVec 64)) : List Asr := [yA y lb eb nest k n inn qs.length, lA lb nest qs, vA nest eb qs ws]

theorem value_s {j q : Nat} {w key : BitVec 64} (h : Sep H (yA y lb eb nest k n inn qs.length :: lA lb nest qs :: vA nest eb qs ws :: L)) (hq : qs[j]? = some q) (hw : ws[j]? = some w) (hl : ws.length = qs.length) (hb : qs.length ≤ 1000)
    (hR : ∀ H' i, Sep H' (bx i (.cells true 1 (wds [w])) :: yA y lb eb nest k n inn qs.length :: lA lb nest qs :: vA nest eb qs ws :: L) → R (.slice (some ⟨i, 0, none⟩) 1 0) H') :
    CA en F.crossbarref11_Map_value [P y, .agg #[W key, .slice (some ⟨q, 0, none⟩) 1 0, I (if nest then 0 else (j : Int) + 1)]] H R := by
  apply vc_crossbarref11_Map_value
  have hj : j < qs.length := (List.getElem?_eq_some_iff.1 hq).1
  refine Sep.nw h fun i1 H2 h2 => ⟨_, Sep.ld0 h2 rfl, ?_⟩
  cases nest with
  | false =>
    refine cond_yes (by rw [decide_eq_true_iff]; show (0 : Int) < (j : Int) + 1; omega) ?_
    have hB := h2.bump 11
    refine asAddr_in ⟨_, _, Sep.ld1 hB rfl, _, Sep.ld0 hB rfl, ?_⟩
    have e : IntKind.i64.wrap ((if false = true then (0 : Int) else (j : Int) + 1) - 1) = (j : Int) := by
      show IntKind.i64.wrap ((j : Int) + 1 - 1) = _
      rw [wrap_i64 (by omega)]; omega
    rw [e]
    refine ⟨⟨by omega, by omega⟩, asRow_in ⟨_, Sep.ld3 hB (wds_get (by omega)), Sep.nw hB fun i12 H13 h13 => ⟨hR H13 i12 ?_, trivial⟩⟩⟩
    have ew : ws.getD j 0 = w := by rw [List.getD_eq_getElem?_getD, hw]; rfl
    rw [Int.toNat_natCast, ew] at h13
    exact Sep.rm1 h13
  | true =>
    refine cond_no rfl ⟨_, _, Sep.ld0 h2 rfl, ?_⟩
    have hv := rowsV_get hq hw
    have h3 := mny_out hv (Sep.up3 h2)
    -- v rest i1 y l
    refine CopyWords_s h3 (rdw_bx (q := q) (ws := [w]) List.mem_cons_self) rfl (by show 1 < 1000000000; decide) fun H17 q' hq' h17 => ⟨_, _, rfl, ?_⟩
    obtain ⟨i, rfl⟩ : ∃ i, q' = some i := by
      cases q' with
      | none => exact absurd (hq' rfl) (by simp)
      | some i => exact ⟨i, rfl⟩
    have h18 := gl_some.1 h17
    -- i v rest i1 y l
    have h19 := Sep.pick h18 6 [1, 2, 0, 4, 5] (by decide)
    have hlen : j < (rowsV qs ws).length := by rw [List.length_zipWith]; omega
    have h20 := mny_in hlen h19
    rw [set_same hv] at h20
    exact hR H17 i (Sep.pick h20 4 [1, 2, 3, 0] (by decide))

theorem set_s {j : Nat} {v : BitVec 64} {va : Option Addr} (h : Sep H (yA y lb eb nest k n inn qs.length :: lA lb nest qs :: vA nest eb qs ws :: L)) (hj : j < qs.length) (hl : ws.length = qs.length) (hb : qs.length ≤ 1000)
    (ra : RdW (yA y lb eb nest k n inn qs.length :: lA lb nest qs :: vA nest eb qs ws :: L) va [v])
    (hR : ∀ H' qs', qs'.length = qs.length → Sep H' (yA y lb eb nest k n inn qs.length :: lA lb nest qs' :: vA nest eb qs' (ws.set j v) :: L) → R undef H') :
    CA en F.crossbarref11_Map_set [P y, I j, .slice va 1 0] H R := by
  apply vc_crossbarref11_Map_set
  obtain ⟨q, hq⟩ : ∃ q, qs[j]? = some q := ⟨_, List.getElem?_eq_getElem hj⟩
  have hll := lrows_len 1 nest qs
  have hlk : j < (lrows 1 nest qs).length := by rw [List.length_mapIdx]; exact hj
  have hrow : Sep H (yA y lb eb nest k n inn qs.length :: bx lb (.cells true 3 ((lrows 1 nest qs).set j (lrow 1 nest j q)).flatten) :: vA nest eb qs ws :: L) := by rw [lrows_row hq]; exact h
  refine asAddr_in ⟨_, _, Sep.ld0 h rfl, ⟨by omega, by omega⟩, asRow_in ⟨if nest then 0 else (j : Int) + 1, ?_⟩⟩
  rw [Int.toNat_natCast]
  refine ⟨rowld hrow 1 rfl hll rfl hlk rfl, ?_⟩
  cases nest with
  | false =>
    refine cond_yes (by rw [decide_eq_true_iff]; show (0 : Int) < (j : Int) + 1; omega) ?_
    have hB := hrow.bump 18
    obtain ⟨g, rfl, e1⟩ := ra (H.bump 18) (h.bump 18) 0 v rfl
    refine asAddr_in ⟨_, _, Sep.ld0 hB rfl, asAddr_in ⟨_, _, Sep.ld0 hB rfl, ⟨by omega, by omega⟩, asRow_in ⟨_, rowld hB 1 rfl hll rfl hlk rfl, ⟨by omega, by omega⟩, asRow_in ⟨_, e1, ?_⟩⟩⟩⟩
    have e : IntKind.i64.wrap ((if false = true then (0 : Int) else (j : Int) + 1) - 1) = (j : Int) := by
      show IntKind.i64.wrap ((j : Int) + 1 - 1) = _
      rw [wrap_i64 (by omega)]; omega
    rw [e]
    refine ⟨⟨by omega, by omega⟩, asRow_in (Sep.st2 (h.bump 18) (by simp; omega) fun H24 h24 => ⟨hR H24 qs rfl ?_, trivial⟩)⟩
    have es : setAt (wds ws) (0 + (j : Int).toNat * 1) [W v] = wds (ws.set j v) := by
      rw [setAt1, Int.toNat_natCast, Nat.zero_add, Nat.mul_one]
      show (ws.map W).set j (W v) = (ws.set j v).map W
      rw [List.map_set]
    rw [es] at h24
    exact h24
  | true =>
    refine cond_no rfl (asAddr_in ⟨_, _, Sep.ld0 (hrow.bump 10) rfl, ?_⟩)
    refine CopyWords_s (h.bump 10) ra rfl (by show 1 < 1000000000; decide) fun H30 q' hq' h30 => ⟨_, _, rfl, ⟨by omega, by omega⟩, asRow_in ?_⟩
    obtain ⟨i, rfl⟩ : ∃ i, q' = some i := by
      cases q' with
      | none => exact absurd (hq' rfl) (by simp)
      | some i => exact ⟨i, rfl⟩
    have h31 : Sep H30 (bx i (.cells true 1 (wds [v])) :: yA y lb eb true k n inn qs.length :: bx lb (.cells true 3 ((lrows 1 true qs).set j (lrow 1 true j q)).flatten) :: vA true eb qs ws :: L) := by rw [lrows_row hq]; exact gl_some.1 h30
    refine rowst (vs := [.slice (addr (some i)) 1 0]) h31 2 rfl hll rfl hlk (Nat.le_of_ble_eq_true rfl) fun H35 h35 => ⟨hR H35 (qs.set j i) (by simp) ?_, ⟨⟨_, _, Sep.ld0 (h.bump 10) rfl, rfl, rfl, rfl⟩, ⟨_, _, Sep.ld1 h31 rfl, rfl, rfl, rfl⟩, trivial⟩, trivial⟩
    have e1 : (lrows 1 true qs).set j (setAt (lrow 1 true j q) 1 [.slice (addr (some i)) 1 0]) = lrows 1 true (qs.set j i) := lrows_set
    have h36 : Sep H35 (bx i (.cells true 1 (wds [v])) :: yA y lb eb true k n inn qs.length :: bx lb (.cells true 3 ((lrows 1 true qs).set j (setAt (lrow 1 true j q) 1 [.slice (addr (some i)) 1 0])).flatten) :: vA true eb qs ws :: L) := h35
    rw [e1] at h36
    obtain ⟨w, hw⟩ : ∃ w, ws[j]? = some w := ⟨_, List.getElem?_eq_getElem (by omega)⟩
    have h37 := mny_out (rowsV_get hq hw) (Sep.up3 h36)
    -- v0 rest i y l
    have h38 := mny_in (B := vrow i v) (by rw [List.length_zipWith]; omega) (Sep.pick h37 3 [2, 1] (by decide))
    rw [rowsV_set] at h38
    exact Sep.pick h38 3 [1, 2, 0] (by decide)
/-! ### What an operation tells, and what the words are then -/
structure Rs where
  no : Int
  val : List (BitVec 64)
  key : BitVec 64
  elem : Int
def aidx (k n : Int) (key : BitVec 64) (cpu : Int) : Nat := key.toNat + (if k = 2 then cpu * n else 0).toNat
def aans (nest : Bool) (k n : Int) (ws : List (BitVec 64)) (ok : Int) (key v : BitVec 64) (flag cpu : Int) : Rs × List (BitVec 64) :=
  if ok = 1 then
    if (key.toNat : Int) < n ∧ ¬ (nest = true ∧ ws.getD (aidx k n key cpu) 0 = 0) then (⟨0, [ws.getD (aidx k n key cpu) 0], 0, if nest then IntKind.i64.wrap ((ws.getD (aidx k n key cpu) 0).toNat) else (aidx k n key cpu : Int) + 1⟩, ws)
    else (⟨2, [], 0, 0⟩, ws)
  else if ok = 2 then
    if (key.toNat : Int) < n then if flag = 1 then (⟨3, [], 0, 0⟩, ws) else (⟨0, [], 0, 0⟩, ws.set (aidx k n key cpu) v)
    else (⟨4, [], 0, 0⟩, ws)
  else if ok = 3 then
    if (key.toNat : Int) < n ∧ ¬ (nest = true ∧ ws.getD (aidx k n key cpu) 0 = 0) then (⟨0, [], 0, 0⟩, ws.set (aidx k n key cpu) 0)
    else (⟨2, [], 0, 0⟩, ws)
  else if flag = 1 ∨ n ≤ (key.toNat : Int) then (⟨0, [], 0, 0⟩, ws)
  else if (key.toNat : Int) = n - 1 then (⟨2, [], 0, 0⟩, ws)
  else (⟨0, [], key + 1, 0⟩, ws)
theorem aans_no {ok : Int} {key v : BitVec 64} {flag cpu : Int} : (aans nest k n ws ok key v flag cpu).1.no ≠ 1 := by
  unfold aans
  repeat' split
  all_goals first | exact (by decide : (0 : Int) ≠ 1) | exact (by decide : (2 : Int) ≠ 1) | exact (by decide : (3 : Int) ≠ 1) | exact (by decide : (4 : Int) ≠ 1)
theorem aans_len {ok : Int} {key v : BitVec 64} {flag cpu : Int} : (aans nest k n ws ok key v flag cpu).2.length = ws.length := by
  unfold aans
  repeat' split
  all_goals simp
theorem aans_vlen {ok : Int} {key v : BitVec 64} {flag cpu : Int} : (aans nest k n ws ok key v flag cpu).1.val.length ≤ 1 := by
  unfold aans
  repeat' split
  all_goals first | exact Nat.le_refl 1 | exact Nat.zero_le 1

set_option maxHeartbeats 2000000 in
theorem array11_s {ok flag cpu : Int} {key v : BitVec 64} {va : Option Addr} {vn : Nat} (h : Sep H (yA y lb eb nest k n inn qs.length :: lA lb nest qs :: vA nest eb qs ws :: L)) (hl : ws.length = qs.length) (hb : qs.length ≤ 1000)
    (hk : (nest = true ∧ k = 9 ∧ (qs.length : Int) = n) ∨ (nest = false ∧ k ≠ 9)) (hn : 1 ≤ n ∧ n ≤ 64) (hcp : k = 2 → 0 ≤ cpu ∧ cpu ≤ 4) (hix : (key.toNat : Int) < n → aidx k n key cpu < qs.length)
    (ra : ok = 2 → vn = 1 ∧ RdW (yA y lb eb nest k n inn qs.length :: lA lb nest qs :: vA nest eb qs ws :: L) va [v])
    (hR : ∀ H' g qs', (g = none → (aans nest k n ws ok key v flag cpu).1.val = []) → qs'.length = qs.length → Sep H' (gl 1 g (wds (aans nest k n ws ok key v flag cpu).1.val) :: yA y lb eb nest k n inn qs.length :: lA lb nest qs' :: vA nest eb qs' (aans nest k n ws ok key v flag cpu).2 :: L) →
      R (.agg #[I (aans nest k n ws ok key v flag cpu).1.no, .slice (addr g) (aans nest k n ws ok key v flag cpu).1.val.length 0, .int .u64 (aans nest k n ws ok key v flag cpu).1.key.toNat, I (aans nest k n ws ok key v flag cpu).1.elem]) H') :
    CA en F.crossbarref11_Map_array [P y, .agg #[I ok, .int .u64 key.toNat, .slice va vn 0, I flag, I cpu]] H R := by
  apply vc_crossbarref11_Map_array
  have en : IntKind.u64.wrap n = n := u64_self (by omega) (by omega)
  have ek : Int.tmod (key.toNat : Int) n = (key.toNat : Int) % n := Int.tmod_eq_emod_of_nonneg (by omega)
  have m1 := Int.emod_nonneg (key.toNat : Int) (b := n) (by omega)
  have m2 := Int.emod_lt_of_pos (key.toNat : Int) (b := n) (by omega)
  have e9 : (k == 9) = nest := by
    rcases hk with ⟨rfl, rfl, _⟩ | ⟨rfl, h9⟩
    · rfl
    · rw [beq_eq_false_iff_ne]; exact h9
  refine Sep.nw h fun i1 H2 h2 => Sep.nw h2 fun i3 H4 h4 => ?_
  -- i3 i1 y l v
  refine asAddr_in ⟨_, Sep.ld2 h4 rfl, _, Sep.ld1 h4 rfl, ?_⟩
  rw [en, ek]
  refine ⟨by show n ≠ 0; omega, ?_⟩
  refine ⟨fun vs H' => ∃ t : Nat, vs = [I t] ∧ ((key.toNat : Int) < n → t = aidx k n key cpu) ∧ (nest = true → t < qs.length) ∧ Sep H' (bx i3 (.cells true 0 [I 0, .slice none 0 0, .int .u64 0, I 0]) :: bx i1 (.cells true 0 [I ok, .int .u64 key.toNat, .slice va vn 0, I flag, I cpu]) :: yA y lb eb nest k n inn qs.length :: lA lb nest qs :: vA nest eb qs ws :: L), ?_, ?_⟩
  · refine asAddr_in ⟨_, Sep.ld2 h4 rfl, cond_of (fun z => ?_) fun z => ?_⟩
    · have z : k = 2 := by simpa using z
      have hB := h4.bump 11
      refine ⟨_, Sep.ld1 hB rfl, asAddr_in ⟨_, Sep.ld2 hB rfl, ?_, trivial⟩⟩
      have c1 := hcp z
      have p1 : 0 ≤ cpu * n := Int.mul_nonneg c1.1 (by omega)
      have p2 : cpu * n ≤ 4 * n := Int.mul_le_mul_of_nonneg_right c1.2 (by omega)
      refine ⟨((key.toNat : Int) % n + cpu * n).toNat, ?_, fun hlt => ?_, fun hne => ?_, hB⟩
      · rw [wrap_i64 (n := (key.toNat : Int) % n) (by omega), wrap_i64 (n := cpu * n) (by omega), wrap_i64 (by omega)]
        show [I _] = [I _]
        rw [Int.toNat_of_nonneg (by omega)]
      · unfold aidx
        rw [if_pos z, Int.emod_eq_of_lt (by omega) hlt]
        omega
      · rcases hk with ⟨_, h9, _⟩ | ⟨h9, _⟩
        · omega
        · rw [h9] at hne; cases hne
    · have z : ¬ k = 2 := by simpa using z
      refine ⟨((key.toNat : Int) % n).toNat, ?_, fun hlt => ?_, fun hne => ?_, h4⟩
      · rw [wrap_i64 (n := (key.toNat : Int) % n) (by omega)]
        show [I _] = [I _]
        rw [Int.toNat_of_nonneg (by omega)]
      · unfold aidx
        rw [if_neg z, Int.emod_eq_of_lt (by omega) hlt]
        omega
      · rcases hk with ⟨_, h9, h10⟩ | ⟨h9, _⟩
        · omega
        · rw [h9] at hne; cases hne
  rintro ys17 H18 n19 ⟨t, e19, ht, htn, h18⟩
  obtain rfl := one_int e19
  have hll := lrows_len 1 nest qs
  have eword : ∀ {H5 : Heap} {q : Nat} {w : BitVec 64} {A B C D : Asr} {L' : List Asr}, nest = true → qs[t]? = some q → ws[t]? = some w → Sep H5 (A :: B :: C :: D :: vA nest eb qs ws :: L') → H5.cell q 0 = some (W w) := fun hne hq hw h5 => by
    subst hne
    exact Sep.ld0 (mny_out (rowsV_get hq hw) (Sep.up4 h5)) rfl
  refine ⟨_, Sep.ld1 h18 rfl, ?_⟩
  refine ⟨fun vs H' => vs = [.bool (decide ((key.toNat : Int) < n ∧ ¬ (nest = true ∧ ws.getD t 0 = 0 ∧ ok ≠ 2 ∧ ok ≠ 4)))] ∧ Sep H' (bx i3 (.cells true 0 [I 0, .slice none 0 0, .int .u64 0, I 0]) :: bx i1 (.cells true 0 [I ok, .int .u64 key.toNat, .slice va vn 0, I flag, I cpu]) :: yA y lb eb nest k n inn qs.length :: lA lb nest qs :: vA nest eb qs ws :: L), ?_, ?_⟩
  · have done : ¬ (nest = true ∧ ws.getD t 0 = 0 ∧ ok ≠ 2 ∧ ok ≠ 4) → [Value.bool (decide ((key.toNat : Int) < n))] = [.bool (decide ((key.toNat : Int) < n ∧ ¬ (nest = true ∧ ws.getD t 0 = 0 ∧ ok ≠ 2 ∧ ok ≠ 4)))] := fun hh => by
      rw [decide_eq_decide.2 (and_iff_left hh)]
    refine asAddr_in ⟨_, Sep.ld2 h18 rfl, ?_⟩
    rw [e9]
    refine cond_of (fun z => ?_) fun z => ⟨done (fun hh => by rw [z] at hh; cases hh.1), h18⟩
    have htl := htn z
    obtain ⟨q, hq⟩ : ∃ q, qs[t]? = some q := ⟨_, List.getElem?_eq_getElem htl⟩
    obtain ⟨w, hw⟩ : ∃ w, ws[t]? = some w := ⟨_, List.getElem?_eq_getElem (by omega)⟩
    have hwd : ws.getD t 0 = w := by rw [List.getD_eq_getElem?_getD, hw]; rfl
    have hlk : t < (lrows 1 nest qs).length := by rw [List.length_mapIdx]; exact htl
    have hrow : Sep H18 (bx i3 (.cells true 0 [I 0, .slice none 0 0, .int .u64 0, I 0]) :: bx i1 (.cells true 0 [I ok, .int .u64 key.toNat, .slice va vn 0, I flag, I cpu]) :: yA y lb eb nest k n inn qs.length :: bx lb (.cells true 3 ((lrows 1 nest qs).set t (lrow 1 nest t q)).flatten) :: vA nest eb qs ws :: L) := by rw [lrows_row hq]; exact h18
    refine asAddr_in ⟨_, _, Sep.ld2 h18 rfl, ⟨by omega, by omega⟩, asRow_in ⟨some ⟨q, 0, none⟩, 1, ?_⟩⟩
    rw [Int.toNat_natCast]
    refine ⟨rowld hrow 3 rfl hll rfl hlk rfl, ⟨by omega, by omega⟩, asRow_in ⟨_, eword z hq hw h18, cond_of (fun z0 => ?_) fun z0 => ?_⟩⟩
    · have z0 : w = 0 := by
        have : (w.toNat : Int) = 0 := by simpa using z0
        exact BitVec.eq_of_toNat_eq (by simpa using this)
      refine ⟨_, Sep.ld1 h18 rfl, cond_of (fun z2 => ⟨_, Sep.ld1 h18 rfl, cond_of (fun z4 => ?_) fun z4 => ?_⟩) fun z2 => ?_⟩
      · have z2 : ok ≠ 2 := by simpa using z2
        have z4 : ok ≠ 4 := by simpa using z4
        refine ⟨?_, h18⟩
        have : ¬ ((key.toNat : Int) < n ∧ ¬ (nest = true ∧ ws.getD t 0 = 0 ∧ ok ≠ 2 ∧ ok ≠ 4)) := fun hh => hh.2 ⟨z, hwd.trans z0, z2, z4⟩
        rw [decide_eq_false this]
      · have z4 : ok = 4 := by simpa using z4
        exact ⟨done fun hh => hh.2.2.2 z4, h18⟩
      · have z2 : ok = 2 := by simpa using z2
        exact ⟨done fun hh => hh.2.2.1 z2, h18⟩
    · have z0 : w ≠ 0 := by
        rintro rfl
        simp at z0
      exact ⟨done fun hh => z0 (hwd.symm.trans hh.2.1), h18⟩
  rintro ys38 H39 b40 ⟨e40, h39⟩
  obtain rfl := one_bool e40
  unfold aans at hR
  have fin : ∀ (no : Int) (k' : BitVec 64) (ws' : List (BitVec 64)) {H5 : Heap} {qs' : List Nat}, qs'.length = qs.length → (∀ H' g qs', (g = none → ([] : List (BitVec 64)) = []) → qs'.length = qs.length → Sep H' (gl 1 g (wds []) :: yA y lb eb nest k n inn qs.length :: lA lb nest qs' :: vA nest eb qs' ws' :: L) → R (.agg #[I no, .slice (addr g) ([] : List (BitVec 64)).length 0, .int .u64 k'.toNat, I 0]) H') →
      Sep H5 (bx i3 (.cells true 0 [I 0, .slice none 0 0, .int .u64 0, I 0]) :: bx i1 (.cells true 0 [I ok, .int .u64 key.toNat, .slice va vn 0, I flag, I cpu]) :: yA y lb eb nest k n inn qs.length :: lA lb nest qs' :: vA nest eb qs' ws' :: L) →
      stc H5 i3 0 [I no, .slice none 0 0, .int .u64 k'.toNat, I 0] fun H11 => ∃ n12 a13 i14 n15 n16, H11.cellsAt i3 0 4 = some [I n12, .slice a13 i14 0, .int .u64 n15, I n16] ∧ R (.agg #[I n12, .slice a13 i14 0, .int .u64 n15, I n16]) H11 := fun no k' ws' H5 qs' hq' hR h5 => by
    exact Sep.st0 h5 (Nat.le_of_ble_eq_true rfl) fun H11 h11 => ⟨_, _, _, _, _, Sep.lds0 h11 rfl, hR H11 none qs' (fun _ => rfl) hq' (gl_none.2 h11.tail.tail)⟩
  refine ⟨_, Sep.ld1 h39 rfl, cond_of (fun z1 => ?_) fun z1 => cond_of (fun z2 => ?_) fun z2 => cond_of (fun z3 => ?_) fun z3 => ?_⟩
  · have z1 : ok = 1 := by simpa using z1
    rw [if_pos z1] at hR
    refine cond_of (fun zt => ?_) fun zt => ?_
    · have zt : ¬ ((key.toNat : Int) < n ∧ ¬ (nest = true ∧ ws.getD t 0 = 0 ∧ ok ≠ 2 ∧ ok ≠ 4)) := by rw [Bool.not_eq_true'] at zt; exact of_decide_eq_false zt
      have : ¬ ((key.toNat : Int) < n ∧ ¬ (nest = true ∧ ws.getD (aidx k n key cpu) 0 = 0)) := fun hh => zt ⟨hh.1, fun h2 => hh.2 ⟨h2.1, by rw [← ht hh.1]; exact h2.2.1⟩⟩
      rw [if_neg this] at hR
      exact fin 2 0 ws rfl hR h39
    · have zt : ((key.toNat : Int) < n ∧ ¬ (nest = true ∧ ws.getD t 0 = 0 ∧ ok ≠ 2 ∧ ok ≠ 4)) := by rw [Bool.not_eq_false'] at zt; exact of_decide_eq_true zt
      have et := ht zt.1
      have htl : t < qs.length := by rw [et]; exact hix zt.1
      rw [← et] at hR
      have : ((key.toNat : Int) < n ∧ ¬ (nest = true ∧ ws.getD t 0 = 0)) := ⟨zt.1, fun h2 => zt.2 ⟨h2.1, h2.2, by omega, by omega⟩⟩
      rw [if_pos this] at hR
      obtain ⟨q, hq⟩ : ∃ q, qs[t]? = some q := ⟨_, List.getElem?_eq_getElem htl⟩
      obtain ⟨w, hw⟩ : ∃ w, ws[t]? = some w := ⟨_, List.getElem?_eq_getElem (by omega)⟩
      have hwd : ws.getD t 0 = w := by rw [List.getD_eq_getElem?_getD, hw]; rfl
      rw [hwd] at hR
      have hlk : t < (lrows 1 nest qs).length := by rw [List.length_mapIdx]; exact htl
      have hrow : Sep H39 (bx i3 (.cells true 0 [I 0, .slice none 0 0, .int .u64 0, I 0]) :: bx i1 (.cells true 0 [I ok, .int .u64 key.toNat, .slice va vn 0, I flag, I cpu]) :: yA y lb eb nest k n inn qs.length :: bx lb (.cells true 3 ((lrows 1 nest qs).set t (lrow 1 nest t q)).flatten) :: vA nest eb qs ws :: L) := by rw [lrows_row hq]; exact h39
      refine asAddr_in ⟨_, _, Sep.ld2 h39 rfl, ⟨by omega, by omega⟩, asRow_in ⟨(if nest then 0 else (t : Int) + 1), ?_⟩⟩
      rw [Int.toNat_natCast]
      refine ⟨rowld hrow 3 rfl hll rfl hlk rfl, ?_⟩
      refine ⟨fun vs H' => vs = [I (if nest then IntKind.i64.wrap (w.toNat) else (t : Int) + 1)] ∧ Sep H' (bx i3 (.cells true 0 [I 0, .slice none 0 0, .int .u64 0, I 0]) :: bx i1 (.cells true 0 [I ok, .int .u64 key.toNat, .slice va vn 0, I flag, I cpu]) :: yA y lb eb nest k n inn qs.length :: bx lb (.cells true 3 ((lrows 1 nest qs).set t (lrow 1 nest t q)).flatten) :: vA nest eb qs ws :: L), ?_, ?_⟩
      · refine asAddr_in ⟨_, Sep.ld2 hrow rfl, ?_⟩
        rw [e9]
        refine cond_of (fun z => ?_) fun z => ?_
        · refine asAddr_in ⟨_, _, Sep.ld2 hrow rfl, ⟨by omega, by omega⟩, asRow_in ⟨some ⟨q, 0, none⟩, 1, rowld hrow 3 rfl hll rfl hlk rfl, ⟨by omega, by omega⟩, asRow_in ⟨_, eword z hq hw hrow, ?_, hrow⟩⟩⟩
          rw [z]; rfl
        · refine ⟨?_, hrow⟩
          rw [z]; rfl
      rintro ys70 H71 n72 ⟨e72, h71⟩
      obtain rfl := one_int e72
      refine asAddr_in ⟨_, _, Sep.ld2 h71 rfl, ⟨by omega, by omega⟩, asRow_in ⟨((BitVec.ofNat 64 t).toNat : Int), some ⟨q, 0, none⟩, 1, (if nest then 0 else (t : Int) + 1), ?_⟩⟩
      refine ⟨rowlds (o := 0) h71 3 rfl hll rfl hlk rfl, ?_⟩
      rw [lrows_row hq] at h71
      refine value_s (Sep.pick h71 5 [2, 3, 4, 0, 1] (by decide)) hq hw hl hb fun H84 i h84 => ⟨_, _, rfl, ?_⟩
      -- i y l v i3 i1
      refine Sep.st4 h84 (Nat.le_of_ble_eq_true rfl) fun H87 h87 => ⟨_, _, _, _, _, Sep.lds4 h87 rfl, ?_⟩
      refine hR H87 (some i) qs (fun e => by cases e) rfl (gl_some.2 ?_)
      exact Sep.pick h87 6 [0, 1, 2, 3] (by decide)
  · have z1 : ¬ ok = 1 := by simpa using z1
    have z2 : ok = 2 := by simpa using z2
    rw [if_neg z1, if_pos z2] at hR
    refine cond_of (fun zt => ?_) fun zt => ⟨_, Sep.ld1 h39 rfl, ?_⟩
    · have zt : ¬ ((key.toNat : Int) < n ∧ ¬ (nest = true ∧ ws.getD t 0 = 0 ∧ ok ≠ 2 ∧ ok ≠ 4)) := by rw [Bool.not_eq_true'] at zt; exact of_decide_eq_false zt
      have : ¬ ((key.toNat : Int) < n) := fun hh => zt ⟨hh, fun h2 => h2.2.2.1 z2⟩
      rw [if_neg this] at hR
      exact fin 4 0 ws rfl hR h39
    · have zt : ((key.toNat : Int) < n ∧ ¬ (nest = true ∧ ws.getD t 0 = 0 ∧ ok ≠ 2 ∧ ok ≠ 4)) := by rw [Bool.not_eq_false'] at zt; exact of_decide_eq_true zt
      have et := ht zt.1
      have htl : t < qs.length := by rw [et]; exact hix zt.1
      rw [← et, if_pos zt.1] at hR
      refine cond_of (fun zf => ?_) fun zf => ⟨_, _, Sep.ld1 h39 rfl, ?_⟩
      · have zf : flag = 1 := by simpa using zf
        rw [if_pos zf] at hR
        exact fin 3 0 ws rfl hR h39
      · have zf : ¬ flag = 1 := by simpa using zf
        rw [if_neg zf] at hR
        obtain ⟨rfl, rw'⟩ := ra z2
        refine set_s (Sep.pick h39 5 [2, 3, 4, 0, 1] (by decide)) htl hl hb (fun H' hs j x hx => rw' H' (Sep.pick hs 5 [0, 1, 2] (by decide)) j x hx) fun H109 qs' hq' h109 => ⟨rfl, ?_⟩
        exact fin 0 0 _ hq' hR (Sep.pick h109 5 [3, 4, 0, 1, 2] (by decide))
  · have z1 : ¬ ok = 1 := by simpa using z1
    have z2 : ¬ ok = 2 := by simpa using z2
    have z3 : ok = 3 := by simpa using z3
    rw [if_neg z1, if_neg z2, if_pos z3] at hR
    refine cond_of (fun zt => ?_) fun zt => ?_
    · have zt : ¬ ((key.toNat : Int) < n ∧ ¬ (nest = true ∧ ws.getD t 0 = 0 ∧ ok ≠ 2 ∧ ok ≠ 4)) := by rw [Bool.not_eq_true'] at zt; exact of_decide_eq_false zt
      have : ¬ ((key.toNat : Int) < n ∧ ¬ (nest = true ∧ ws.getD (aidx k n key cpu) 0 = 0)) := fun hh => zt ⟨hh.1, fun h2 => hh.2 ⟨h2.1, by rw [← ht hh.1]; exact h2.2.1⟩⟩
      rw [if_neg this] at hR
      exact fin 2 0 ws rfl hR h39
    · have zt : ((key.toNat : Int) < n ∧ ¬ (nest = true ∧ ws.getD t 0 = 0 ∧ ok ≠ 2 ∧ ok ≠ 4)) := by rw [Bool.not_eq_false'] at zt; exact of_decide_eq_true zt
      have et := ht zt.1
      have htl : t < qs.length := by rw [et]; exact hix zt.1
      rw [← et] at hR
      have : ((key.toNat : Int) < n ∧ ¬ (nest = true ∧ ws.getD t 0 = 0)) := ⟨zt.1, fun h2 => zt.2 ⟨h2.1, h2.2, by omega, by omega⟩⟩
      rw [if_pos this] at hR
      refine Sep.nw h39 fun i122 H123 h123 => ?_
      have h124 : Sep H123 (yA y lb eb nest k n inn qs.length :: lA lb nest qs :: vA nest eb qs ws :: bx i122 (.cells true 1 (wds [0])) :: _) := Sep.pick h123 6 [3, 4, 5, 0, 1, 2] (by decide)
      refine set_s h124 htl hl hb (rdw_bx (ws := [0]) (List.mem_cons_of_mem _ (List.mem_cons_of_mem _ (List.mem_cons_of_mem _ List.mem_cons_self)))) fun H125 qs' hq' h125 => ⟨rfl, ?_⟩
      exact fin 0 0 _ hq' hR (Sep.pick h125 6 [4, 5, 0, 1, 2] (by decide))
  · have z1 : ¬ ok = 1 := by simpa using z1
    have z2 : ¬ ok = 2 := by simpa using z2
    have z3 : ¬ ok = 3 := by simpa using z3
    rw [if_neg z1, if_neg z2, if_neg z3] at hR
    refine ⟨_, Sep.ld1 h39 rfl, cond_of (fun zf => ?_) fun zf => ⟨_, Sep.ld1 h39 rfl, cond_of (fun zk => ?_) fun zk => ⟨_, Sep.ld1 h39 rfl, cond_of (fun ze => ?_) fun ze => ⟨_, Sep.ld1 h39 rfl, ?_⟩⟩⟩⟩
    · have zf : flag = 1 := by simpa using zf
      rw [if_pos (.inl zf)] at hR
      exact fin 0 0 ws rfl hR h39
    · have zk : n ≤ (key.toNat : Int) := by simp only [decide_eq_true_eq] at zk; omega
      rw [if_pos (.inr zk)] at hR
      exact fin 0 0 ws rfl hR h39
    · have zf : ¬ flag = 1 := by simpa using zf
      have zk : ¬ n ≤ (key.toNat : Int) := by simp only [decide_eq_false_iff_not] at zk; omega
      rw [u64_self (n := n - 1) (by omega) (by omega)] at ze
      have ze : (key.toNat : Int) = n - 1 := by simpa using ze
      rw [if_neg (by rintro (h | h); exact zf h; exact zk h), if_pos ze] at hR
      exact fin 2 0 ws rfl hR h39
    · have zf : ¬ flag = 1 := by simpa using zf
      have zk : ¬ n ≤ (key.toNat : Int) := by simp only [decide_eq_false_iff_not] at zk; omega
      rw [u64_self (n := n - 1) (by omega) (by omega)] at ze
      have ze : ¬ (key.toNat : Int) = n - 1 := by simpa using ze
      rw [if_neg (by rintro (h | h); exact zf h; exact zk h), if_neg ze] at hR
      have e : IntKind.u64.wrap ((key.toNat : Int) + 1) = ((key + 1 : BitVec 64).toNat : Int) := by
        rw [u64_self (by omega) (by omega), BitVec.toNat_add]
        have : (1 : BitVec 64).toNat = 1 := rfl
        rw [this, Nat.mod_eq_of_lt (by omega)]; omega
      rw [e]
      exact fin 0 (key + 1) ws rfl hR h39
end Go.Proofs.Ythnifkjpkepbaaa

/-
  The document's model of maps, for arrays and maps of maps: which operations may be; what it answers.
-/
namespace Go.Proofs.Ythnifkjpkepbaaa
open Go Go.AS Go.RowKit
set_option linter.unusedVariables false
variable {H H' H0 : Heap} {R : Value → Heap → Prop} {L M : List Asr} {A B : Asr} {ws val : List (BitVec 64)} {qs : List Nat} {d : Dc} {k n inn cpus ok flag cpu : Int} {key : BitVec 64} {mx al y y2 y3 lb eb z vn : Nat} {nest : Bool} {t2 t3 : List Value} {va : Option Addr}

def flagB (ok flag : Int) : Bool := if ok = 2 then decide (0 ≤ flag) && decide (flag ≤ 2) else if ok = 4 then flag == 0 || flag == 1 else flag == 0
structure RightP (nest : Bool) (k cpus ok : Int) (val : List (BitVec 64)) (flag cpu : Int) : Prop where
  does : ok ∈ (kindD k).does
  hcpu : k = 2 → 0 ≤ cpu ∧ cpu < cpus
  hval : ok = 2 → val.length = 1
  hnest : nest = true → ok = 2 → (val.getD 0 0).toNat = 2 ∨ (val.getD 0 0).toNat = 3
  hflag : flagB ok flag = true
theorem does_op (hk : k = 1 ∨ k = 2 ∨ k = 9) (h : ok ∈ (kindD k).does) : ok = 1 ∨ ok = 2 ∨ (ok = 3 ∧ k = 9) ∨ ok = 4 := by
  rcases hk with rfl | rfl | rfl
  · have h : ok ∈ [1, 2, 4] := h
    simp at h; omega
  · have h : ok ∈ [1, 2, 4] := h
    simp at h; omega
  · have h : ok ∈ [3, 1, 2, 4] := h
    simp at h; omega
theorem flag11_s (h : Sep H L) (hop : ok = 1 ∨ ok = 2 ∨ ok = 3 ∨ ok = 4) (hR : ∀ H', Sep H' L → R (.bool (flagB ok flag)) H') :
    CA en F.crossbarref11_flag [.agg #[I d.kind, I d.entries, I d.words, I d.buckets, I d.inner], .agg #[I ok, .int .u64 key.toNat, .slice va vn 0, I flag, I cpu]] H R := by
  apply vc_crossbarref11_flag
  refine Sep.nw h fun i1 H2 h2 => Sep.nw h2 fun i3 H4 h4 => ⟨_, Sep.ld0 h4 rfl, ?_⟩
  have hR := hR H4 h4.tail.tail
  unfold flagB at hR
  refine cond_of (fun z => ⟨_, Sep.ld0 h4 rfl, cond_of (fun z2 => ⟨_, Sep.ld0 h4 rfl, ?_⟩) fun z2 => ?_⟩) fun z => cond_of (fun z6 => ?_) fun z6 => cond_of (fun z4 => ⟨_, Sep.ld0 h4 rfl, cond_of (fun z0 => ?_) fun z0 => ⟨_, Sep.ld0 h4 rfl, ?_⟩⟩) fun z4 => ⟨_, Sep.ld0 h4 rfl, ?_⟩
  · have z : ok = 2 := by simpa using z
    rw [if_pos z, show decide (0 ≤ flag) = true from z2] at hR
    exact hR
  · have z : ok = 2 := by simpa using z
    rw [if_pos z, show decide (0 ≤ flag) = false from z2] at hR
    exact hR
  · have z6 : ok = 6 := by simpa using z6
    omega
  · have z : ¬ ok = 2 := by simpa using z
    have z4 : ok = 4 := by simpa using z4
    rw [if_neg z, if_pos z4, z0] at hR
    exact hR
  · have z : ¬ ok = 2 := by simpa using z
    have z4 : ok = 4 := by simpa using z4
    rw [if_neg z, if_pos z4, z0] at hR
    exact hR
  · have z : ¬ ok = 2 := by simpa using z
    have z4 : ¬ ok = 4 := by simpa using z4
    rw [if_neg z, if_neg z4] at hR
    exact hR

/-- The model of three maps. -/
abbrev mxA (mx al : Nat) (cpus : Int) : Asr := bx mx (.cells true 0 [.slice (some ⟨al, 0, none⟩) 3 0, I cpus])
abbrev alA (al y y2 y3 : Nat) : Asr := bx al (.cells true 1 [P y, P y2, P y3])
abbrev drA (y : Nat) (t : List Value) : Asr := bx y (.cells true 0 (dr.cells ++ t))

set_option maxHeartbeats 2000000 in
theorem right11_s (h : Sep H (mxA mx al cpus :: alA al y y2 y3 :: yA y lb eb nest k n inn z :: drA y2 t2 :: drA y3 t3 :: L)) (hk : (nest = false ∧ k = 1) ∨ (nest = false ∧ k = 2) ∨ (nest = true ∧ k = 9 ∧ inn = 2)) (hc : cpus ≤ 4)
    (ra : RdW (mxA mx al cpus :: alA al y y2 y3 :: yA y lb eb nest k n inn z :: drA y2 t2 :: drA y3 t3 :: L) va val) (hvn : vn = val.length)
    (hR1 : RightP nest k cpus ok val flag cpu → ∀ H', Sep H' (mxA mx al cpus :: alA al y y2 y3 :: yA y lb eb nest k n inn z :: drA y2 t2 :: drA y3 t3 :: L) → R (.bool true) H')
    (hR2 : ¬ RightP nest k cpus ok val flag cpu → ∀ H', Sep H' (mxA mx al cpus :: alA al y y2 y3 :: yA y lb eb nest k n inn z :: drA y2 t2 :: drA y3 t3 :: L) → R (.bool false) H') :
    CA en F.crossbarref11_Maps_right [P mx, I 1, .agg #[I ok, .int .u64 key.toNat, .slice va vn 0, I flag, I cpu]] H R := by
  apply vc_crossbarref11_Maps_right
  have hk' : k = 1 ∨ k = 2 ∨ k = 9 := by omega
  refine Sep.nw h fun i1 H2 h2 => cond_no rfl (asAddr_in ⟨_, _, Sep.ld1 h2 rfl, cond_no rfl (asAddr_in ⟨_, _, Sep.ld1 h2 rfl, ⟨by decide, by decide⟩, asRow_in ⟨_, Sep.ld2 h2 rfl, asAddr_in ⟨_, _, _, _, _, Sep.lds3 h2 rfl, ?_⟩⟩⟩)⟩)
  refine Sep.nw h2 fun i21 H22 h22 => Sep.st0 h22 (Nat.le_of_ble_eq_true rfl) fun H23 h23 => ?_
  have hB := h23.bump 25
  -- i21 i1 mx al y y2 y3
  let Ls : List Asr := bx i21 (.cells true 0 [I k, I n, I 1, I 0, I inn]) :: bx i1 (.cells true 0 [I ok, .int .u64 key.toNat, .slice va vn 0, I flag, I cpu]) :: mxA mx al cpus :: alA al y y2 y3 :: yA y lb eb nest k n inn z :: drA y2 t2 :: drA y3 t3 :: L
  refine ⟨fun _ H' => (ok ∈ (kindD k).does ∧ (k = 2 → 0 ≤ cpu ∧ cpu < cpus)) ∧ Sep H' Ls, ?_, ?_⟩
  · refine ⟨_, Sep.ld0 hB rfl, _, Sep.ld1 hB rfl, RMay_ok ⟨_, rfl, cond_of (fun zm => ⟨?_, trivial⟩) fun zm => ⟨_, Sep.ld0 hB rfl, cond_of (fun z2 => ?_) fun z2 => ⟨⟨⟨?_, fun e => ?_⟩, hB⟩, trivial⟩⟩⟩⟩
    · have zm : ¬ ok ∈ (kindD k).does := by rw [Bool.not_eq_true'] at zm; exact of_decide_eq_false zm
      exact hR2 (fun p => zm p.does) _ hB.tail.tail
    · have zm : ok ∈ (kindD k).does := by rw [Bool.not_eq_false'] at zm; exact of_decide_eq_true zm
      have z2 : k = 2 := by simpa using z2
      refine ⟨_, Sep.ld1 hB rfl, cond_of (fun zc => ⟨?_, trivial⟩) fun zc => ⟨_, Sep.ld1 hB rfl, asAddr_in ⟨_, Sep.ld2 hB rfl, cond_of (fun zd => ?_) fun zd => ⟨⟨zm, fun _ => ?_⟩, hB⟩, trivial⟩⟩⟩
      · have zc := of_decide_eq_true zc
        exact hR2 (fun p => by have := (p.hcpu z2).1; omega) _ hB.tail.tail
      · have zd := of_decide_eq_true zd
        exact hR2 (fun p => by have := (p.hcpu z2).2; omega) _ hB.tail.tail
      · have zc := of_decide_eq_false zc
        have zd := of_decide_eq_false zd
        omega
    · rw [Bool.not_eq_false'] at zm; exact of_decide_eq_true zm
    · rw [e] at z2; cases z2
  rintro ys36 H37 ⟨⟨c1, c2⟩, h37⟩
  have hop := does_op hk' c1
  have hop4 : ok = 1 ∨ ok = 2 ∨ ok = 3 ∨ ok = 4 := by omega
  refine ⟨fun vs H' => vs = [.bool (decide (ok = 2))] ∧ Sep H' Ls, ?_, ?_⟩
  · refine ⟨_, Sep.ld1 h37 rfl, cond_of (fun z2 => ?_) fun z2 => ⟨_, Sep.ld1 h37 rfl, cond_no (by rw [beq_eq_false_iff_ne]; omega) ⟨_, Sep.ld1 h37 rfl, cond_no (by rw [beq_eq_false_iff_ne]; omega) ?_⟩⟩⟩
    · have z2 : ok = 2 := by simpa using z2
      exact ⟨by rw [decide_eq_true z2], h37⟩
    · have z2 : ¬ ok = 2 := by simpa using z2
      exact ⟨by rw [decide_eq_false z2], h37⟩
  rintro ys43 H44 b45 ⟨e45, h44⟩
  obtain rfl := one_bool e45
  refine ⟨fun _ H' => (ok = 2 → val.length = 1) ∧ Sep H' Ls, ?_, ?_⟩
  · refine cond_of (fun z2 => ⟨_, _, Sep.ld1 h44 rfl, _, Sep.ld0 h44 rfl, cond_of (fun zl => ?_) fun zl => ?_⟩) fun z2 => ⟨fun e => absurd e (of_decide_eq_false z2), h44⟩
    · have z2 := of_decide_eq_true z2
      refine hR2 (fun p => ?_) _ h44.tail.tail
      have := p.hval z2
      rw [hvn, this] at zl
      cases zl
    · have zl : ((vn : Nat) : Int) = 1 := by simpa using zl
      exact ⟨fun _ => by omega, h44⟩
  rintro ys50 H51 ⟨c3, h51⟩
  have ra7 : RdW Ls va val := fun H' hs j x hx => ra H' hs.tail.tail j x hx
  refine ⟨fun _ H' => (nest = true → ok = 2 → (val.getD 0 0).toNat = 2 ∨ (val.getD 0 0).toNat = 3) ∧ Sep H' Ls, ?_, ?_⟩
  · refine ⟨_, Sep.ld1 h51 rfl, cond_of (fun z2 => ?_) fun z2 => ⟨fun _ e => ?_, h51⟩⟩
    · have z2 : ok = 2 := by simpa using z2
      refine ⟨_, Sep.ld0 h51 rfl, Nested_ok ⟨_, rfl, cond_of (fun zn => ?_) fun zn => ⟨fun e _ => ?_, h51⟩⟩⟩
      · have hn9 : nest = true ∧ k = 9 ∧ inn = 2 := by
          rcases hk with ⟨_, rfl⟩ | ⟨_, rfl⟩ | h
          · cases zn
          · cases zn
          · exact h
        obtain ⟨rfl, rfl, rfl⟩ := hn9
        have hvl := c3 z2
        obtain ⟨w, rfl⟩ : ∃ w, val = [w] := by
          match val, hvl with
          | [w], _ => exact ⟨w, rfl⟩
        have hvn : vn = 1 := hvn
        subst hvn
        obtain ⟨g, rfl, e1⟩ := ra7 H51 h51 0 w rfl
        have hC := h51.bump 39
        refine ⟨_, _, Sep.ld1 h51 rfl, ⟨by decide, by decide⟩, asRow_in ⟨_, e1, cond_of (fun zl => ⟨hR2 (fun p => ?_) _ hC.tail.tail, trivial⟩) fun zl => asAddr_in ⟨_, _, Sep.ld2 hC rfl, cond_of (fun zg => ⟨hR2 (fun p => ?_) _ hC.tail.tail, trivial⟩) fun zg => ?_⟩⟩⟩
        · have zl := of_decide_eq_true zl
          have := p.hnest rfl z2
          have e : [w].getD 0 0 = w := rfl
          rw [e] at this; omega
        · have zg : (w.toNat : Int) > 3 := of_decide_eq_true zg
          have := p.hnest rfl z2
          have e : [w].getD 0 0 = w := rfl
          rw [e] at this; omega
        · have zl := of_decide_eq_false zl
          have zg : ¬ (w.toNat : Int) > 3 := of_decide_eq_false zg
          have hw3 : w.toNat = 1 ∨ w.toNat = 2 ∨ w.toNat = 3 := by omega
          rcases hw3 with e | e | e
          · rw [e]
            refine asAddr_in ⟨_, _, Sep.ld2 hC rfl, ⟨by decide, by decide⟩, asRow_in ⟨_, Sep.ld3 hC rfl, asAddr_in ⟨_, _, _, _, _, Sep.lds4 hC rfl, asAddr_in ⟨_, _, Sep.ld2 hC rfl, _, Sep.ld0 hC rfl, ⟨by decide, by decide⟩, asRow_in ⟨_, Sep.ld3 hC rfl, asAddr_in ⟨_, _, _, _, _, Sep.lds5 hC rfl, ?_⟩⟩⟩⟩⟩⟩
            refine RLike_ok (d := ⟨9, n, 1, 0, 2⟩) (e := dr) fun H97 fr => ⟨_, rfl, ?_, trivial⟩
            have h97 := hC.keep fr
            refine cond_yes rfl (hR2 (fun p => ?_) _ h97.tail.tail)
            have := p.hnest rfl z2
            have e' : [w].getD 0 0 = w := rfl
            rw [e'] at this; omega
          · rw [e]
            refine asAddr_in ⟨_, _, Sep.ld2 hC rfl, ⟨by decide, by decide⟩, asRow_in ⟨_, Sep.ld3 hC rfl, asAddr_in ⟨_, _, _, _, _, Sep.lds5 hC rfl, asAddr_in ⟨_, _, Sep.ld2 hC rfl, _, Sep.ld0 hC rfl, ⟨by decide, by decide⟩, asRow_in ⟨_, Sep.ld3 hC rfl, asAddr_in ⟨_, _, _, _, _, Sep.lds5 hC rfl, ?_⟩⟩⟩⟩⟩⟩
            refine RLike_ok (d := dr) (e := dr) fun H97 fr => ⟨_, rfl, ?_, trivial⟩
            exact cond_no rfl ⟨fun _ _ => .inl e, hC.keep fr⟩
          · rw [e]
            refine asAddr_in ⟨_, _, Sep.ld2 hC rfl, ⟨by decide, by decide⟩, asRow_in ⟨_, Sep.ld3 hC rfl, asAddr_in ⟨_, _, _, _, _, Sep.lds6 hC rfl, asAddr_in ⟨_, _, Sep.ld2 hC rfl, _, Sep.ld0 hC rfl, ⟨by decide, by decide⟩, asRow_in ⟨_, Sep.ld3 hC rfl, asAddr_in ⟨_, _, _, _, _, Sep.lds5 hC rfl, ?_⟩⟩⟩⟩⟩⟩
            refine RLike_ok (d := dr) (e := dr) fun H97 fr => ⟨_, rfl, ?_, trivial⟩
            exact cond_no rfl ⟨fun _ _ => .inr e, hC.keep fr⟩
      · rcases hk with ⟨h, _⟩ | ⟨h, _⟩ | ⟨_, rfl, _⟩
        · rw [h] at e; cases e
        · rw [h] at e; cases e
        · cases zn
    · rw [e] at z2; cases z2
  rintro ys99 H100 ⟨c4, h100⟩
  refine ⟨_, _, _, _, _, Sep.lds0 h100 rfl, _, _, _, _, _, _, Sep.lds1 h100 rfl, flag11_s (d := ⟨k, n, 1, 0, inn⟩) h100 hop4 fun H113 h113 => ⟨_, rfl, ?_⟩⟩
  cases hf : flagB ok flag with
  | true => exact hR1 ⟨c1, c2, c3, c4, hf⟩ _ h113.tail.tail
  | false => exact hR2 (fun p => by have := p.hflag; rw [hf] at this; cases this) _ h113.tail.tail
theorem idx_ok (hm : MdOk ⟨k, n, 1, 0, inn⟩ cpus nest z) (hn : 1 ≤ n ∧ n ≤ 64) (hk : (key.toNat : Int) < n) (hc : k = 2 → 0 ≤ cpu ∧ cpu < cpus) : aidx k n key cpu < z := by
  unfold aidx
  rcases hm with ⟨_, h, e⟩ | ⟨_, h, e⟩ | ⟨_, h, e⟩
  · have h : k = 9 := h
    have e : (z : Int) = n := e
    rw [if_neg (by omega)]; omega
  · have h : k = 1 := h
    have e : (z : Int) = n := e
    rw [if_neg (by omega)]; omega
  · have h : k = 2 := h
    have e : (z : Int) = n * cpus := e
    rw [if_pos h]
    have c := hc h
    have p1 : 0 ≤ cpu * n := Int.mul_nonneg c.1 (by omega)
    have p2 : (cpu + 1) * n ≤ cpus * n := Int.mul_le_mul_of_nonneg_right (by omega) (by omega)
    rw [Int.add_mul, Int.one_mul, Int.mul_comm cpus] at p2
    omega
theorem md_kinds (hm : MdOk ⟨k, n, 1, 0, inn⟩ cpus nest z) (hi : k = 9 → inn = 2) : (nest = false ∧ k = 1) ∨ (nest = false ∧ k = 2) ∨ (nest = true ∧ k = 9 ∧ inn = 2) := by
  rcases hm with ⟨h1, h, e⟩ | ⟨h1, h, e⟩ | ⟨h1, h, e⟩
  · exact .inr (.inr ⟨h1, h, hi h⟩)
  · exact .inl ⟨h1, h⟩
  · exact .inr (.inl ⟨h1, h⟩)

set_option maxHeartbeats 2000000 in
theorem do11_s (h : Sep H (mxA mx al cpus :: alA al y y2 y3 :: yA y lb eb nest k n inn qs.length :: lA lb nest qs :: vA nest eb qs ws :: drA y2 t2 :: drA y3 t3 :: L)) (hm : MdOk ⟨k, n, 1, 0, inn⟩ cpus nest qs.length) (hi : k = 9 → inn = 2) (hn : 1 ≤ n ∧ n ≤ 64) (hc : cpus ≤ 4) (hl : ws.length = qs.length) (hb : qs.length ≤ 1000)
    (ra : RdW (mxA mx al cpus :: alA al y y2 y3 :: yA y lb eb nest k n inn qs.length :: lA lb nest qs :: vA nest eb qs ws :: drA y2 t2 :: drA y3 t3 :: L) va val) (hvn : vn = val.length)
    (hR1 : RightP nest k cpus ok val flag cpu → ∀ H' g qs', (g = none → (aans nest k n ws ok key (val.getD 0 0) flag cpu).1.val = []) → qs'.length = qs.length → Sep H' (gl 1 g (wds (aans nest k n ws ok key (val.getD 0 0) flag cpu).1.val) :: mxA mx al cpus :: alA al y y2 y3 :: yA y lb eb nest k n inn qs.length :: lA lb nest qs' :: vA nest eb qs' (aans nest k n ws ok key (val.getD 0 0) flag cpu).2 :: drA y2 t2 :: drA y3 t3 :: L) →
      R (.agg #[I (aans nest k n ws ok key (val.getD 0 0) flag cpu).1.no, .slice (addr g) (aans nest k n ws ok key (val.getD 0 0) flag cpu).1.val.length 0, .int .u64 (aans nest k n ws ok key (val.getD 0 0) flag cpu).1.key.toNat, I (aans nest k n ws ok key (val.getD 0 0) flag cpu).1.elem]) H')
    (hR2 : ¬ RightP nest k cpus ok val flag cpu → ∀ H', Sep H' (mxA mx al cpus :: alA al y y2 y3 :: yA y lb eb nest k n inn qs.length :: lA lb nest qs :: vA nest eb qs ws :: drA y2 t2 :: drA y3 t3 :: L) → R (.agg #[I 1, .slice none 0 0, .int .u64 0, I 0]) H') :
    CA en F.crossbarref11_Maps_Do [P mx, I 1, .agg #[I ok, .int .u64 key.toNat, .slice va vn 0, I flag, I cpu]] H R := by
  apply vc_crossbarref11_Maps_Do
  have hkk := md_kinds hm hi
  refine Sep.nw h fun i1 H2 h2 => Sep.nw h2 fun i3 H4 h4 => ⟨_, _, _, _, _, _, Sep.lds1 h4 rfl, ?_⟩
  -- i3 i1 mx al y l v y2 y3
  have h5 : Sep H4 (mxA mx al cpus :: alA al y y2 y3 :: yA y lb eb nest k n inn qs.length :: drA y2 t2 :: drA y3 t3 :: bx i3 (.cells true 0 [I 0, .slice none 0 0, .int .u64 0, I 0]) :: bx i1 (.cells true 0 [I ok, .int .u64 key.toNat, .slice va vn 0, I flag, I cpu]) :: lA lb nest qs :: vA nest eb qs ws :: L) := Sep.pick h4 9 [2, 3, 4, 7, 8, 0, 1, 5, 6] (by decide)
  have ra5 : RdW (mxA mx al cpus :: alA al y y2 y3 :: yA y lb eb nest k n inn qs.length :: drA y2 t2 :: drA y3 t3 :: bx i3 (.cells true 0 [I 0, .slice none 0 0, .int .u64 0, I 0]) :: bx i1 (.cells true 0 [I ok, .int .u64 key.toNat, .slice va vn 0, I flag, I cpu]) :: lA lb nest qs :: vA nest eb qs ws :: L) va val := fun H' hs j x hx => ra H' (Sep.pick hs 9 [0, 1, 2, 7, 8, 3, 4] (by decide)) j x hx
  refine right11_s h5 hkk hc ra5 hvn (fun p H12 h12 => ⟨_, rfl, cond_no rfl ?_⟩) fun p H12 h12 => ⟨_, rfl, cond_yes rfl ?_⟩
  · -- mx al y y2 y3 i3 i1 l v
    have hval : ok = 2 → vn = 1 ∧ val = [val.getD 0 0] := fun e => by
      have := p.hval e
      match val, this, hvn with
      | [w], _, hv => exact ⟨hv, rfl⟩
    have go : CA en F.crossbarref11_Map_array [P y, .agg #[I ok, .int .u64 key.toNat, .slice va vn 0, I flag, I cpu]] H12 fun v36 H37 => ∃ n38 a39 i40 n41 n42, v36 = .agg #[I n38, .slice a39 i40 0, .int .u64 n41, I n42] ∧ stc H37 i3 0 [I n38, .slice a39 i40 0, .int .u64 n41, I n42] fun H43 => ∃ n44 a45 i46 n47 n48, H43.cellsAt i3 0 4 = some [I n44, .slice a45 i46 0, .int .u64 n47, I n48] ∧ R (.agg #[I n44, .slice a45 i46 0, .int .u64 n47, I n48]) H43 := by
      refine array11_s (v := val.getD 0 0) (Sep.pick h12 9 [2, 7, 8, 0, 1, 3, 4, 5, 6] (by decide)) hl hb ?_ hn (fun e => ?_) (fun e => idx_ok hm hn e p.hcpu) (fun e => ?_) fun H37 g qs' hg hq' h37 => ⟨_, _, _, _, _, rfl, ?_⟩
      · rcases hm with ⟨h1, h, e⟩ | ⟨h1, h, e⟩ | ⟨h1, h, e⟩
        · exact .inl ⟨h1, h, e⟩
        · have h : k = 1 := h
          exact .inr ⟨h1, by omega⟩
        · have h : k = 2 := h
          exact .inr ⟨h1, by omega⟩
      · have := p.hcpu e; omega
      · obtain ⟨e1, e2⟩ := hval e
        rw [← e2]
        exact ⟨e1, fun H' hs j x hx => ra H' (Sep.pick hs 9 [3, 4, 0, 1, 2, 5, 6] (by decide)) j x hx⟩
      · -- g y l v mx al y2 y3 i3 i1
        refine Sep.st8 h37 (Nat.le_of_ble_eq_true rfl) fun H43 h43 => ⟨_, _, _, _, _, Sep.lds8 h43 rfl, ?_⟩
        exact hR1 p H43 g qs' hg hq' (Sep.pick h43 10 [0, 4, 5, 1, 2, 3, 6, 7] (by decide))
    refine asAddr_in ⟨_, _, Sep.ld0 h12 rfl, ⟨by decide, by decide⟩, asRow_in ⟨_, Sep.ld1 h12 rfl, asAddr_in ⟨_, Sep.ld2 h12 rfl, ?_⟩⟩⟩
    rcases hkk with ⟨_, rfl⟩ | ⟨_, rfl⟩ | ⟨_, rfl, _⟩
    · exact cond_yes rfl ⟨_, _, _, _, _, _, Sep.lds6 h12 rfl, go⟩
    · exact cond_no rfl (cond_yes rfl ⟨_, _, _, _, _, _, Sep.lds6 h12 rfl, go⟩)
    · exact cond_no rfl (cond_no rfl (cond_no rfl (cond_yes rfl ⟨_, _, _, _, _, _, Sep.lds6 h12 rfl, go⟩)))
  · refine Sep.st5 h12 (Nat.le_of_ble_eq_true rfl) fun H14 h14 => ⟨_, _, _, _, _, Sep.lds5 h14 rfl, ?_⟩
    exact hR2 p H14 (Sep.pick h14 9 [0, 1, 2, 7, 8, 3, 4] (by decide))

/-! ### Elements -/
theorem load11_s {e : Nat} (h : Sep H (mxA mx al cpus :: alA al y y2 y3 :: yA y lb eb false k n inn qs.length :: lA lb false qs :: bx eb (.cells true 1 (wds ws)) :: L)) (hl : ws.length = qs.length) (hb : qs.length ≤ 1000) (he : e < qs.length)
    (hR : R (.tuple #[W (ws.getD e 0), .bool true]) H) : CA en F.crossbarref11_Maps_Load [P mx, I 1, I ((e : Int) + 1)] H R := by
  apply vc_crossbarref11_Maps_Load
  have ew : IntKind.i64.wrap ((e : Int) + 1 - 1) = (e : Int) := by rw [wrap_i64 (by omega)]; omega
  refine cond_no rfl (asAddr_in ⟨_, _, Sep.ld0 h rfl, cond_no rfl (cond_no (by rw [decide_eq_false_iff_not]; omega) (asAddr_in ⟨_, _, Sep.ld0 h rfl, ⟨by decide, by decide⟩, asRow_in ⟨_, Sep.ld1 h rfl, asAddr_in ⟨_, _, Sep.ld2 h rfl, cond_no (by rw [decide_eq_false_iff_not]; omega) (asAddr_in ⟨_, _, Sep.ld0 h rfl, ⟨by decide, by decide⟩, asRow_in ⟨_, Sep.ld1 h rfl, asAddr_in ⟨_, _, Sep.ld2 h rfl, ?_⟩⟩⟩)⟩⟩⟩))⟩)
  rw [ew, Int.toNat_natCast]
  exact ⟨⟨by omega, by omega⟩, asRow_in ⟨_, Sep.ld4 h (wds_get (by omega)), hR⟩⟩
theorem store11_s {e : Nat} {v : BitVec 64} (h : Sep H (mxA mx al cpus :: alA al y y2 y3 :: yA y lb eb false k n inn qs.length :: lA lb false qs :: bx eb (.cells true 1 (wds ws)) :: L)) (hl : ws.length = qs.length) (hb : qs.length ≤ 1000) (he : e < qs.length)
    (hR : ∀ H', Sep H' (mxA mx al cpus :: alA al y y2 y3 :: yA y lb eb false k n inn qs.length :: lA lb false qs :: bx eb (.cells true 1 (wds (ws.set e v))) :: L) → R (.bool true) H') : CA en F.crossbarref11_Maps_Store [P mx, I 1, I ((e : Int) + 1), W v] H R := by
  apply vc_crossbarref11_Maps_Store
  have ew : IntKind.i64.wrap ((e : Int) + 1 - 1) = (e : Int) := by rw [wrap_i64 (by omega)]; omega
  refine load11_s h hl hb he ⟨_, _, rfl, cond_yes rfl (asAddr_in ⟨_, _, Sep.ld0 h rfl, ⟨by decide, by decide⟩, asRow_in ⟨_, Sep.ld1 h rfl, asAddr_in ⟨_, _, Sep.ld2 h rfl, ?_⟩⟩⟩)⟩
  rw [ew]
  refine ⟨⟨by omega, by omega⟩, asRow_in (Sep.st4 h (by simp; omega) fun H24 h24 => hR H24 ?_)⟩
  have es : setAt (wds ws) (0 + (e : Int).toNat * 1) [W v] = wds (ws.set e v) := by
    rw [setAt1, Int.toNat_natCast, Nat.zero_add, Nat.mul_one]
    show (ws.map W).set e (W v) = (ws.set e v).map W
    rw [List.map_set]
  rw [es] at h24
  exact h24
end Go.Proofs.Ythnifkjpkepbaaa

/-
  What the statements about machines have in common (crossbarref13): deeds, turns, pairs of elements, operations that may be.
-/
namespace Go.Proofs.Ythnifkjpkepbaaa
open Go Go.AS Go.RowKit
set_option linter.unusedVariables false
variable {H H' H0 : Heap} {R : Value → Heap → Prop} {L M : List Asr} {A B : Asr} {ws val : List (BitVec 64)} {qs : List Nat} {d : Dc} {k n inn cpus ok flag cpu : Int} {key : BitVec 64} {mx al y y2 y3 lb eb z vn : Nat} {nest : Bool} {t2 t3 : List Value} {va a : Option Addr}

/-! ### Deeds -/
structure Deed where
  todo : Int
  o : Op
  v : BitVec 64
abbrev deedV (d : Deed) (a : Option Addr) (n : Nat) : List Value := [I d.todo, I d.o.kind, .int .u64 d.o.key.toNat, .slice a n 0, I d.o.flag, I d.o.cpu, .int .u64 d.v.toNat]
def DeedC (H0 : Heap) (d : Deed) (c : List Value) : Prop := ∃ a n, c = deedV d a n ∧ OldS H0 a n (d.o.val.map fun w => [W w])
structure DeedsL (H0 : Heap) (a : Option Addr) (n : Nat) (l : List Deed) : Prop where
  len : n = l.length
  ex : ∃ css, OldS H0 a n css ∧ (∀ c ∈ css, c.length = 7) ∧ ∀ (j : Nat) o, l[j]? = some o → ∃ c, css[j]? = some c ∧ DeedC H0 o c
def DeedsC (H0 : Heap) (l : List Deed) (c : List Value) : Prop := ∃ a n, c = [.slice a n 0] ∧ DeedsL H0 a n l
structure DeedsLL (H0 : Heap) (a : Option Addr) (n : Nat) (ll : List (List Deed)) : Prop where
  len : n = ll.length
  ex : ∃ css, OldS H0 a n css ∧ (∀ c ∈ css, c.length = 1) ∧ ∀ (k : Nat) l, ll[k]? = some l → ∃ c, css[k]? = some c ∧ DeedsC H0 l c
theorem DeedsLL.at' {n : Nat} {ll : List (List Deed)} (o : DeedsLL H0 a n ll) (hs : Sep H L) (hm : old H0 ∈ L) {k : Nat} {l : List Deed} (hk : ll[k]? = some l) :
    ∃ i a' n', a = some ⟨i, 0, none⟩ ∧ H.cell i (0 + k * 1) = some (.slice a' n' 0) ∧ DeedsL H0 a' n' l := by
  obtain ⟨css, h1, h2, h3⟩ := o.ex
  obtain ⟨c, hc, a', n', rfl, h4⟩ := h3 k l hk
  obtain ⟨i, e, h5⟩ := h1.cell0 hs hm h2 hc rfl
  exact ⟨i, a', n', e, h5, h4⟩
theorem DeedsL.at' {n : Nat} {l : List Deed} (o : DeedsL H0 a n l) (hs : Sep H L) (hm : old H0 ∈ L) {j : Nat} {x : Deed} (hj : l[j]? = some x) :
    ∃ i a' n', a = some ⟨i, 0, none⟩ ∧ H.cellsAt i (0 + j * 7) 7 = some (deedV x a' n') ∧ H.cell i (0 + j * 7 + 3) = some (.slice a' n' 0) ∧ n' = x.o.val.length ∧ ∀ L, old H0 ∈ L → RdW L a' x.o.val := by
  obtain ⟨css, h1, h2, h3⟩ := o.ex
  obtain ⟨c, hc, a', n', rfl, h4⟩ := h3 j x hj
  obtain ⟨i, e, h5, h6⟩ := h1.row hs hm h2 hc
  exact ⟨i, a', n', e, h5, h6 3 _ rfl, by rw [h4.len]; simp, fun L hL => rdw_old h4 hL⟩

/-! ### Whose turn it is -/
theorem turn13_s {tn at_ n : Nat} {ts : List Int} (h : Sep H L) (hm : old H0 ∈ L) (o : OldS H0 a tn (ts.map fun v => [I v])) (hn : 1 ≤ n ∧ n ≤ 4) (hR : ∀ b : Nat, b < n → (tn ≤ at_ → b = at_ % n) → R (I b) H) : CA en F.crossbarref13_Turn [.slice a tn 0, I at_, I n] H R := by
  apply vc_crossbarref13_Turn
  have hl := o.len
  rw [List.length_map] at hl
  refine cond_of (fun z => ?_) fun z => ⟨by show (n : Int) ≠ 0; omega, ?_⟩
  · have z : at_ < tn := by have := of_decide_eq_true z; omega
    obtain ⟨v, hv⟩ : ∃ v, ts[at_]? = some v := ⟨_, List.getElem?_eq_getElem (by omega)⟩
    obtain ⟨i, rfl, e1⟩ := o.cell0 (w := 1) h hm (fun c hc => by obtain ⟨v, _, rfl⟩ := List.mem_map.1 hc; rfl) (j := at_) (r := [I v]) (by rw [List.getElem?_map, hv]; rfl) rfl
    refine ⟨⟨by omega, by omega⟩, asRow_in ⟨_, e1, Pick_ok (by omega) (by omega) ⟨_, rfl, ?_⟩⟩⟩
    have q1 := Int.emod_nonneg v (b := (n : Int)) (by omega)
    have q2 := Int.emod_lt_of_pos v (b := (n : Int)) (by omega)
    obtain ⟨q, hq⟩ : ∃ q : Nat, v % (n : Int) = (q : Int) := ⟨(v % (n : Int)).toNat, by omega⟩
    rw [hq]
    exact hR q (by omega) fun e => by omega
  · have e : Int.tmod (at_ : Int) (n : Int) = ((at_ % n : Nat) : Int) := by
      rw [Int.tmod_eq_emod_of_nonneg (by omega)]; rfl
    rw [e]
    exact hR _ (Nat.mod_lt _ (by omega)) fun _ => rfl

/-! ### Great ones -/
theorem great13_s {ta : Option Addr} {tn n : Nat} {ll : List (List Deed)} (h : Sep H L) (hm : old H0 ∈ L) (o : DeedsLL H0 a n ll) (hR1 : ∀ H', Sep H' L → R (.bool true) H')
    (hR2 : 1 ≤ n ∧ n ≤ 4 → tn ≤ 600 → (∀ l ∈ ll, l.length ≤ 12 ∧ ∀ x ∈ l, x.o.val.length ≤ 8) → ∀ H', Sep H' L → R (.bool false) H') : CA en F.crossbarref13_Great [.slice a n 0, .slice ta tn 0] H R := by
  apply vc_crossbarref13_Great
  have hln := o.len
  refine cond_of (fun z => hR1 H h) fun z => cond_of (fun z2 => hR1 H h) fun z2 => cond_of (fun z3 => hR1 H h) fun z3 => ?_
  have hn : 1 ≤ n ∧ n ≤ 4 := by have := of_decide_eq_false z; have := of_decide_eq_false z2; omega
  have ht : tn ≤ 600 := by have := of_decide_eq_false z3; omega
  refine use_crossbarref13_Great_0 (fun k' t4 t5 H' => ∃ j : Nat, j ≤ n ∧ k' = n - j ∧ t5 = (j : Int) ∧ (∀ (i : Nat) l, i < j → ll[i]? = some l → l.length ≤ 12 ∧ ∀ x ∈ l, x.o.val.length ≤ 8) ∧ Sep H' L) n ⟨0, Nat.zero_le _, rfl, rfl, fun i l h => absurd h (Nat.not_lt_zero _), h⟩ ?_
  rintro k' t4 t5 ys H3 ⟨j, hj, rfl, rfl, hj2, h3⟩
  refine cond_of (fun c => ?_) fun c => ?_
  · have c : j < n := by have := of_decide_eq_true c; omega
    obtain ⟨l, hll⟩ : ∃ l, ll[j]? = some l := ⟨_, List.getElem?_eq_getElem (by omega)⟩
    obtain ⟨i, a', n', rfl, e1, o'⟩ := o.at' h3 hm hll
    have hn' := o'.len
    refine ⟨⟨by omega, by omega⟩, asRow_in ⟨_, _, e1, cond_of (fun c2 => asBool_in (hR1 H3 h3)) fun c2 => ?_⟩⟩
    have c2 : l.length ≤ 12 := by have := of_decide_eq_false c2; omega
    refine use_crossbarref13_Great_1 (fun k' t4 t6 H' => ∃ q : Nat, q ≤ l.length ∧ k' = l.length - q ∧ t6 = (q : Int) ∧ (∀ (i : Nat) x, i < q → l[i]? = some x → x.o.val.length ≤ 8) ∧ Sep H' L) l.length ⟨0, Nat.zero_le _, rfl, rfl, fun i l h => absurd h (Nat.not_lt_zero _), h3⟩ ?_
    rintro k2 t4 t6 ys2 H4 ⟨q, hq, rfl, rfl, hq2, h4⟩
    obtain ⟨i, a', n', e0, e1, o'⟩ := o.at' h4 hm hll
    cases e0
    have hn' := o'.len
    refine ⟨⟨by omega, by omega⟩, asRow_in ⟨_, _, e1, cond_of (fun c3 => ?_) fun c3 => asBool_in ⟨n - (j + 1), by omega, j + 1, by omega, rfl, by rw [wrap_i64 (by omega)]; omega, fun i2 l2 h1 h2 => ?_, h4⟩⟩⟩
    · have c3 : q < l.length := by have := of_decide_eq_true c3; omega
      obtain ⟨x, hx⟩ : ∃ x, l[q]? = some x := ⟨_, List.getElem?_eq_getElem c3⟩
      obtain ⟨i3, a3, n3, rfl, _, e4, en3, _⟩ := o'.at' h4 hm hx
      refine ⟨⟨by omega, by omega⟩, asRow_in ⟨_, _, e1, ⟨by omega, by omega⟩, asRow_in ⟨_, _, e4, cond_of (fun c4 => asBool_in (asBool_in (hR1 H4 h4))) fun c4 => ⟨l.length - (q + 1), by omega, q + 1, by omega, rfl, by rw [wrap_i64 (by omega)]; omega, fun i2 x2 h1 h2 => ?_, h4⟩⟩⟩⟩
      by_cases e : i2 = q
      · subst e
        rw [hx] at h2; obtain rfl := Option.some.inj h2
        have := of_decide_eq_false c4; omega
      · exact hq2 i2 x2 (by omega) h2
    · by_cases e : i2 = j
      · subst e
        rw [hll] at h2; obtain rfl := Option.some.inj h2
        refine ⟨c2, fun x hx => ?_⟩
        obtain ⟨p, hp, rfl⟩ := List.mem_iff_getElem.1 hx
        have c3 := of_decide_eq_false c3
        exact hq2 p _ (by omega) (List.getElem?_eq_getElem hp)
      · exact hj2 i2 l2 (by omega) h2
  · have c := of_decide_eq_false c
    refine asBool_in (hR2 hn ht (fun l hl => ?_) H3 h3)
    obtain ⟨p, hp, rfl⟩ := List.mem_iff_getElem.1 hl
    exact hj2 p _ (by omega) (List.getElem?_eq_getElem hp)

/-! ### What a case has come to -/
structure Pl where
  li : Nat
  cpus : Int
  m : Nat
  x : Nat
  mx : Nat
  ga : Option Nat
  gb : Option Nat
  As : List Int
  n : Nat
  ru : Nat
  op : Nat
  at_ : Nat
  st : Nat
  ha : Nat
  el : Nat
abbrev sl (i n : Nat) : Value := .slice (some ⟨i, 0, none⟩) n 0
abbrev plA (p : Nat) (s : Pl) : Asr := bx p (.cells true 0 [sl s.li 3, I s.cpus, P s.m, P s.x, P s.mx, .slice (addr s.ga) s.As.length 0, .slice (addr s.gb) s.As.length 0, sl s.ru s.n, sl s.op s.n, sl s.at_ s.n, sl s.st s.n, sl s.ha s.n, sl s.el s.n])
abbrev ints (l : List Int) : List Value := l.map fun v => I v
theorem ints_get {l : List Int} {j : Nat} (h : j < l.length) : (ints l)[0 + j * 1]? = some (I (l.getD j 0)) := by
  rw [Nat.zero_add, Nat.mul_one, List.getElem?_map, List.getElem?_eq_getElem h, List.getD_eq_getElem?_getD, List.getElem?_eq_getElem h]; rfl
structure PrOk (s : Pl) : Prop where
  a : s.ga = none → s.As = []
  b : s.gb = none → s.As = []

theorem of13_s {p : Nat} {s : Pl} {e : Int} (h : Sep H (plA p s :: gl 1 s.ga (ints s.As) :: gl 1 s.gb (ints s.As) :: L)) (o : PrOk s) (hb : s.As.length ≤ 1000) (hR : ∀ H', Sep H' (plA p s :: gl 1 s.ga (ints s.As) :: gl 1 s.gb (ints s.As) :: L) → R (I (if e ∈ s.As then e else 0)) H') : CA en F.crossbarref13_Pairs_Of [.pointer (some ⟨p, 5, none⟩), I e] H R := by
  apply vc_crossbarref13_Pairs_Of
  refine use_crossbarref13_Pairs_Of_0 (fun k' t4 t5 H' => ∃ j : Nat, j ≤ s.As.length ∧ k' = s.As.length - j ∧ t5 = (j : Int) ∧ (∀ i, i < j → s.As.getD i 0 ≠ e) ∧ Sep H' (plA p s :: gl 1 s.ga (ints s.As) :: gl 1 s.gb (ints s.As) :: L)) s.As.length ⟨0, Nat.zero_le _, rfl, rfl, fun i h => absurd h (Nat.not_lt_zero _), h⟩ ?_
  rintro k' t4 t5 ys H3 ⟨j, hj, rfl, rfl, hne, h3⟩
  refine asAddr_in ⟨_, _, Sep.ld0 h3 rfl, cond_of (fun c => ?_) fun c => ?_⟩
  · have c : j < s.As.length := by have := of_decide_eq_true c; omega
    obtain ⟨g, hg⟩ : ∃ g, s.ga = some g := by
      cases hg : s.ga with
      | none => rw [o.a hg] at c; simp at c
      | some g => exact ⟨g, rfl⟩
    obtain ⟨g2, hg2⟩ : ∃ g, s.gb = some g := by
      cases hg : s.gb with
      | none => rw [o.b hg] at c; simp at c
      | some g => exact ⟨g, rfl⟩
    have h4 := h3
    rw [hg, hg2] at h4
    refine asAddr_in ⟨addr (some g), _, Sep.ld0 h3 (by rw [hg]; rfl), ⟨by omega, by omega⟩, asRow_in ⟨s.As.getD j 0, ?_, cond_of (fun c2 => ?_) fun c2 => ⟨s.As.length - (j + 1), by omega, j + 1, by omega, rfl, by rw [wrap_i64 (by omega)]; omega, fun i hi => ?_, h3⟩⟩⟩
    · rw [Int.toNat_natCast]
      exact Sep.ld0 (gl_some.1 (Sep.up1 h4)) (ints_get c)
    · have c2 : s.As.getD j 0 = e := by simpa using c2
      refine asAddr_in ⟨addr (some g2), _, Sep.ld0 h3 (by rw [hg2]; rfl), ⟨by omega, by omega⟩, asRow_in ⟨s.As.getD j 0, ?_, ?_⟩⟩
      · rw [Int.toNat_natCast]
        exact Sep.ld0 (gl_some.1 (Sep.up2 h4)) (ints_get c)
      · have hm : e ∈ s.As := by
          rw [← c2, List.getD_eq_getElem?_getD, List.getElem?_eq_getElem c]
          exact List.getElem_mem c
        have := hR H3 h3
        rw [if_pos hm] at this
        rw [c2]
        exact asInt_in this
    · have c2 : s.As.getD j 0 ≠ e := by simpa using c2
      by_cases e2 : i = j
      · rw [e2]; exact c2
      · exact hne i (by omega)
  · have c := of_decide_eq_false c
    have hm : e ∉ s.As := fun hm => by
      obtain ⟨i, hi, e1⟩ := List.mem_iff_getElem.1 hm
      refine hne i (by omega) ?_
      rw [List.getD_eq_getElem?_getD, List.getElem?_eq_getElem hi]; exact e1
    have := hR H3 h3
    rw [if_neg hm] at this
    exact asInt_in this

theorem same13_s {p : Nat} {s : Pl} {e : Int} (h : Sep H (plA p s :: gl 1 s.ga (ints s.As) :: gl 1 s.gb (ints s.As) :: L)) (o : PrOk s) (hb : s.As.length ≤ 1000)
    (hR : ∀ H' s', (∃ ga gb As, s' = { s with ga := ga, gb := gb, As := As } ∧ As.length ≤ s.As.length + 1 ∧ (∀ x, x ∈ s.As → x ∈ As) ∧ (∀ x ∈ As, x ∈ s.As ∨ x = e) ∧ (e ≠ 0 → e ∈ As) ∧ (e = 0 → As = s.As)) → PrOk s' → Sep H' (plA p s' :: gl 1 s'.ga (ints s'.As) :: gl 1 s'.gb (ints s'.As) :: L) → R (.bool true) H') : CA en F.crossbarref13_Pairs_Same [.pointer (some ⟨p, 5, none⟩), I e, I e] H R := by
  apply vc_crossbarref13_Pairs_Same
  have hsame : (e = 0 ∨ e ∈ s.As) → ∀ H', Sep H' (plA p s :: gl 1 s.ga (ints s.As) :: gl 1 s.gb (ints s.As) :: L) → R (.bool true) H' := fun he H' h' =>
    hR H' s ⟨s.ga, s.gb, s.As, rfl, by omega, fun x hx => hx, fun x hx => .inl hx, fun e0 => by rcases he with h1 | h1; exact absurd h1 e0; exact h1, fun _ => rfl⟩ o h'
  refine cond_of (fun z => ?_) fun z => cond_no z ?_
  · have z : e = 0 := by simpa using z
    rw [show (e == e) = true from beq_self_eq_true e]
    exact hsame (.inl z) H h
  have z : e ≠ 0 := by simpa using z
  refine use_crossbarref13_Pairs_Same_0 (fun k' t6 t7 H' => ∃ j : Nat, j ≤ s.As.length ∧ k' = s.As.length - j ∧ t7 = (j : Int) ∧ (∀ i, i < j → s.As.getD i 0 ≠ e) ∧ Sep H' (plA p s :: gl 1 s.ga (ints s.As) :: gl 1 s.gb (ints s.As) :: L)) s.As.length ⟨0, Nat.zero_le _, rfl, rfl, fun i h => absurd h (Nat.not_lt_zero _), h⟩ ?_
  rintro k' t6 t7 ys H3 ⟨j, hj, rfl, rfl, hne, h3⟩
  refine asAddr_in ⟨_, _, Sep.ld0 h3 rfl, cond_of (fun c => ?_) fun c => ?_⟩
  · have c : j < s.As.length := by have := of_decide_eq_true c; omega
    obtain ⟨g, hg⟩ : ∃ g, s.ga = some g := by
      cases hg : s.ga with
      | none => rw [o.a hg] at c; simp at c
      | some g => exact ⟨g, rfl⟩
    obtain ⟨g2, hg2⟩ : ∃ g, s.gb = some g := by
      cases hg : s.gb with
      | none => rw [o.b hg] at c; simp at c
      | some g => exact ⟨g, rfl⟩
    have h4 := h3
    rw [hg, hg2] at h4
    have l1 : H3.cell g (0 + (j : Int).toNat * 1) = some (I (s.As.getD j 0)) := by
      rw [Int.toNat_natCast]
      exact Sep.ld0 (gl_some.1 (Sep.up1 h4)) (ints_get c)
    have l2 : H3.cell g2 (0 + (j : Int).toNat * 1) = some (I (s.As.getD j 0)) := by
      rw [Int.toNat_natCast]
      exact Sep.ld0 (gl_some.1 (Sep.up2 h4)) (ints_get c)
    refine asAddr_in ⟨addr (some g), _, Sep.ld0 h3 (by rw [hg]; rfl), ⟨by omega, by omega⟩, asRow_in ⟨_, l1, cond_of (fun c2 => ?_) fun c2 => ?_⟩⟩
    · have e2 : s.As.getD j 0 = e := by simpa using c2
      have hm : e ∈ s.As := by
        rw [← e2, List.getD_eq_getElem?_getD, List.getElem?_eq_getElem c]
        exact List.getElem_mem c
      refine asAddr_in ⟨addr (some g), _, Sep.ld0 h3 (by rw [hg]; rfl), ⟨by omega, by omega⟩, asRow_in ⟨_, l1, cond_yes c2 (asAddr_in ⟨addr (some g2), _, Sep.ld0 h3 (by rw [hg2]; rfl), ⟨by omega, by omega⟩, asRow_in ⟨_, l2, ?_⟩⟩)⟩⟩
      rw [show (s.As.getD j 0 == e) = true from c2]
      exact asBool_in (hsame (.inr hm) H3 h3)
    · refine asAddr_in ⟨addr (some g2), _, Sep.ld0 h3 (by rw [hg2]; rfl), ⟨by omega, by omega⟩, asRow_in ⟨_, l2, cond_no c2 ⟨s.As.length - (j + 1), by omega, j + 1, by omega, rfl, by rw [wrap_i64 (by omega)]; omega, fun i hi => ?_, h3⟩⟩⟩
      have c2 : s.As.getD j 0 ≠ e := by simpa using c2
      by_cases e2 : i = j
      · rw [e2]; exact c2
      · exact hne i (by omega)
  · refine asBool_in (asAddr_in ⟨_, _, Sep.ld0 h3 rfl, Sep.nw h3 fun i8 H9 h9 => ⟨[I e], rowOf_bx (es := 1) (Sep.get0 h9) (by decide) rfl, ?_⟩⟩)
    -- i8 p ga gb
    refine apd_gl (b := s.ga) (len := s.As.length) (n := 1) (es := 1) (cs := ints s.As) (new := [I e]) (Sep.up2 h9) (fun e => by rw [o.a e]; rfl) (by decide) (by simp) (by decide) rfl (by omega) fun H13 g h13 => ?_
    -- ga i8 p gb
    refine asAddr_in (Sep.st2 h13 (Nat.le_of_ble_eq_true rfl) fun H16 h16 => asAddr_in ⟨_, _, Sep.ld2 h16 rfl, Sep.nw h16 fun i21 H22 h22 => ⟨[I e], rowOf_bx (es := 1) (Sep.get0 h22) (by decide) rfl, ?_⟩⟩)
    -- i21 ga i8 p gb
    refine apd_gl (b := s.gb) (len := s.As.length) (n := 1) (es := 1) (cs := ints s.As) (new := [I e]) (Sep.up4 h22) (fun e => by rw [o.b e]; rfl) (by decide) (by simp) (by decide) rfl (by omega) fun H26 g2 h26 => ?_
    -- gb i21 ga i8 p
    refine asAddr_in (Sep.st4 h26 (Nat.le_of_ble_eq_true rfl) fun H29 h29 => ?_)
    have e1 : ints s.As ++ [I e] = ints (s.As ++ [e]) := by simp
    rw [e1] at h29
    refine hR H29 { s with ga := some g, gb := some g2, As := s.As ++ [e] } ⟨some g, some g2, s.As ++ [e], rfl, by simp, fun x hx => by simp [hx], fun x hx => by simpa using hx, fun _ => by simp, fun h0 => absurd h0 z⟩ ⟨fun e => (by cases e), fun e => (by cases e)⟩ ?_
    have h30 := Sep.pick h29 5 [4, 2, 0] (by decide)
    have el : (s.As ++ [e]).length = s.As.length + 1 := by simp
    show Sep H29 (bx p (.cells true 0 [sl s.li 3, I s.cpus, P s.m, P s.x, P s.mx, .slice (addr (some g)) (s.As ++ [e]).length 0, .slice (addr (some g2)) (s.As ++ [e]).length 0, sl s.ru s.n, sl s.op s.n, sl s.at_ s.n, sl s.st s.n, sl s.ha s.n, sl s.el s.n]) :: _)
    rw [el]
    exact h30

theorem agree13_s {p : Nat} {s : Pl} {no e ky : Int} {a b : Option Addr} {k1 k2 : Nat} (h : Sep H (plA p s :: gl 1 s.ga (ints s.As) :: gl 1 s.gb (ints s.As) :: L)) (o : PrOk s) (hb : s.As.length ≤ 1000)
    (ra : RdW (plA p s :: gl 1 s.ga (ints s.As) :: gl 1 s.gb (ints s.As) :: L) a ws) (rb : RdW (plA p s :: gl 1 s.ga (ints s.As) :: gl 1 s.gb (ints s.As) :: L) b ws) (hk1 : k1 = ws.length) (hk2 : k2 = ws.length) (hw : ws.length ≤ 1000)
    (hR : ∀ H' s', (∃ ga gb As, s' = { s with ga := ga, gb := gb, As := As } ∧ As.length ≤ s.As.length + 1 ∧ (∀ x, x ∈ s.As → x ∈ As) ∧ (∀ x ∈ As, x ∈ s.As ∨ x = e) ∧ (e ≠ 0 → e ∈ As) ∧ (e = 0 → As = s.As)) → PrOk s' → Sep H' (plA p s' :: gl 1 s'.ga (ints s'.As) :: gl 1 s'.gb (ints s'.As) :: L) → R (.bool true) H') :
    CA en F.crossbarref13_Pairs_Agree [.pointer (some ⟨p, 5, none⟩), .agg #[I no, .slice a k1 0, .int .u64 ky, I e], .agg #[I no, .slice b k2 0, .int .u64 ky, I e]] H R := by
  apply vc_crossbarref13_Pairs_Agree
  refine Sep.nw h fun i1 H2 h2 => Sep.nw h2 fun i3 H4 h4 => ⟨_, Sep.ld1 h4 rfl, _, Sep.ld0 h4 rfl, cond_yes (by simp) ⟨_, Sep.ld1 h4 rfl, _, Sep.ld0 h4 rfl, cond_yes (by simp) ⟨_, _, Sep.ld1 h4 rfl, _, _, Sep.ld0 h4 rfl, ?_⟩⟩⟩
  refine SameWords_s h4 ra.tail'.tail' rb.tail'.tail' hk1 hk2 (by omega) fun H14 h14 => ⟨_, rfl, cond_yes rfl ⟨_, Sep.ld1 h14 rfl, _, Sep.ld0 h14 rfl, ?_⟩⟩
  have h15 := Sep.pick h14 5 [2, 3, 4] (by decide)
  exact same13_s h15 o hb fun H19 s' e1 o' h19 => ⟨_, rfl, hR H19 s' e1 o' h19⟩

/-! ### Right ones -/
theorem md_nest (hm : MdOk ⟨k, n, 1, 0, inn⟩ cpus nest z) : nest = (k == 9) := by
  rcases hm with ⟨h1, h, e⟩ | ⟨h1, h, e⟩ | ⟨h1, h, e⟩
  · have h : k = 9 := h
    rw [h1, h]; rfl
  · have h : k = 1 := h
    rw [h1, h]; rfl
  · have h : k = 2 := h
    rw [h1, h]; rfl
theorem md_len (hm : MdOk ⟨k, n, 1, 0, inn⟩ cpus nest z) (hn : 1 ≤ n ∧ n ≤ 64) (hc : 1 ≤ cpus ∧ cpus ≤ 4) : z ≤ 256 := by
  rcases hm with ⟨h1, h, e⟩ | ⟨h1, h, e⟩ | ⟨h1, h, e⟩
  · have e : (z : Int) = n := e
    omega
  · have e : (z : Int) = n := e
    omega
  · have e : (z : Int) = n * cpus := e
    have p2 : n * cpus ≤ 64 * cpus := Int.mul_le_mul_of_nonneg_right (by omega) (by omega)
    omega

theorem right13_s {E li : Nat} (h : Sep H L) (hm : bx li (.cells true 5 (flat [⟨k, n, 1, 0, inn⟩, dr, dr])) ∈ L) (f : FirstOk ⟨k, n, 1, 0, inn⟩ E cpus) (ra : RdW L va val) (hvn : vn = val.length)
    (hR1 : RightP (k == 9) k cpus ok val flag cpu → ∀ H', Sep H' L → R (.bool true) H') (hR2 : ¬ RightP (k == 9) k cpus ok val flag cpu → ∀ H', Sep H' L → R (.bool false) H') :
    CA en F.crossbarref13_Right [.slice (some ⟨li, 0, none⟩) 3 0, I cpus, .agg #[I ok, .int .u64 key.toNat, .slice va vn 0, I flag, I cpu]] H R := by
  apply vc_crossbarref13_Right
  refine Sep.nw h fun i1 H2 h2 => new11_s h2 (List.mem_cons_of_mem _ hm) f fun H4 nest mx al y y2 y3 lb eb qs t2 t3 md h4 => ⟨_, _, rfl, cond_yes rfl ⟨_, _, _, _, _, _, Sep.lds7 h4 rfl, ?_⟩⟩
  have md : MdOk ⟨k, n, 1, 0, inn⟩ cpus nest qs.length := md
  have fe : n = (E : Int) := f.ents
  have fn := f.n
  have fc := f.cp
  have hq := md_len md (by omega) fc
  have fi : k = 9 → inn = 2 := fun e => by
    have := f.inn
    have : inn = if k = 9 then 2 else 0 := this
    rw [if_pos e] at this; exact this
  obtain rfl := md_nest md
  refine do11_s (n := n) h4 md fi (by omega) (by omega) (by simp) (by omega) (ra.tail'.tail'.tail'.tail'.tail'.tail'.tail'.tail') hvn (fun p H14 g qs' _ _ h14 => ⟨_, _, _, _, _, rfl, ?_⟩) fun p H14 h14 => ⟨_, _, _, _, _, rfl, ?_⟩
  · have := aans_no (nest := (k == 9)) (k := k) (n := n) (ws := List.replicate qs.length 0) (ok := ok) (key := key) (v := val.getD 0 0) (flag := flag) (cpu := cpu)
    rw [show ((aans (k == 9) k n (List.replicate qs.length 0) ok key (val.getD 0 0) flag cpu).1.no != 1) = true from by rw [bne_iff_ne]; exact this]
    exact hR1 p H14 (Sep.drop h14 9)
  · exact hR2 p H14 (Sep.drop h14 8)
end Go.Proofs.Ythnifkjpkepbaaa

/-
  The code's arrays: what a run's step comes to, for every operation that may be.
-/
namespace Go.Proofs.Ythnifkjpkepbaaa
open Go Go.AS Go.RowKit
set_option linter.unusedVariables false
variable {H H' H0 : Heap} {R : Value → Heap → Prop} {L M : List Asr} {ws val : List (BitVec 64)} {k n inn cpus ok flag cpu cp c : Int} {key v : BitVec 64} {m x r vn : Nat} {S S' : Sm} {va : Option Addr} {u7 u8 u9 u10 u11 : Value}

abbrev axA (x m : Nat) (k n inn cp : Int) : Asr := bx x (.cells true 0 [P m, I k, I n, I 1, I 0, I inn, I 1, I cp])
abbrev rnA (r x : Nat) (ok : Int) (key : BitVec 64) (flag cpu : Int) (v : BitVec 64) (u7 u8 u9 u10 u11 : Value) : Asr := bx r (.cells true 0 [P x, I ok, W key, .slice none 0 0, I flag, I cpu, W v, u7, u8, u9, u10, u11])

theorem anew_s {mp : Nat} (h : Sep H (mem m (newSm mp 1024) :: L)) (hk : k = 1 ∨ k = 2 ∨ k = 9) (hn : 1 ≤ n ∧ n ≤ 64) (hc : 1 ≤ cpus ∧ cpus ≤ 4)
    (hR : ∀ H' x S, One S (List.replicate (n * if k = 2 then cpus else 1).toNat 0) 0 → Sep H' (axA x m k n inn (if k = 2 then cpus else 1) :: mem m S :: L) → R (.tuple #[P x, I 0]) H') :
    CA en F.array_New [P m, .agg #[I k, I n, I 1, I 0, I inn], I cpus] H R := by
  apply vc_array_New
  have hm : 1 ≤ n * (if k = 2 then cpus else 1) ∧ n * (if k = 2 then cpus else 1) ≤ 256 := by
    split
    · have h1 : n * cpus ≤ 64 * cpus := Int.mul_le_mul_of_nonneg_right hn.2 (by omega)
      have h2 : 1 * cpus ≤ n * cpus := Int.mul_le_mul_of_nonneg_right hn.1 (by omega)
      omega
    · omega
  refine Sep.nw h fun i1 H2 h2 => ⟨_, Sep.ld0 h2 rfl, ?_⟩
  have d1 : decide (n < 1) = false := by rw [decide_eq_false_iff_not]; omega
  have d2 : decide (n > 64) = false := by rw [decide_eq_false_iff_not]; omega
  have d3 : decide (cpus < 1) = false := by rw [decide_eq_false_iff_not]; omega
  have d4 : decide (cpus > 4) = false := by rw [decide_eq_false_iff_not]; omega
  have tail : ∀ (i11 : Nat) (cp : Int) (H14 : Heap), cp = (if k = 2 then cpus else 1) → Sep H14 (bx i11 (.cells true 0 [P m, I k, I n, I 1, I 0, I inn, I 0, I cp]) :: bx i1 (.cells true 0 [I k, I n, I 1, I 0, I inn]) :: mem m (newSm mp 1024) :: L) →
      ∃ n15, (H14.bump 14).cell i1 1 = some (I n15) ∧ ∃ n16, (H14.bump 14).cell i11 7 = some (I n16) ∧ CA en F.smem_Mem_Make [P m, I (IntKind.i64.wrap (n15 * n16))] (H14.bump 14) fun v17 H18 => ∃ n19 n20, v17 = .tuple #[I n19, I n20] ∧ ((bif (n20 != 0) then R (.tuple #[.pointer none, I 5]) H18 else stc H18 i11 6 [I n19] fun H21 => R (.tuple #[P i11, I 0]) H21) ∧ True) := fun i11 cp H14 ecp h14 => by
    subst ecp
    have hB := h14.bump 14
    refine ⟨_, Sep.ld1 hB rfl, _, Sep.ld0 hB rfl, ?_⟩
    rw [wrap_i64 (by omega)]
    refine make_s (Sep.up2 hB) (fun _ _ _ => rfl) fun H18 b h18 => ⟨_, _, rfl, ?_, trivial⟩
    obtain ⟨e1, o⟩ := One.first (mp := mp) (b := b) (room := 1024) (n := n * (if k = 2 then cpus else 1)) hm.1 (by omega) (by omega)
    rw [e1]
    refine cond_no rfl (Sep.st1 h18 (Nat.le_of_ble_eq_true rfl) fun H21 h21 => hR H21 i11 _ o ?_)
    exact Sep.pick h21 3 [1, 0] (by decide)
  rcases hk with rfl | rfl | rfl
  · refine cond_yes rfl ⟨_, Sep.ld0 h2 rfl, cond_no d1 ⟨_, Sep.ld0 h2 rfl, cond_no d2 (cond_no d3 (cond_no d4 ⟨_, _, _, _, _, Sep.lds0 h2 rfl, Sep.nw h2 fun i11 H12 h12 => ⟨_, Sep.ld1 h12 rfl, cond_no rfl (tail i11 1 H12 rfl h12)⟩⟩))⟩⟩
  · refine cond_no rfl ⟨_, Sep.ld0 h2 rfl, cond_yes rfl ⟨_, Sep.ld0 h2 rfl, cond_no d1 ⟨_, Sep.ld0 h2 rfl, cond_no d2 (cond_no d3 (cond_no d4 ⟨_, _, _, _, _, Sep.lds0 h2 rfl, Sep.nw h2 fun i11 H12 h12 => ⟨_, Sep.ld1 h12 rfl, cond_yes rfl ?_⟩⟩))⟩⟩⟩
    exact Sep.st0 h12 (Nat.le_of_ble_eq_true rfl) fun H14 h14 => tail i11 cpus H14 rfl h14
  · refine cond_no rfl ⟨_, Sep.ld0 h2 rfl, cond_no rfl ⟨_, Sep.ld0 h2 rfl, cond_no rfl ⟨_, Sep.ld0 h2 rfl, cond_no d1 ⟨_, Sep.ld0 h2 rfl, cond_no d2 (cond_no d3 (cond_no d4 ⟨_, _, _, _, _, Sep.lds0 h2 rfl, Sep.nw h2 fun i11 H12 h12 => ⟨_, Sep.ld1 h12 rfl, cond_no rfl (tail i11 1 H12 rfl h12)⟩⟩))⟩⟩⟩⟩

theorem abegin_s (h : Sep H L) (ra : RdW L va val) (hvn : vn = val.length) (hR : ∀ H' r, Sep H' (rnA r x ok key flag cpu (val.getD 0 0) (I 0) (.slice none 0 0) (.int .u64 0) (I 0) (.bool false) :: L) → R (P r) H') :
    CA en F.array_Map_Begin [P x, .agg #[I ok, .int .u64 key.toNat, .slice va vn 0, I flag, I cpu]] H R := by
  apply vc_array_Map_Begin
  refine Sep.nw h fun i1 H2 h2 => ⟨_, _, _, _, _, _, Sep.lds0 h2 rfl, Sep.nw h2 fun i9 H10 h10 => ⟨_, _, Sep.ld1 h10 rfl, cond_of (fun z => ?_) fun z => ?_⟩⟩
  · have z : 0 < val.length := by have := of_decide_eq_true z; omega
    obtain ⟨g, rfl, e1⟩ := ra.tail'.tail' H10 h10 0 (val.getD 0 0) (by rw [List.getD_eq_getElem?_getD, List.getElem?_eq_getElem z]; rfl)
    exact ⟨_, _, Sep.ld1 h10 rfl, ⟨by omega, by omega⟩, asRow_in ⟨_, e1, Sep.st0 h10 (Nat.le_of_ble_eq_true rfl) fun H18 h18 => Sep.st0 h18 (Nat.le_of_ble_eq_true rfl) fun H19 h19 => hR H19 i9 (Sep.rm1 h19)⟩⟩
  · have z : val = [] := by have := of_decide_eq_false z; exact List.eq_nil_of_length_eq_zero (by omega)
    subst z
    exact Sep.st0 h10 (Nat.le_of_ble_eq_true rfl) fun H20 h20 => hR H20 i9 (Sep.rm1 h20)

/-- An operation that may be, of a key that is there. -/
structure AtOk (k n cpu : Int) : Prop where
  n : 1 ≤ n ∧ n ≤ 64
  c : k = 2 → 0 ≤ cpu ∧ cpu ≤ 4
theorem at13_s (h : Sep H (rnA r x ok key flag cpu v u7 u8 u9 u10 u11 :: axA x m k n inn cp :: L)) (a : AtOk k n cpu) (hkey : (key.toNat : Int) < n)
    (hR : ∀ H', Sep H' (rnA r x ok key flag cpu v u7 u8 u9 u10 u11 :: axA x m k n inn cp :: L) → R (I (aidx k n key cpu : Nat)) H') : CA en F.array_Run_at [P r] H R := by
  apply vc_array_Run_at
  have hn := a.n
  refine asAddr_in ⟨_, Sep.ld0 h rfl, asAddr_in ⟨_, Sep.ld1 h rfl, cond_of (fun z => ?_) fun z => ?_⟩⟩
  · have z : k = 2 := by simpa using z
    have hB := h.bump 22
    refine asAddr_in ⟨_, Sep.ld0 hB rfl, asAddr_in ⟨_, Sep.ld0 hB rfl, asAddr_in ⟨_, Sep.ld1 hB rfl, asAddr_in ⟨_, Sep.ld0 hB rfl, ?_, trivial⟩⟩⟩⟩
    have c1 := a.c z
    have p1 : 0 ≤ cpu * n := Int.mul_nonneg c1.1 (by omega)
    have p2 : cpu * n ≤ 4 * n := Int.mul_le_mul_of_nonneg_right c1.2 (by omega)
    have e : IntKind.i64.wrap (IntKind.i64.wrap (cpu * n) + IntKind.i64.wrap (key.toNat : Int)) = ((aidx k n key cpu : Nat) : Int) := by
      rw [wrap_i64 (n := cpu * n) (by omega), wrap_i64 (n := (key.toNat : Int)) (by omega), wrap_i64 (by omega)]
      unfold aidx
      rw [if_pos z]; omega
    rw [e]
    exact hR _ hB
  · have z : ¬ k = 2 := by simpa using z
    refine asAddr_in ⟨_, Sep.ld0 h rfl, ?_⟩
    have e : IntKind.i64.wrap (key.toNat : Int) = ((aidx k n key cpu : Nat) : Int) := by
      rw [wrap_i64 (n := (key.toNat : Int)) (by omega)]
      unfold aidx
      rw [if_neg z]; omega
    rw [e]
    exact hR _ h

/-- What comes of a step. -/
abbrev ans (k n : Int) (ws : List (BitVec 64)) (ok : Int) (key v : BitVec 64) (flag cpu : Int) : Rs × List (BitVec 64) := aans (k == 9) k n ws ok key v flag cpu
abbrev ACont (k n : Int) (ws : List (BitVec 64)) (ok : Int) (key v : BitVec 64) (flag cpu c : Int) (m : Nat) (Rest : List Asr) (R : Value → Heap → Prop) : Prop :=
  ∀ H' S' c' g, c ≤ c' → c' ≤ c + 1 → (g = none → (ans k n ws ok key v flag cpu).1.val = []) → One S' (ans k n ws ok key v flag cpu).2 c' → Sep H' (gl 1 g (wds (ans k n ws ok key v flag cpu).1.val) :: mem m S' :: Rest) →
    R (.agg #[I (ans k n ws ok key v flag cpu).1.no, .slice (addr g) (ans k n ws ok key v flag cpu).1.val.length 0, .int .u64 (ans k n ws ok key v flag cpu).1.key.toNat, I (ans k n ws ok key v flag cpu).1.elem]) H'

theorem afin {i1 : Nat} {no : Int} {k' : BitVec 64} {M : List Asr} (h : Sep H (bx i1 (.cells true 0 [I 0, .slice none 0 0, .int .u64 0, I 0]) :: M)) (hR : ∀ H', Sep H' (gl 1 none (wds []) :: M) → R (.agg #[I no, .slice (addr none) ([] : List (BitVec 64)).length 0, .int .u64 k'.toNat, I 0]) H') :
    stc H i1 0 [I no, .slice none 0 0, .int .u64 k'.toNat, I 0] fun H11 => ∃ n12 a13 i14 n15 n16, H11.cellsAt i1 0 4 = some [I n12, .slice a13 i14 0, .int .u64 n15, I n16] ∧ R (.agg #[I n12, .slice a13 i14 0, .int .u64 n15, I n16]) H11 :=
  Sep.st0 h (Nat.le_of_ble_eq_true rfl) fun H11 h11 => ⟨_, _, _, _, _, Sep.lds0 h11 rfl, hR H11 (gl_none.2 h11.tail)⟩

set_option maxHeartbeats 1000000 in
theorem alook_s (h : Sep H (rnA r x 1 key flag cpu v u7 u8 u9 u10 u11 :: axA x m k n inn cp :: mem m S :: L)) (o : One S ws c) (hc : c < 1000000) (a : AtOk k n cpu) (hix : (key.toNat : Int) < n → aidx k n key cpu < ws.length) (hb : ws.length ≤ 1000)
    (hR : ACont k n ws 1 key v flag cpu c m (rnA r x 1 key flag cpu v u7 u8 u9 u10 u11 :: axA x m k n inn cp :: L) R) : CA en F.array_Run_lookup [P r] H R := by
  apply vc_array_Run_lookup
  have hn := a.n
  have hwn : IntKind.u64.wrap n = n := u64_self (by omega) (by omega)
  unfold ACont ans aans at hR
  rw [if_pos rfl] at hR
  refine Sep.nw h fun i1 H2 h2 => ?_
  have hB := h2.bump 15
  refine asAddr_in ⟨_, Sep.ld1 hB rfl, asAddr_in ⟨_, Sep.ld1 hB rfl, asAddr_in ⟨_, Sep.ld2 hB rfl, ?_, trivial⟩⟩⟩
  rw [hwn]
  refine cond_of (fun z => ?_) fun z => ?_
  · have z : ¬ (key.toNat : Int) < n := by have := of_decide_eq_true z; omega
    rw [if_neg (fun h => z h.1)] at hR
    refine afin (k' := 0) hB fun H' h' => hR H' S c none (by omega) (by omega) (fun _ => rfl) o ?_
    exact Sep.pick h' 4 [0, 3, 1, 2] (by decide)
  have z : (key.toNat : Int) < n := by have := of_decide_eq_false z; omega
  have hC := hB.bump 22
  have hi := hix z
  refine asAddr_in ⟨_, Sep.ld1 hC rfl, asAddr_in ⟨_, Sep.ld2 hC rfl, asAddr_in ⟨_, Sep.ld1 hC rfl, asAddr_in ⟨_, Sep.ld2 hC rfl, ?_⟩⟩⟩⟩
  -- i1 r x mem
  refine at13_s (Sep.pick hC 4 [1, 2, 0, 3] (by decide)) a z fun H31 h31 => ⟨_, rfl, ?_⟩
  -- r x i1 mem
  refine load1_s (Sep.up3 h31) o (by omega) hi fun H34 S' o' h34 => ⟨_, _, rfl, ?_, ?_, ?_, ?_, ?_, trivial⟩
  · -- mem r x i1
    refine at13_s (Sep.pick h34 4 [1, 2, 3, 0] (by decide)) a z fun H46 h46 => ⟨_, rfl, asAddr_in ⟨_, Sep.ld0 h46 rfl, asAddr_in ⟨_, Sep.ld1 h46 rfl, ?_⟩⟩⟩
    -- r x i1 mem
    have h47 := Sep.pick h46 4 [2, 3, 0, 1] (by decide)
    generalize ws.getD (aidx k n key cpu) 0 = w at *
    refine cond_of (fun z9 => cond_of (fun z0 => ?_) fun z0 => ?_) fun z9 => ?_
    · have z0 : w = 0 := by
        have : (w.toNat : Int) = 0 := by simpa using z0
        exact BitVec.eq_of_toNat_eq (by simpa using this)
      rw [if_neg (fun hh => hh.2 ⟨z9, z0⟩)] at hR
      exact afin (k' := 0) h47 fun H' h' => hR H' S' (c + 1) none (by omega) (by omega) (fun _ => rfl) o' h'
    · have z0 : ¬ w = 0 := by
        rintro rfl
        simp at z0
      rw [if_pos ⟨z, fun hh => z0 hh.2⟩, if_pos z9] at hR
      refine Sep.nw h47 fun i60 H61 h61 => Sep.st1 h61 (Nat.le_of_ble_eq_true rfl) fun H62 h62 => ⟨_, _, _, _, _, Sep.lds1 h62 rfl, ?_⟩
      exact hR H62 S' (c + 1) (some i60) (by omega) (by omega) (fun e => by cases e) o' (gl_some.2 (Sep.rm1 h62))
    · have z9' : ¬ (k == 9) = true := by rw [z9]; decide
      rw [if_pos ⟨z, fun hh => z9' hh.1⟩, if_neg z9'] at hR
      rw [wrap_i64 (by omega)]
      refine Sep.nw h47 fun i60 H61 h61 => Sep.st1 h61 (Nat.le_of_ble_eq_true rfl) fun H62 h62 => ⟨_, _, _, _, _, Sep.lds1 h62 rfl, ?_⟩
      exact hR H62 S' (c + 1) (some i60) (by omega) (by omega) (fun e => by cases e) o' (gl_some.2 (Sep.rm1 h62))
  · exact ⟨⟨_, Sep.ld2 hC rfl, rfl⟩, ⟨_, Sep.ld1 h31 rfl, rfl⟩, trivial⟩
  · exact ⟨⟨_, Sep.ld1 hC rfl, rfl⟩, ⟨_, Sep.ld0 h31 rfl, rfl⟩, trivial⟩
  · exact ⟨⟨_, Sep.ld2 hC rfl, rfl⟩, ⟨_, Sep.ld1 h31 rfl, rfl⟩, trivial⟩
  · exact ⟨⟨_, Sep.ld1 hC rfl, rfl⟩, ⟨_, Sep.ld0 h31 rfl, rfl⟩, trivial⟩

set_option maxHeartbeats 1000000 in
theorem aupd_s (h : Sep H (rnA r x 2 key flag cpu v u7 u8 u9 u10 u11 :: axA x m k n inn cp :: mem m S :: L)) (o : One S ws c) (hc : c < 1000000) (a : AtOk k n cpu) (hix : (key.toNat : Int) < n → aidx k n key cpu < ws.length) (hb : ws.length ≤ 1000)
    (hR : ACont k n ws 2 key v flag cpu c m (rnA r x 2 key flag cpu v u7 u8 u9 u10 u11 :: axA x m k n inn cp :: L) R) : CA en F.array_Run_update [P r] H R := by
  apply vc_array_Run_update
  have hn := a.n
  have hwn : IntKind.u64.wrap n = n := u64_self (by omega) (by omega)
  unfold ACont ans aans at hR
  rw [if_neg (by decide), if_pos rfl] at hR
  refine Sep.nw h fun i1 H2 h2 => ?_
  have hB := h2.bump 16
  refine asAddr_in ⟨_, Sep.ld1 hB rfl, asAddr_in ⟨_, Sep.ld1 hB rfl, asAddr_in ⟨_, Sep.ld2 hB rfl, ?_, trivial⟩⟩⟩
  rw [hwn]
  refine cond_of (fun z => ?_) fun z => asAddr_in ⟨_, Sep.ld1 hB rfl, cond_of (fun zf => ?_) fun zf => ?_⟩
  · have z : ¬ (key.toNat : Int) < n := by have := of_decide_eq_true z; omega
    rw [if_neg z] at hR
    refine afin (k' := 0) hB fun H' h' => hR H' S c none (by omega) (by omega) (fun _ => rfl) o ?_
    exact Sep.pick h' 4 [0, 3, 1, 2] (by decide)
  · have z : (key.toNat : Int) < n := by have := of_decide_eq_false z; omega
    have zf : flag = 1 := by simpa using zf
    rw [if_pos z, if_pos zf] at hR
    refine afin (k' := 0) hB fun H' h' => hR H' S c none (by omega) (by omega) (fun _ => rfl) o ?_
    exact Sep.pick h' 4 [0, 3, 1, 2] (by decide)
  have z : (key.toNat : Int) < n := by have := of_decide_eq_false z; omega
  have zf : ¬ flag = 1 := by simpa using zf
  rw [if_pos z, if_neg zf] at hR
  have hC := hB.bump 21
  have hi := hix z
  refine asAddr_in ⟨_, Sep.ld1 hC rfl, asAddr_in ⟨_, Sep.ld2 hC rfl, asAddr_in ⟨_, Sep.ld1 hC rfl, asAddr_in ⟨_, Sep.ld2 hC rfl, ?_⟩⟩⟩⟩
  refine at13_s (Sep.pick hC 4 [1, 2, 0, 3] (by decide)) a z fun H40 h40 => ⟨_, rfl, asAddr_in ⟨_, Sep.ld0 h40 rfl, ?_⟩⟩
  -- r x i1 mem
  refine store1_s (v := v) (Sep.up3 h40) o (by omega) hi fun H46 S' o' h46 => ⟨_, rfl, ?_, ?_, ?_, ?_, ?_, ?_, trivial⟩
  · -- mem r x i1
    have h47 := Sep.pick h46 4 [3, 0, 1, 2] (by decide)
    exact afin (k' := 0) h47 fun H' h' => hR H' S' (c + 1) none (by omega) (by omega) (fun _ => rfl) o' h'
  · exact ⟨⟨_, Sep.ld1 hC rfl, rfl⟩, ⟨_, Sep.ld0 h40 rfl, rfl⟩, trivial⟩
  · exact ⟨⟨_, Sep.ld2 hC rfl, rfl⟩, ⟨_, Sep.ld1 h40 rfl, rfl⟩, trivial⟩
  · exact ⟨⟨_, Sep.ld1 hC rfl, rfl⟩, ⟨_, Sep.ld0 h40 rfl, rfl⟩, trivial⟩
  · exact ⟨⟨_, Sep.ld2 hC rfl, rfl⟩, ⟨_, Sep.ld1 h40 rfl, rfl⟩, trivial⟩
  · exact ⟨⟨_, Sep.ld1 hC rfl, rfl⟩, ⟨_, Sep.ld0 h40 rfl, rfl⟩, trivial⟩

theorem swap1_s (h : Sep H (mem m S :: L)) (o : One S ws c) (hc : c < 1000000) {i : Nat} (hi : i < ws.length)
    (hR : ∀ H' S', One S' (ws.set i 0) (c + 1) → Sep H' (mem m S' :: L) → R (.tuple #[W (ws.getD i 0), .bool true]) H') : CA en F.smem_Mem_Swap [P m, I 1, I i, .int .u64 18446744073709551615, .int .u64 0] H R := by
  obtain ⟨e1, o'⟩ := acc_one o (by omega) hi (fun w => under w (BitVec.allOnes 64) 0)
  rw [under_all] at o'
  rw [all_ones]
  refine swap_s (mask := BitVec.allOnes 64) (v := 0) h fun H' h' => ?_
  rw [e1]
  exact hR H' _ o' h'

set_option maxHeartbeats 1000000 in
theorem adrop_s (h : Sep H (rnA r x 3 key flag cpu v u7 u8 u9 u10 u11 :: axA x m 9 n inn cp :: mem m S :: L)) (o : One S ws c) (hc : c < 1000000) (a : AtOk 9 n cpu) (hix : (key.toNat : Int) < n → aidx 9 n key cpu < ws.length) (hb : ws.length ≤ 1000)
    (hR : ACont 9 n ws 3 key v flag cpu c m (rnA r x 3 key flag cpu v u7 u8 u9 u10 u11 :: axA x m 9 n inn cp :: L) R) : CA en F.array_Run_drop [P r] H R := by
  apply vc_array_Run_drop
  have hn := a.n
  have hwn : IntKind.u64.wrap n = n := u64_self (by omega) (by omega)
  unfold ACont ans aans at hR
  rw [if_neg (by decide), if_neg (by decide), if_pos rfl] at hR
  refine Sep.nw h fun i1 H2 h2 => ?_
  have hB := h2.bump 15
  refine asAddr_in ⟨_, Sep.ld1 hB rfl, asAddr_in ⟨_, Sep.ld1 hB rfl, asAddr_in ⟨_, Sep.ld2 hB rfl, ?_, trivial⟩⟩⟩
  rw [hwn]
  refine cond_of (fun z => ?_) fun z => ?_
  · have z : ¬ (key.toNat : Int) < n := by have := of_decide_eq_true z; omega
    rw [if_neg (fun h => z h.1)] at hR
    refine afin (k' := 0) hB fun H' h' => hR H' S c none (by omega) (by omega) (fun _ => rfl) o ?_
    exact Sep.pick h' 4 [0, 3, 1, 2] (by decide)
  have z : (key.toNat : Int) < n := by have := of_decide_eq_false z; omega
  have hC := hB.bump 22
  have hi := hix z
  refine asAddr_in ⟨_, Sep.ld1 hC rfl, asAddr_in ⟨_, Sep.ld2 hC rfl, asAddr_in ⟨_, Sep.ld1 hC rfl, asAddr_in ⟨_, Sep.ld2 hC rfl, ?_⟩⟩⟩⟩
  refine at13_s (Sep.pick hC 4 [1, 2, 0, 3] (by decide)) a z fun H31 h31 => ⟨_, rfl, ?_⟩
  -- r x i1 mem
  refine swap1_s (Sep.up3 h31) o (by omega) hi fun H34 S' o' h34 => ⟨_, _, rfl, ?_, ?_, ?_, ?_, ?_, trivial⟩
  · -- mem r x i1
    have h47 := Sep.pick h34 4 [3, 0, 1, 2] (by decide)
    have hset : ws.getD (aidx 9 n key cpu) 0 = 0 → ws.set (aidx 9 n key cpu) 0 = ws := fun e => by
      refine set_same ?_
      rw [List.getD_eq_getElem?_getD, List.getElem?_eq_getElem hi] at e
      rw [List.getElem?_eq_getElem hi]
      exact congrArg some e
    generalize hw : ws.getD (aidx 9 n key cpu) 0 = w at *
    refine cond_of (fun z0 => ?_) fun z0 => ?_
    · have z0 : w = 0 := by
        have : (w.toNat : Int) = 0 := by simpa using z0
        exact BitVec.eq_of_toNat_eq (by simpa using this)
      rw [if_neg (fun hh => hh.2 ⟨rfl, z0⟩)] at hR
      rw [hset z0] at o'
      exact afin (k' := 0) h47 fun H' h' => hR H' S' (c + 1) none (by omega) (by omega) (fun _ => rfl) o' h'
    · have z0 : ¬ w = 0 := by
        rintro rfl
        simp at z0
      rw [if_pos ⟨z, fun hh => z0 hh.2⟩] at hR
      exact afin (k' := 0) h47 fun H' h' => hR H' S' (c + 1) none (by omega) (by omega) (fun _ => rfl) o' h'
  · exact ⟨⟨_, Sep.ld2 hC rfl, rfl⟩, ⟨_, Sep.ld1 h31 rfl, rfl⟩, trivial⟩
  · exact ⟨⟨_, Sep.ld1 hC rfl, rfl⟩, ⟨_, Sep.ld0 h31 rfl, rfl⟩, trivial⟩
  · exact ⟨⟨_, Sep.ld2 hC rfl, rfl⟩, ⟨_, Sep.ld1 h31 rfl, rfl⟩, trivial⟩
  · exact ⟨⟨_, Sep.ld1 hC rfl, rfl⟩, ⟨_, Sep.ld0 h31 rfl, rfl⟩, trivial⟩

set_option maxHeartbeats 1000000 in
theorem anext_s (h : Sep H (rnA r x 4 key flag cpu v u7 u8 u9 u10 u11 :: axA x m k n inn cp :: mem m S :: L)) (o : One S ws c) (a : AtOk k n cpu)
    (hR : ACont k n ws 4 key v flag cpu c m (rnA r x 4 key flag cpu v u7 u8 u9 u10 u11 :: axA x m k n inn cp :: L) R) : CA en F.array_Run_next [P r] H R := by
  apply vc_array_Run_next
  have hn := a.n
  have hwn : IntKind.u64.wrap n = n := u64_self (by omega) (by omega)
  have hwn1 : IntKind.u64.wrap (n - 1) = n - 1 := u64_self (by omega) (by omega)
  unfold ACont ans aans at hR
  rw [if_neg (by decide), if_neg (by decide), if_neg (by decide)] at hR
  refine Sep.nw h fun i1 H2 h2 => asAddr_in ⟨_, Sep.ld1 h2 rfl, asAddr_in ⟨_, Sep.ld2 h2 rfl, ?_⟩⟩
  rw [hwn, hwn1]
  have h3 : Sep H2 (bx i1 (.cells true 0 [I 0, .slice none 0 0, .int .u64 0, I 0]) :: mem m S :: rnA r x 4 key flag cpu v u7 u8 u9 u10 u11 :: axA x m k n inn cp :: L) := Sep.pick h2 4 [0, 3, 1, 2] (by decide)
  refine asAddr_in ⟨_, Sep.ld1 h2 rfl, cond_of (fun zf => ?_) fun zf => asAddr_in ⟨_, Sep.ld1 h2 rfl, cond_of (fun zk => ?_) fun zk => asAddr_in ⟨_, Sep.ld1 h2 rfl, cond_of (fun ze => ?_) fun ze => asAddr_in ⟨_, Sep.ld1 h2 rfl, ?_⟩⟩⟩⟩
  · have zf : flag = 1 := by simpa using zf
    rw [if_pos (.inl zf)] at hR
    exact afin (k' := 0) h3 fun H' h' => hR H' S c none (by omega) (by omega) (fun _ => rfl) o h'
  · have zk : n ≤ (key.toNat : Int) := by have := of_decide_eq_true zk; omega
    rw [if_pos (.inr zk)] at hR
    exact afin (k' := 0) h3 fun H' h' => hR H' S c none (by omega) (by omega) (fun _ => rfl) o h'
  · have zf : ¬ flag = 1 := by simpa using zf
    have ze : (key.toNat : Int) = n - 1 := by simpa using ze
    rw [if_neg (by rintro (h | h); exact zf h; omega), if_pos ze] at hR
    exact afin (k' := 0) h3 fun H' h' => hR H' S c none (by omega) (by omega) (fun _ => rfl) o h'
  · have zf : ¬ flag = 1 := by simpa using zf
    have zk : ¬ n ≤ (key.toNat : Int) := by have := of_decide_eq_false zk; omega
    have ze : ¬ (key.toNat : Int) = n - 1 := by simpa using ze
    rw [if_neg (by rintro (h | h); exact zf h; exact zk h), if_neg ze] at hR
    have e : IntKind.u64.wrap ((key.toNat : Int) + 1) = ((key + 1 : BitVec 64).toNat : Int) := by
      rw [u64_self (by omega) (by omega), BitVec.toNat_add]
      have : (1 : BitVec 64).toNat = 1 := rfl
      rw [this, Nat.mod_eq_of_lt (by omega)]; omega
    rw [e]
    exact afin (k' := key + 1) h3 fun H' h' => hR H' S c none (by omega) (by omega) (fun _ => rfl) o h'

/-! ### A step -/
end Go.Proofs.Ythnifkjpkepbaaa
namespace Go.AS
open Go Go.Proofs.Ythnifkjpkepbaaa Go.RowKit
set_option linter.unusedVariables false
variable {H H' H0 : Heap} {R : Value → Heap → Prop} {L M : List Asr} {ws val : List (BitVec 64)} {k n inn cpus ok flag cpu cp c : Int} {key v : BitVec 64} {m x r vn : Nat} {S S' : Sm} {va : Option Addr} {u7 u8 u9 u10 u11 : Value}
theorem Sep.upNew {i c : Nat} {es : List MapEntry} {kd : TypeDesc} {k v : Value} {K : Heap → Prop} (h : Sep H (bx i (.map es c) :: L)) (hf : Instr.findNow kd k es 0 = some none)
    (hK : ∀ H', Sep H' (bx i (.map (es ++ [{ key := k, val := v, born := c }]) (c + 1)) :: L) → K H') : upM H kd (some i) k v K := ⟨i, es, c, none, rfl, Sep.get0 h, hf, hK _ (Sep.put0 h _)⟩
theorem Sep.mapGet0 {i c : Nat} {es : List MapEntry} {kd : TypeDesc} {k : Value} {q : Option (Nat × Value)} (h : Sep H (bx i (.map es c) :: L)) (hf : Instr.findNow kd k es 0 = some q) : AS.mapGet H kd (some i) k = some q := by
  have e : entriesOf H (some i) = some es := by
    show (match H.get i with | some (.map es _) => some es | _ => none) = some es
    rw [Sep.get0 h]
  unfold AS.mapGet
  rw [e]
  exact hf
theorem asFnNil_in {f : Fn} {fs cs : Array Value} {K : Bool → Prop} (h : K false) : asFnNil (.func f fs cs) K := h
end Go.AS
namespace Go.Proofs.Ythnifkjpkepbaaa
open Go Go.AS Go.RowKit
set_option linter.unusedVariables false
variable {H H' H0 : Heap} {R : Value → Heap → Prop} {L M : List Asr} {ws val : List (BitVec 64)} {k n inn cpus ok flag cpu cp c : Int} {key v : BitVec 64} {m x r vn : Nat} {S S' : Sm} {va : Option Addr} {u7 u8 u9 u10 u11 : Value}

set_option maxHeartbeats 1000000 in
theorem astep_s (h : Sep H (rnA r x ok key flag cpu v u7 u8 u9 u10 (.bool false) :: axA x m k n inn cp :: mem m S :: L)) (o : One S ws c) (hc : c < 1000000) (a : AtOk k n cpu) (hix : (key.toNat : Int) < n → aidx k n key cpu < ws.length) (hb : ws.length ≤ 1000)
    (hop : ok = 1 ∨ ok = 2 ∨ (ok = 3 ∧ k = 9) ∨ ok = 4)
    (hR : ∀ H' S' c' g, c ≤ c' → c' ≤ c + 1 → (g = none → (ans k n ws ok key v flag cpu).1.val = []) → One S' (ans k n ws ok key v flag cpu).2 c' →
      Sep H' (gl 1 g (wds (ans k n ws ok key v flag cpu).1.val) :: mem m S' :: rnA r x ok key flag cpu v (I (ans k n ws ok key v flag cpu).1.no) (.slice (addr g) (ans k n ws ok key v flag cpu).1.val.length 0) (.int .u64 (ans k n ws ok key v flag cpu).1.key.toNat) (I (ans k n ws ok key v flag cpu).1.elem) (.bool true) :: axA x m k n inn cp :: L) →
      R (.tuple #[.bool true, .bool true]) H') : CA en F.array_Run_Step [P r] H R := by
  apply vc_array_Run_Step
  refine asAddr_in ⟨_, Sep.ld0 h rfl, cond_no rfl (asAddr_in (Sep.st0 h (Nat.le_of_ble_eq_true rfl) fun H6 h6 => Sep.nw h6 fun i7 H8 h8 => ?_))⟩
  refine Sep.upNew h8 rfl fun H9 h9 => Sep.upNew h9 rfl fun H10 h10 => Sep.upNew h10 rfl fun H11 h11 => Sep.upNew h11 rfl fun H12 h12 => ?_
  refine asAddr_in ⟨_, Sep.ld1 h12 rfl, ?_⟩
  rcases hop with rfl | rfl | ⟨rfl, rfl⟩ | rfl
  · refine ⟨_, Sep.mapGet0 h12 rfl, .func (.func F.array_Run_lookup) #[] #[], rfl, asAddr_in (Sep.st1 h12 (Nat.le_of_ble_eq_true rfl) fun H20 h20 => ?_)⟩
    refine asFnNil_in (cond_yes rfl (asFn_in ⟨⟨_, rfl⟩, alook_s h20.tail o hc a hix hb fun H26 S' c' g c1 c2 hg o' h26 => ⟨_, _, _, _, _, rfl, asAddr_in (Sep.st2 h26 (Nat.le_of_ble_eq_true rfl) fun H34 h34 => hR H34 S' c' g c1 c2 hg o' h34)⟩⟩))
  · refine ⟨_, Sep.mapGet0 h12 rfl, .func (.func F.array_Run_update) #[] #[], rfl, asAddr_in (Sep.st1 h12 (Nat.le_of_ble_eq_true rfl) fun H20 h20 => ?_)⟩
    refine asFnNil_in (cond_yes rfl (asFn_in ⟨⟨_, rfl⟩, aupd_s h20.tail o hc a hix hb fun H26 S' c' g c1 c2 hg o' h26 => ⟨_, _, _, _, _, rfl, asAddr_in (Sep.st2 h26 (Nat.le_of_ble_eq_true rfl) fun H34 h34 => hR H34 S' c' g c1 c2 hg o' h34)⟩⟩))
  · refine ⟨_, Sep.mapGet0 h12 rfl, .func (.func F.array_Run_drop) #[] #[], rfl, asAddr_in (Sep.st1 h12 (Nat.le_of_ble_eq_true rfl) fun H20 h20 => ?_)⟩
    refine asFnNil_in (cond_yes rfl (asFn_in ⟨⟨_, rfl⟩, adrop_s h20.tail o hc a hix hb fun H26 S' c' g c1 c2 hg o' h26 => ⟨_, _, _, _, _, rfl, asAddr_in (Sep.st2 h26 (Nat.le_of_ble_eq_true rfl) fun H34 h34 => hR H34 S' c' g c1 c2 hg o' h34)⟩⟩))
  · refine ⟨_, Sep.mapGet0 h12 rfl, .func (.func F.array_Run_next) #[] #[], rfl, asAddr_in (Sep.st1 h12 (Nat.le_of_ble_eq_true rfl) fun H20 h20 => ?_)⟩
    refine asFnNil_in (cond_yes rfl (asFn_in ⟨⟨_, rfl⟩, anext_s h20.tail o a fun H26 S' c' g c1 c2 hg o' h26 => ⟨_, _, _, _, _, rfl, asAddr_in (Sep.st2 h26 (Nat.le_of_ble_eq_true rfl) fun H34 h34 => hR H34 S' c' g c1 c2 hg o' h34)⟩⟩))

/-- Over. -/
theorem aover_s (h : Sep H (rnA r x ok key flag cpu v u7 u8 u9 u10 (.bool true) :: L)) (hR : R (.tuple #[.bool false, .bool true]) H) : CA en F.array_Run_Step [P r] H R := by
  apply vc_array_Run_Step
  exact asAddr_in ⟨_, Sep.ld0 h rfl, cond_yes rfl hR⟩

theorem aresult_s {g : Option Nat} {no e : Int} {ky : Int} (h : Sep H (gl 1 g (wds val) :: rnA r x ok key flag cpu v (I no) (.slice (addr g) val.length 0) (.int .u64 ky) (I e) u11 :: L)) (hg : g = none → val = []) (hl : val.length ≤ 1000)
    (hR : ∀ H' q, (q = none → val = []) → Sep H' (gl 1 q (wds val) :: gl 1 g (wds val) :: rnA r x ok key flag cpu v (I no) (.slice (addr g) val.length 0) (.int .u64 ky) (I e) u11 :: L) → R (.agg #[I no, .slice (addr q) val.length 0, .int .u64 ky, I e]) H') : CA en F.array_Run_Result [P r] H R := by
  apply vc_array_Run_Result
  -- i10 i1 g r
  refine Sep.nw h fun i1 H2 h2 => asAddr_in ⟨_, _, _, _, _, Sep.lds2 h2 rfl, Sep.nw h2 fun i10 H11 h11 => Sep.st0 h11 (Nat.le_of_ble_eq_true rfl) fun H12 h12 => asAddr_in ⟨_, _, Sep.ld3 h12 rfl, ?_⟩⟩
  cases val with
  | nil =>
    refine ⟨[], (by cases g <;> rfl), .inl ⟨rfl, ?_⟩⟩
    refine Sep.st0 h12 (Nat.le_of_ble_eq_true rfl) fun H21 h21 => ⟨_, _, _, _, _, Sep.lds0 h21 rfl, Sep.st1 h21 (Nat.le_of_ble_eq_true rfl) fun H27 h27 => ⟨_, _, _, _, _, Sep.lds1 h27 rfl, ?_⟩⟩
    exact hR H27 none (fun _ => rfl) (gl_none.2 h27.tail.tail)
  | cons w t =>
    obtain ⟨b, rfl⟩ : ∃ b, g = some b := by
      cases g with
      | none => have := hg rfl; cases this
      | some b => exact ⟨b, rfl⟩
    have hb := gl_some.1 (Sep.up2 h12)
    refine ⟨wds (w :: t), rowOf_bx (es := 1) (Sep.get0 hb) (by simp) (by have := takeAt_all' (wds (w :: t)); rw [List.length_map] at this; rw [Nat.mul_one]; exact this), ?_⟩
    refine apd_gl (b := none) (len := 0) (cs := []) (es := 1) (n := (w :: t).length) (new := wds (w :: t)) (gl_none.2 h12) (fun _ => rfl) (by decide) rfl (by simp) (by simp) (by omega) fun H20 q h20 => ?_
    -- q i10 i1 g r
    refine Sep.st1 h20 (Nat.le_of_ble_eq_true rfl) fun H21 h21 => ⟨_, _, _, _, _, Sep.lds1 h21 rfl, Sep.st2 h21 (Nat.le_of_ble_eq_true rfl) fun H27 h27 => ⟨_, _, _, _, _, Sep.lds2 h27 rfl, ?_⟩⟩
    have h28 := Sep.pick h27 4 [0, 3] (by decide)
    have e : 0 + (w :: t).length = (w :: t).length := Nat.zero_add _
    rw [e]
    exact hR H27 (some q) (fun e => by cases e) h28
end Go.Proofs.Ythnifkjpkepbaaa

/-
  A play of agents with an array: a run's step.
-/
namespace Go.Proofs.Ythnifkjpkepbaaa
open Go Go.AS Go.RowKit
set_option linter.unusedVariables false
variable {H H' H0 : Heap} {R : Value → Heap → Prop} {L M : List Asr} {ws val : List (BitVec 64)} {qs : List Nat} {ok flag cpu c : Int} {key v : BitVec 64} {p r a vn : Nat} {S S' : Sm} {va : Option Addr}

/-- What does not change in a play. -/
structure Cst where
  k : Int
  n : Int
  inn : Int
  al : Nat
  y : Nat
  y2 : Nat
  y3 : Nat
  lb : Nat
  eb : Nat
  t2 : List Value
  t3 : List Value
abbrev cpOf (g : Cst) (cpus : Int) : Int := if g.k = 2 then cpus else 1
/-- A play's blocks. -/
abbrev PL (H0 : Heap) (p : Nat) (s : Pl) (g : Cst) (rus : List Value) (ops : List (List Value)) (ats : List Int) (sts has : List Value) (els : List Int) (S : Sm) (qs : List Nat) (ws : List (BitVec 64)) : List Asr :=
  [plA p s, gl 1 s.ga (ints s.As), gl 1 s.gb (ints s.As), bx s.ru (.cells true 1 rus), bx s.op (.cells true 5 ops.flatten), bx s.at_ (.cells true 1 (ints ats)), bx s.st (.cells true 1 sts), bx s.ha (.cells true 1 has), bx s.el (.cells true 1 (ints els)),
    bx s.li (.cells true 5 (flat [⟨g.k, g.n, 1, 0, g.inn⟩, dr, dr])), axA s.x s.m g.k g.n g.inn (cpOf g s.cpus), mem s.m S, mxA s.mx g.al s.cpus, alA g.al g.y g.y2 g.y3, yA g.y g.lb g.eb (g.k == 9) g.k g.n g.inn qs.length, lA g.lb (g.k == 9) qs, vA (g.k == 9) g.eb qs ws, drA g.y2 g.t2, drA g.y3 g.t3, old H0]
theorem c1_get {cs : List Value} {a : Nat} {v : Value} (h : a < cs.length) : (cs.set a v)[0 + a * 1]? = some v := by
  rw [Nat.zero_add, Nat.mul_one, List.getElem?_set_self h]
theorem c1_set {cs : List Value} {a : Nat} {v w : Value} : setAt (cs.set a v) (0 + a * 1) [w] = cs.set a w := by
  rw [setAt1, Nat.zero_add, Nat.mul_one, List.set_set]
theorem i1_set {cs : List Int} {a : Nat} {w : Int} : setAt (ints cs) (0 + a * 1) [I w] = ints (cs.set a w) := by
  rw [setAt1, Nat.zero_add, Nat.mul_one]
  show (cs.map fun v => I v).set a (I w) = (cs.set a w).map fun v => I v
  rw [List.map_set]

/-- What holds of the map of a play. -/
structure GOk (g : Cst) (cpus : Int) (z : Nat) (E : Nat) : Prop where
  f : FirstOk ⟨g.k, g.n, 1, 0, g.inn⟩ E cpus
  m : MdOk ⟨g.k, g.n, 1, 0, g.inn⟩ cpus (g.k == 9) z
theorem GOk.n {g : Cst} {cpus : Int} {z E : Nat} (o : GOk g cpus z E) : 1 ≤ g.n ∧ g.n ≤ 64 := by
  have h1 : g.n = (E : Int) := o.f.ents
  have h2 := o.f.n
  omega
theorem GOk.inn {g : Cst} {cpus : Int} {z E : Nat} (o : GOk g cpus z E) : g.k = 9 → g.inn = 2 := fun e => by
  have : g.inn = if g.k = 9 then 2 else 0 := o.f.inn
  rw [if_pos e] at this; exact this
theorem GOk.z {g : Cst} {cpus : Int} {z E : Nat} (o : GOk g cpus z E) : z ≤ 256 := md_len o.m o.n o.f.cp

/-- What a play's step leaves. -/
structure After (g : Cst) (s s' : Pl) (els els' : List Int) (a : Nat) (e : Int) : Prop where
  hs : ∃ ga gb As, s' = { s with ga := ga, gb := gb, As := As }
  len : s'.As.length ≤ s.As.length + 1
  sub : ∀ x, x ∈ s.As → x ∈ s'.As
  new : e ≠ 0 → e ∈ s'.As
  pr : PrOk s'
  hels : els' = if e > 0 then els.set a e else els

/-- .. between a step and its end. -/
abbrev JLp (H0 : Heap) (p r i66 a z : Nat) (s : Pl) (g : Cst) (rus : List Value) (ops : List (List Value)) (ats : List Int) (sts has : List Value) (S' : Sm) (ws' rv : List (BitVec 64)) (q gg : Option Nat) (no re ok flag cpu : Int) (rk key vv : BitVec 64) (va : Option Addr) (vn : Nat) (s' : Pl) (qs' : List Nat) (els' : List Int) : List Asr :=
  [bx i66 (.cells true 0 [I no, .slice (addr q) rv.length 0, .int .u64 rk.toNat, I re]), gl 1 q (wds rv), plA p s', gl 1 s'.ga (ints s'.As), gl 1 s'.gb (ints s'.As), rnA r s.x ok key flag cpu vv (I no) (.slice (addr gg) rv.length 0) (.int .u64 rk.toNat) (I re) (.bool true), mem s.m S', axA s.x s.m g.k g.n g.inn (cpOf g s.cpus), bx s.ru (.cells true 1 (rus.set a (P r))), bx s.op (.cells true 5 (ops.set a [I ok, .int .u64 key.toNat, .slice va vn 0, I flag, I cpu]).flatten), bx s.at_ (.cells true 1 (ints ats)), bx s.st (.cells true 1 (sts.set a (I 1))), bx s.ha (.cells true 1 (has.set a (.bool true))), bx s.el (.cells true 1 (ints els')), bx s.li (.cells true 5 (flat [⟨g.k, g.n, 1, 0, g.inn⟩, dr, dr])), mxA s.mx g.al s.cpus, alA g.al g.y g.y2 g.y3, yA g.y g.lb g.eb (g.k == 9) g.k g.n g.inn z, lA g.lb (g.k == 9) qs', vA (g.k == 9) g.eb qs' ws', drA g.y2 g.t2, drA g.y3 g.t3, old H0]

set_option maxHeartbeats 1000000 in
theorem pstep_s {s : Pl} {g : Cst} {rus : List Value} {ops : List (List Value)} {ats els : List Int} {sts has : List Value} {E : Nat}
    (h : Sep H (rnA r s.x ok key flag cpu (val.getD 0 0) (I 0) (.slice none 0 0) (.int .u64 0) (I 0) (.bool false) :: PL H0 p s g (rus.set a (P r)) (ops.set a [I ok, .int .u64 key.toNat, .slice va vn 0, I flag, I cpu]) ats (sts.set a (I 0)) (has.set a (.bool false)) els S qs ws))
    (go : GOk g s.cpus qs.length E) (pr : PrOk s) (o : One S ws c) (hc : c < 900000) (hA : s.As.length ≤ 900) (hl : ws.length = qs.length) (ha : a < s.n) (h1 : rus.length = s.n) (h2 : ops.length = s.n) (h3 : sts.length = s.n) (h4 : has.length = s.n) (h5 : els.length = s.n) (h6 : ∀ c ∈ ops, c.length = 5)
    (rp : RightP (g.k == 9) g.k s.cpus ok val flag cpu) (ra : ∀ L, old H0 ∈ L → RdW L va val) (hvn : vn = val.length)
    (hR : ∀ H' s' els' S' qs' c', c' ≤ c + 1 → One S' (ans g.k g.n ws ok key (val.getD 0 0) flag cpu).2 c' → qs'.length = qs.length → After g s s' els els' a (ans g.k g.n ws ok key (val.getD 0 0) flag cpu).1.elem →
      Sep H' (PL H0 p s' g (rus.set a (.pointer none)) (ops.set a [I ok, .int .u64 key.toNat, .slice va vn 0, I flag, I cpu]) ats (sts.set a (I 1)) (has.set a (.bool true)) els' S' qs' (ans g.k g.n ws ok key (val.getD 0 0) flag cpu).2) → R (.bool true) H') :
    CA en F.crossbarlaw13_play_step [P p, I a] H R := by
  apply vc_crossbarlaw13_play_step
  have hk := go.f.kind
  have hk : g.k = 1 ∨ g.k = 2 ∨ g.k = 9 := hk
  have hcp := go.f.cp
  have hz := go.z
  have hn := go.n
  have hop := does_op hk rp.does
  have hvl := aans_vlen (nest := (g.k == 9)) (k := g.k) (n := g.n) (ws := ws) (ok := ok) (key := key) (v := val.getD 0 0) (flag := flag) (cpu := cpu)
  have h5' : ∀ c ∈ ops.set a [I ok, .int .u64 key.toNat, .slice va vn 0, I flag, I cpu], c.length = 5 := set_rows h6 rfl
  have hco : a < ops.length := by omega
  -- r pl ga gb ru op at st ha el li ax mem mx al y l v d2 d3 old
  refine asAddr_in ⟨_, _, Sep.ld1 h rfl, ⟨by omega, by omega⟩, asRow_in ⟨some ⟨r, 0, none⟩, ?_⟩⟩
  rw [Int.toNat_natCast]
  refine ⟨Sep.ld4 h (c1_get (by omega)), asAddr_in ⟨_, Sep.ld1 h rfl, count_s (Sep.up12 h) ⟨_, rfl, ?_⟩⟩⟩
  rw [o.cnt, wrap_i64 (n := c + 1) (by have := o.c0; omega)]
  have hs : Sep H [rnA r s.x ok key flag cpu (val.getD 0 0) (I 0) (.slice none 0 0) (.int .u64 0) (I 0) (.bool false), axA s.x s.m g.k g.n g.inn (cpOf g s.cpus), mem s.m S, plA p s, gl 1 s.ga (ints s.As), gl 1 s.gb (ints s.As), bx s.ru (.cells true 1 (rus.set a (P r))), bx s.op (.cells true 5 (ops.set a [I ok, .int .u64 key.toNat, .slice va vn 0, I flag, I cpu]).flatten), bx s.at_ (.cells true 1 (ints ats)), bx s.st (.cells true 1 (sts.set a (I 0))), bx s.ha (.cells true 1 (has.set a (.bool false))), bx s.el (.cells true 1 (ints els)), bx s.li (.cells true 5 (flat [⟨g.k, g.n, 1, 0, g.inn⟩, dr, dr])), mxA s.mx g.al s.cpus, alA g.al g.y g.y2 g.y3, yA g.y g.lb g.eb (g.k == 9) g.k g.n g.inn qs.length, lA g.lb (g.k == 9) qs, vA (g.k == 9) g.eb qs ws, drA g.y2 g.t2, drA g.y3 g.t3, old H0] := Sep.pick h 21 [0, 11, 12, 1, 2, 3, 4, 5, 6, 7, 8, 9, 10, 13, 14, 15, 16, 17, 18, 19, 20] (by decide)
  refine astep_s hs o (by omega) ⟨hn, fun e => by have := rp.hcpu e; omega⟩ (fun e => by rw [hl]; exact idx_ok go.m hn e rp.hcpu) (by omega) hop fun H15 S' c' gg hc1 hc2 hgg o' h15 => ⟨_, _, rfl, ?_⟩
  have hvl' : (ans g.k g.n ws ok key (val.getD 0 0) flag cpu).1.val.length ≤ 1000 := by
    have : (ans g.k g.n ws ok key (val.getD 0 0) flag cpu).1.val.length ≤ 1 := hvl
    omega
  have hwl : (ans g.k g.n ws ok key (val.getD 0 0) flag cpu).2.length = qs.length := by
    rw [← hl]; exact aans_len
  generalize hres : (ans g.k g.n ws ok key (val.getD 0 0) flag cpu) = A at *
  obtain ⟨⟨no, rv, rk, re⟩, ws'⟩ := A
  simp only at hvl' hwl o' hgg
  have hB : Sep (H15.bump 15) [gl 1 gg (wds rv), mem s.m S', rnA r s.x ok key flag cpu (val.getD 0 0) (I no) (.slice (addr gg) rv.length 0) (.int .u64 rk.toNat) (I re) (.bool true), axA s.x s.m g.k g.n g.inn (cpOf g s.cpus), plA p s, gl 1 s.ga (ints s.As), gl 1 s.gb (ints s.As), bx s.ru (.cells true 1 (rus.set a (P r))), bx s.op (.cells true 5 (ops.set a [I ok, .int .u64 key.toNat, .slice va vn 0, I flag, I cpu]).flatten), bx s.at_ (.cells true 1 (ints ats)), bx s.st (.cells true 1 (sts.set a (I 0))), bx s.ha (.cells true 1 (has.set a (.bool false))), bx s.el (.cells true 1 (ints els)), bx s.li (.cells true 5 (flat [⟨g.k, g.n, 1, 0, g.inn⟩, dr, dr])), mxA s.mx g.al s.cpus, alA g.al g.y g.y2 g.y3, yA g.y g.lb g.eb (g.k == 9) g.k g.n g.inn qs.length, lA g.lb (g.k == 9) qs, vA (g.k == 9) g.eb qs ws, drA g.y2 g.t2, drA g.y3 g.t3, old H0] := h15.bump 15
  refine asAddr_in ⟨_, _, Sep.ld4 hB rfl, asAddr_in ⟨_, _, Sep.ld4 hB rfl, ⟨by omega, by omega⟩, asRow_in ⟨0, Sep.ld10 hB (c1_get (by omega)), ⟨by omega, by omega⟩, asRow_in (Sep.st10 hB (by simp; omega) fun H31 h31 => ⟨?_, trivial⟩)⟩⟩⟩
  rw [c1_set, show IntKind.i64.wrap (0 + 1) = 1 from rfl] at h31
  refine asAddr_in ⟨_, Sep.ld4 h31 rfl, count_s (Sep.up1 h31) ⟨_, rfl, cond_no ?_ ?_⟩⟩
  · rw [o'.cnt, decide_eq_false_iff_not]; omega
  refine asAddr_in ⟨_, _, Sep.ld4 h31 rfl, ⟨by omega, by omega⟩, asRow_in ⟨1, Sep.ld10 h31 (c1_get (by omega)), cond_no rfl (cond_yes rfl (asAddr_in ⟨_, _, Sep.ld4 h31 rfl, ⟨by omega, by omega⟩, asRow_in ⟨false, Sep.ld11 h31 (c1_get (by omega)), cond_no rfl (cond_yes rfl (asAddr_in ⟨_, _, Sep.ld4 h31 rfl, ⟨by omega, by omega⟩, asRow_in ?_⟩))⟩⟩))⟩⟩
  refine Sep.st11 h31 (by simp; omega) fun H58 h58 => ?_
  rw [c1_set] at h58
  have h59 : Sep H58 [gl 1 gg (wds rv), rnA r s.x ok key flag cpu (val.getD 0 0) (I no) (.slice (addr gg) rv.length 0) (.int .u64 rk.toNat) (I re) (.bool true), mem s.m S', axA s.x s.m g.k g.n g.inn (cpOf g s.cpus), plA p s, gl 1 s.ga (ints s.As), gl 1 s.gb (ints s.As), bx s.ru (.cells true 1 (rus.set a (P r))), bx s.op (.cells true 5 (ops.set a [I ok, .int .u64 key.toNat, .slice va vn 0, I flag, I cpu]).flatten), bx s.at_ (.cells true 1 (ints ats)), bx s.st (.cells true 1 (sts.set a (I 1))), bx s.ha (.cells true 1 (has.set a (.bool true))), bx s.el (.cells true 1 (ints els)), bx s.li (.cells true 5 (flat [⟨g.k, g.n, 1, 0, g.inn⟩, dr, dr])), mxA s.mx g.al s.cpus, alA g.al g.y g.y2 g.y3, yA g.y g.lb g.eb (g.k == 9) g.k g.n g.inn qs.length, lA g.lb (g.k == 9) qs, vA (g.k == 9) g.eb qs ws, drA g.y2 g.t2, drA g.y3 g.t3, old H0] := Sep.pick h58 22 [0, 2, 1, 3, 4, 5, 6, 7, 8, 9, 10, 11, 12, 13, 14, 15, 16, 17, 18, 19, 20, 21] (by decide)
  refine aresult_s h59 hgg hvl' fun H60 q hq h60 => ⟨_, _, _, _, _, rfl, ?_⟩
  refine Sep.nw h60 fun i66 H67 h67 => Sep.st0 h67 (Nat.le_of_ble_eq_true rfl) fun H68 h68 => ?_
  have hC : Sep (H68.bump 39) [bx i66 (.cells true 0 [I no, .slice (addr q) rv.length 0, .int .u64 rk.toNat, I re]), gl 1 q (wds rv), gl 1 gg (wds rv), rnA r s.x ok key flag cpu (val.getD 0 0) (I no) (.slice (addr gg) rv.length 0) (.int .u64 rk.toNat) (I re) (.bool true), mem s.m S', axA s.x s.m g.k g.n g.inn (cpOf g s.cpus), plA p s, gl 1 s.ga (ints s.As), gl 1 s.gb (ints s.As), bx s.ru (.cells true 1 (rus.set a (P r))), bx s.op (.cells true 5 (ops.set a [I ok, .int .u64 key.toNat, .slice va vn 0, I flag, I cpu]).flatten), bx s.at_ (.cells true 1 (ints ats)), bx s.st (.cells true 1 (sts.set a (I 1))), bx s.ha (.cells true 1 (has.set a (.bool true))), bx s.el (.cells true 1 (ints els)), bx s.li (.cells true 5 (flat [⟨g.k, g.n, 1, 0, g.inn⟩, dr, dr])), mxA s.mx g.al s.cpus, alA g.al g.y g.y2 g.y3, yA g.y g.lb g.eb (g.k == 9) g.k g.n g.inn qs.length, lA g.lb (g.k == 9) qs, vA (g.k == 9) g.eb qs ws, drA g.y2 g.t2, drA g.y3 g.t3, old H0] := h68.bump 39
  refine ⟨fun _ H' => ∃ s' qs', qs'.length = qs.length ∧ (∃ ga gb As, s' = { s with ga := ga, gb := gb, As := As }) ∧ s'.As.length ≤ s.As.length + 1 ∧ (∀ x, x ∈ s.As → x ∈ s'.As) ∧ (re ≠ 0 → re ∈ s'.As) ∧ PrOk s' ∧ Sep H' (JLp H0 p r i66 a qs.length s g rus ops ats sts has S' ws' rv q gg no re ok flag cpu rk key (val.getD 0 0) va vn s' qs' els), ?_, ?_⟩
  · refine asAddr_in ⟨_, _, _, _, _, Sep.lds0 hC rfl, asAddr_in ⟨_, Sep.ld6 hC rfl, asAddr_in ⟨_, _, Sep.ld6 hC rfl, ⟨by omega, by omega⟩, asRow_in ⟨ok, (key.toNat : Int), va, vn, flag, cpu, rowlds (o := 0) hC 10 rfl h6 rfl hco rfl, ?_⟩⟩⟩⟩
    have hold : ∀ (L1 L2 : List Asr), old H0 ∈ L1 ++ old H0 :: L2 := fun L1 L2 => List.mem_append_right _ List.mem_cons_self
    have hD : Sep _ [mxA s.mx g.al s.cpus, alA g.al g.y g.y2 g.y3, yA g.y g.lb g.eb (g.k == 9) g.k g.n g.inn qs.length, lA g.lb (g.k == 9) qs, vA (g.k == 9) g.eb qs ws, drA g.y2 g.t2, drA g.y3 g.t3, bx i66 (.cells true 0 [I no, .slice (addr q) rv.length 0, .int .u64 rk.toNat, I re]), gl 1 q (wds rv), gl 1 gg (wds rv), rnA r s.x ok key flag cpu (val.getD 0 0) (I no) (.slice (addr gg) rv.length 0) (.int .u64 rk.toNat) (I re) (.bool true), mem s.m S', axA s.x s.m g.k g.n g.inn (cpOf g s.cpus), plA p s, gl 1 s.ga (ints s.As), gl 1 s.gb (ints s.As), bx s.ru (.cells true 1 (rus.set a (P r))), bx s.op (.cells true 5 (ops.set a [I ok, .int .u64 key.toNat, .slice va vn 0, I flag, I cpu]).flatten), bx s.at_ (.cells true 1 (ints ats)), bx s.st (.cells true 1 (sts.set a (I 1))), bx s.ha (.cells true 1 (has.set a (.bool true))), bx s.el (.cells true 1 (ints els)), bx s.li (.cells true 5 (flat [⟨g.k, g.n, 1, 0, g.inn⟩, dr, dr])), old H0] := Sep.pick hC 24 [16, 17, 18, 19, 20, 21, 22, 0, 1, 2, 3, 4, 5, 6, 7, 8, 9, 10, 11, 12, 13, 14, 15, 23] (by decide)
    refine do11_s hD go.m go.inn hn hcp.2 hl (by omega) (ra _ (by simp)) hvn (fun _ H93 g2 qs' hg2 hq' h93 => ⟨_, _, _, _, _, rfl, ?_⟩) fun np => absurd rp np
    have hres' : aans (g.k == 9) g.k g.n ws ok key (val.getD 0 0) flag cpu = (⟨no, rv, rk, re⟩, ws') := hres
    rw [hres'] at hg2 h93 ⊢
    simp only at hg2 h93 ⊢
    -- g2 mx al y l v d2 d3 i66 q g r mem ax pl ga gb ru op at st ha el li old
    have h94 : Sep _ [plA p s, gl 1 s.ga (ints s.As), gl 1 s.gb (ints s.As), bx i66 (.cells true 0 [I no, .slice (addr q) rv.length 0, .int .u64 rk.toNat, I re]), gl 1 q (wds rv), rnA r s.x ok key flag cpu (val.getD 0 0) (I no) (.slice (addr gg) rv.length 0) (.int .u64 rk.toNat) (I re) (.bool true), mem s.m S', axA s.x s.m g.k g.n g.inn (cpOf g s.cpus), bx s.ru (.cells true 1 (rus.set a (P r))), bx s.op (.cells true 5 (ops.set a [I ok, .int .u64 key.toNat, .slice va vn 0, I flag, I cpu]).flatten), bx s.at_ (.cells true 1 (ints ats)), bx s.st (.cells true 1 (sts.set a (I 1))), bx s.ha (.cells true 1 (has.set a (.bool true))), bx s.el (.cells true 1 (ints els)), bx s.li (.cells true 5 (flat [⟨g.k, g.n, 1, 0, g.inn⟩, dr, dr])), mxA s.mx g.al s.cpus, alA g.al g.y g.y2 g.y3, yA g.y g.lb g.eb (g.k == 9) g.k g.n g.inn qs.length, lA g.lb (g.k == 9) qs', vA (g.k == 9) g.eb qs' ws', drA g.y2 g.t2, drA g.y3 g.t3, old H0, gl 1 g2 (wds rv)] := Sep.pick h93 25 [14, 15, 16, 8, 9, 11, 12, 13, 17, 18, 19, 20, 21, 22, 23, 1, 2, 3, 4, 5, 6, 7, 24, 0] (by decide)
    refine agree13_s h94 pr (by omega) (rdw_gl (q := q) (by simp) hq) (rdw_gl (q := g2) (by simp) hg2) rfl rfl hvl' fun H100 s' hs' pr' h100 => ⟨_, rfl, cond_no rfl ?_⟩
    obtain ⟨ga, gb, As, rfl, k1, k2, _, k4, _⟩ := hs'
    -- pl ga gb i66 q r mem ax ru op at st ha el li mx al y l v d2 d3 old g2
    refine asAddr_in ⟨_, _, Sep.ld0 h100 rfl, ⟨by decide, by decide⟩, asRow_in ⟨_, Sep.ld14 h100 rfl, cond_of (fun z => ?_) fun z => ?_⟩⟩
    · refine ⟨_, Sep.ld3 h100 rfl, asAddr_in ⟨_, Sep.ld3 h100 rfl, of13_s h100 pr' (by show As.length ≤ 1000; omega) fun H124 h124 => ⟨_, rfl, cond_no ?_ ⟨_, qs', hq', ⟨ga, gb, As, rfl⟩, k1, k2, k4, pr', ?_⟩, ⟨⟨_, Sep.ld3 h100 rfl, rfl⟩, ⟨_, Sep.ld3 h124 rfl, rfl⟩, trivial⟩, ⟨⟨_, _, _, _, _, Sep.lds0 hC rfl, sameRes _ _ _ _ _⟩, ⟨_, _, _, _, _, Sep.lds8 h93 rfl, sameRes _ _ _ _ _⟩, trivial⟩, trivial⟩⟩⟩
      · show (re != if re ∈ As then re else 0) = false
        by_cases e : re = 0
        · subst e; simp
        · rw [if_pos (k4 e)]; simp
      · exact Sep.pick h124 24 [3, 4, 0, 1, 2, 5, 6, 7, 8, 9, 10, 11, 12, 13, 14, 15, 16, 17, 18, 19, 20, 21, 22] (by decide)
    · refine ⟨⟨_, qs', hq', ⟨ga, gb, As, rfl⟩, k1, k2, k4, pr', ?_⟩, ⟨⟨_, _, _, _, _, Sep.lds0 hC rfl, sameRes _ _ _ _ _⟩, ⟨_, _, _, _, _, Sep.lds8 h93 rfl, sameRes _ _ _ _ _⟩, trivial⟩, trivial⟩
      exact Sep.pick h100 24 [3, 4, 0, 1, 2, 5, 6, 7, 8, 9, 10, 11, 12, 13, 14, 15, 16, 17, 18, 19, 20, 21, 22] (by decide)
  have hin : inB (a : Int) s.n := ⟨by omega, by omega⟩
  rintro ys148 H149 ⟨s', qs', hq', ⟨ga, gb, As, rfl⟩, k1, k2, k4, pr', h149⟩
  refine ⟨fun _ H' => Sep H' (JLp H0 p r i66 a qs.length s g rus ops ats sts has S' ws' rv q gg no re ok flag cpu rk key (val.getD 0 0) va vn { s with ga := ga, gb := gb, As := As } qs' (if re > 0 then els.set a re else els)), ?_, ?_⟩
  · refine ⟨_, Sep.ld0 h149 rfl, cond_of (fun z => ?_) fun z => ?_⟩
    · have z := of_decide_eq_true z
      have hD := h149.bump 9
      refine asAddr_in ⟨_, _, Sep.ld2 hD rfl, _, Sep.ld0 hD rfl, hin, asRow_in (Sep.st13 hD (by simp; omega) fun H159 h159 => ⟨?_, trivial⟩)⟩
      rw [i1_set] at h159
      rw [if_pos z]
      exact h159
    · have z := of_decide_eq_false z
      rw [if_neg z]
      exact h149
  rintro ys160 H161 h161
  refine ⟨_, _, Sep.ld0 h161 rfl, SpoilWords_s (q := q) rfl (by omega) hq (Sep.pick h161 23 [1, 0, 2, 3, 4, 5, 6, 7, 8, 9, 10, 11, 12, 13, 14, 15, 16, 17, 18, 19, 20, 21, 22] (by decide)) fun H165 h165 => ⟨rfl, cond_yes rfl ?_⟩⟩
  -- i66 pl ga gb r mem ax ru op at st ha el li mx al y l v d2 d3 old
  refine aover_s (Sep.pick h165 22 [4, 0, 1, 2, 3, 5, 6, 7, 8, 9, 10, 11, 12, 13, 14, 15, 16, 17, 18, 19, 20, 21] (by decide)) ⟨_, _, rfl, ?_⟩
  refine asAddr_in ⟨_, _, Sep.ld1 h165 rfl, hin, asRow_in ⟨true, Sep.ld11 h165 (c1_get (by omega)), cond_no rfl (cond_no rfl (cond_no rfl (asAddr_in ⟨_, Sep.ld1 h165 rfl, count_s (Sep.up5 h165) ⟨_, rfl, cond_no ?_ (asAddr_in ⟨_, _, Sep.ld1 h165 rfl, hin, asRow_in (Sep.st7 h165 (by simp; omega) fun H189 h189 => ?_)⟩)⟩⟩)))⟩⟩
  · rw [o'.cnt, decide_eq_false_iff_not]; omega
  rw [c1_set, ← hq'] at h189
  refine hR H189 { s with ga := ga, gb := gb, As := As } _ S' qs' c' hc2 o' hq' ⟨⟨ga, gb, As, rfl⟩, k1, k2, k4, pr', rfl⟩ ?_
  exact Sep.pick h189 22 [1, 2, 3, 7, 8, 9, 10, 11, 12, 13, 6, 5, 14, 15, 16, 17, 18, 19, 20, 21] (by decide)
end Go.Proofs.Ythnifkjpkepbaaa

/-
  A play of agents with an array: an agent's turn.
-/
namespace Go.Proofs.Ythnifkjpkepbaaa
open Go Go.AS Go.RowKit
set_option linter.unusedVariables false
variable {H H' H0 : Heap} {R : Value → Heap → Prop} {L M : List Asr} {ws val : List (BitVec 64)} {qs : List Nat} {ok flag cpu c : Int} {key v : BitVec 64} {p r a vn : Nat} {S S' : Sm} {va : Option Addr}

theorem cell13_s {x m : Nat} {k n inn cp e : Int} (h : Sep H (axA x m k n inn cp :: L)) (hk : k ≠ 9) (he : 1 ≤ e ∧ e ≤ n * cp) (hb : n * cp ≤ 1000)
    (hR : ∀ H', Sep H' (axA x m k n inn cp :: L) → R (.tuple #[I 1, I (e - 1)]) H') : CA en F.array_Map_Cell [P x, I e] H R := by
  apply vc_array_Map_Cell
  have hB := h.bump 24
  refine asAddr_in ⟨_, Sep.ld0 hB rfl, cond_no (by rw [beq_eq_false_iff_ne]; exact hk) (cond_no (by rw [decide_eq_false_iff_not]; omega) (asAddr_in ⟨_, Sep.ld0 hB rfl, asAddr_in ⟨_, Sep.ld0 hB rfl, ?_, trivial⟩⟩))⟩
  rw [wrap_i64 (n := n * cp) (by omega), wrap_i64 (n := e - 1) (by omega)]
  exact cond_no (by rw [decide_eq_false_iff_not]; omega) (asAddr_in ⟨_, Sep.ld0 hB rfl, hR _ hB⟩)

/-- What holds of all agents, between turns. -/
structure TS (H0 : Heap) (p : Nat) (g : Cst) (E : Nat) (ll : List (List Deed)) (H : Heap) (s : Pl) (z : Nat) (ats : List Int) (c : Int) : Prop where
  go : GOk g s.cpus z E
  pr : PrOk s
  hn : s.n = ll.length
  la : ats.length = s.n
  ex : ∃ (ops : List (List Value)) (sts has : List Value) (els : List Int) (S : Sm) (qs : List Nat) (ws : List (BitVec 64)), One S ws c ∧ ws.length = qs.length ∧ qs.length = z ∧ ops.length = s.n ∧ (∀ c ∈ ops, c.length = 5) ∧ sts.length = s.n ∧ has.length = s.n ∧ els.length = s.n ∧
    (∀ e ∈ els, e = 0 ∨ (e ∈ s.As ∧ (g.k ≠ 9 → 1 ≤ e ∧ e ≤ z))) ∧ Sep H (PL H0 p s g (List.replicate s.n (.pointer none)) ops ats sts has els S qs ws)

theorem cp_z {g : Cst} {cpus : Int} {z E : Nat} (o : GOk g cpus z E) (hk : g.k ≠ 9) : g.n * cpOf g cpus = (z : Int) := by
  rcases o.m with ⟨_, h, e⟩ | ⟨_, h, e⟩ | ⟨_, h, e⟩
  · exact absurd h hk
  · have h : g.k = 1 := h
    have e : (z : Int) = g.n := e
    unfold cpOf
    rw [if_neg (by omega), Int.mul_one, e]
  · have h : g.k = 2 := h
    have e : (z : Int) = g.n * cpus := e
    unfold cpOf
    rw [if_pos h, e]

set_option maxHeartbeats 1000000 in
theorem direct_s {s : Pl} {g : Cst} {rus : List Value} {ops : List (List Value)} {ats els : List Int} {sts has : List Value} {E : Nat} {d : Deed}
    (h : Sep H (PL H0 p s g rus ops ats sts has els S qs ws)) (go : GOk g s.cpus qs.length E) (pr : PrOk s) (o : One S ws c) (hc : c < 900000) (hA : s.As.length ≤ 900) (hl : ws.length = qs.length) (ha : a < s.n) (h5 : els.length = s.n)
    (he : ∀ e ∈ els, e = 0 ∨ (e ∈ s.As ∧ (g.k ≠ 9 → 1 ≤ e ∧ e ≤ qs.length))) (hd : d.todo = 1 ∨ d.todo = 2)
    (hR : ∀ H' S' ws' c', c' ≤ c + 1 → One S' ws' c' → ws'.length = qs.length → Sep H' (PL H0 p s g rus ops ats sts has els S' qs ws') → R (.bool true) H') :
    CA en F.crossbarlaw13_play_direct [P p, I a, .agg #[I d.todo, I d.o.kind, .int .u64 d.o.key.toNat, .slice va vn 0, I d.o.flag, I d.o.cpu, .int .u64 d.v.toNat]] H R := by
  apply vc_crossbarlaw13_play_direct
  have hz := go.z
  have hin : inB (a : Int) s.n := ⟨by omega, by omega⟩
  obtain ⟨e, hea⟩ : ∃ e, els[a]? = some e := ⟨_, List.getElem?_eq_getElem (by omega)⟩
  have hem := he e (List.mem_of_getElem? hea)
  have hel : (ints els)[0 + a * 1]? = some (I e) := by rw [Nat.zero_add, Nat.mul_one, List.getElem?_map, hea]; rfl
  refine Sep.nw h fun i1 H2 h2 => ?_
  -- i1 pl ga gb ru op at st ha el li ax mem mx al y l v d2 d3 old
  refine asAddr_in ⟨_, _, Sep.ld1 h2 rfl, hin, asRow_in ⟨e, ?_⟩⟩
  rw [Int.toNat_natCast]
  refine ⟨Sep.ld9 h2 hel, cond_of (fun z => hR _ S ws c (by omega) o hl h2.tail) fun z => asAddr_in ⟨_, _, Sep.ld1 h2 rfl, ⟨by decide, by decide⟩, asRow_in ⟨_, Sep.ld10 h2 rfl, cond_of (fun z9 => hR _ S ws c (by omega) o hl h2.tail) fun z9 => ?_⟩⟩⟩
  have z : e ≠ 0 := by simpa using z
  have z9 : g.k ≠ 9 := by simpa using z9
  obtain ⟨hm, h1⟩ : e ∈ s.As ∧ (1 ≤ e ∧ e ≤ qs.length) := by
    rcases hem with h1 | ⟨h1, h2⟩
    · exact absurd h1 z
    · exact ⟨h1, h2 z9⟩
  have hnest : (g.k == 9) = false := by rw [beq_eq_false_iff_ne]; exact z9
  obtain ⟨j, rfl⟩ : ∃ j : Nat, e = (j : Int) + 1 := ⟨(e - 1).toNat, by omega⟩
  have hj : j < qs.length := by omega
  have hcz := cp_z go z9
  have key : ∀ H' S' ws', Sep H' [plA p s, gl 1 s.ga (ints s.As), gl 1 s.gb (ints s.As), bx s.ru (.cells true 1 rus), bx s.op (.cells true 5 ops.flatten), bx s.at_ (.cells true 1 (ints ats)), bx s.st (.cells true 1 sts), bx s.ha (.cells true 1 has), bx s.el (.cells true 1 (ints els)), bx s.li (.cells true 5 (flat [⟨g.k, g.n, 1, 0, g.inn⟩, dr, dr])), axA s.x s.m g.k g.n g.inn (cpOf g s.cpus), mem s.m S', mxA s.mx g.al s.cpus, alA g.al g.y g.y2 g.y3, yA g.y g.lb g.eb false g.k g.n g.inn qs.length, lA g.lb false qs, bx g.eb (.cells true 1 (wds ws')), drA g.y2 g.t2, drA g.y3 g.t3, old H0] → Sep H' (PL H0 p s g rus ops ats sts has els S' qs ws') := fun H' S' ws' h' => by
    show Sep H' [plA p s, gl 1 s.ga (ints s.As), gl 1 s.gb (ints s.As), bx s.ru (.cells true 1 rus), bx s.op (.cells true 5 ops.flatten), bx s.at_ (.cells true 1 (ints ats)), bx s.st (.cells true 1 sts), bx s.ha (.cells true 1 has), bx s.el (.cells true 1 (ints els)), bx s.li (.cells true 5 (flat [⟨g.k, g.n, 1, 0, g.inn⟩, dr, dr])), axA s.x s.m g.k g.n g.inn (cpOf g s.cpus), mem s.m S', mxA s.mx g.al s.cpus, alA g.al g.y g.y2 g.y3, yA g.y g.lb g.eb (g.k == 9) g.k g.n g.inn qs.length, lA g.lb (g.k == 9) qs, vA (g.k == 9) g.eb qs ws', drA g.y2 g.t2, drA g.y3 g.t3, old H0]
    rw [hnest]; exact h'
  have h3 : Sep H2 [bx i1 (.cells true 0 [I d.todo, I d.o.kind, .int .u64 d.o.key.toNat, .slice va vn 0, I d.o.flag, I d.o.cpu, .int .u64 d.v.toNat]), plA p s, gl 1 s.ga (ints s.As), gl 1 s.gb (ints s.As), bx s.ru (.cells true 1 rus), bx s.op (.cells true 5 ops.flatten), bx s.at_ (.cells true 1 (ints ats)), bx s.st (.cells true 1 sts), bx s.ha (.cells true 1 has), bx s.el (.cells true 1 (ints els)), bx s.li (.cells true 5 (flat [⟨g.k, g.n, 1, 0, g.inn⟩, dr, dr])), axA s.x s.m g.k g.n g.inn (cpOf g s.cpus), mem s.m S, mxA s.mx g.al s.cpus, alA g.al g.y g.y2 g.y3, yA g.y g.lb g.eb false g.k g.n g.inn qs.length, lA g.lb false qs, bx g.eb (.cells true 1 (wds ws)), drA g.y2 g.t2, drA g.y3 g.t3, old H0] := by
    have h4 : Sep H2 [bx i1 (.cells true 0 [I d.todo, I d.o.kind, .int .u64 d.o.key.toNat, .slice va vn 0, I d.o.flag, I d.o.cpu, .int .u64 d.v.toNat]), plA p s, gl 1 s.ga (ints s.As), gl 1 s.gb (ints s.As), bx s.ru (.cells true 1 rus), bx s.op (.cells true 5 ops.flatten), bx s.at_ (.cells true 1 (ints ats)), bx s.st (.cells true 1 sts), bx s.ha (.cells true 1 has), bx s.el (.cells true 1 (ints els)), bx s.li (.cells true 5 (flat [⟨g.k, g.n, 1, 0, g.inn⟩, dr, dr])), axA s.x s.m g.k g.n g.inn (cpOf g s.cpus), mem s.m S, mxA s.mx g.al s.cpus, alA g.al g.y g.y2 g.y3, yA g.y g.lb g.eb (g.k == 9) g.k g.n g.inn qs.length, lA g.lb (g.k == 9) qs, vA (g.k == 9) g.eb qs ws, drA g.y2 g.t2, drA g.y3 g.t3, old H0] := h2
    rw [hnest] at h4; exact h4
  have h4 : Sep _ [axA s.x s.m g.k g.n g.inn (cpOf g s.cpus), bx i1 (.cells true 0 [I d.todo, I d.o.kind, .int .u64 d.o.key.toNat, .slice va vn 0, I d.o.flag, I d.o.cpu, .int .u64 d.v.toNat]), plA p s, gl 1 s.ga (ints s.As), gl 1 s.gb (ints s.As), bx s.ru (.cells true 1 rus), bx s.op (.cells true 5 ops.flatten), bx s.at_ (.cells true 1 (ints ats)), bx s.st (.cells true 1 sts), bx s.ha (.cells true 1 has), bx s.el (.cells true 1 (ints els)), bx s.li (.cells true 5 (flat [⟨g.k, g.n, 1, 0, g.inn⟩, dr, dr])), mem s.m S, mxA s.mx g.al s.cpus, alA g.al g.y g.y2 g.y3, yA g.y g.lb g.eb false g.k g.n g.inn qs.length, lA g.lb false qs, bx g.eb (.cells true 1 (wds ws)), drA g.y2 g.t2, drA g.y3 g.t3, old H0] := Sep.pick h3 21 [11, 0, 1, 2, 3, 4, 5, 6, 7, 8, 9, 10, 12, 13, 14, 15, 16, 17, 18, 19, 20] (by decide)
  refine asAddr_in ⟨_, Sep.ld1 h2 rfl, cell13_s h4 z9 (by rw [hcz]; omega) (by rw [hcz]; omega) fun H21 h21 => ⟨_, _, rfl, ?_⟩⟩
  rw [show (j : Int) + 1 - 1 = (j : Int) by omega]
  refine ⟨_, Sep.ld1 h21 rfl, cond_of (fun zd => ?_) fun zd => ?_⟩
  · refine asAddr_in ⟨_, Sep.ld2 h21 rfl, ?_⟩
    have h22 : Sep _ [mem s.m S, axA s.x s.m g.k g.n g.inn (cpOf g s.cpus), bx i1 (.cells true 0 [I d.todo, I d.o.kind, .int .u64 d.o.key.toNat, .slice va vn 0, I d.o.flag, I d.o.cpu, .int .u64 d.v.toNat]), plA p s, gl 1 s.ga (ints s.As), gl 1 s.gb (ints s.As), bx s.ru (.cells true 1 rus), bx s.op (.cells true 5 ops.flatten), bx s.at_ (.cells true 1 (ints ats)), bx s.st (.cells true 1 sts), bx s.ha (.cells true 1 has), bx s.el (.cells true 1 (ints els)), bx s.li (.cells true 5 (flat [⟨g.k, g.n, 1, 0, g.inn⟩, dr, dr])), mxA s.mx g.al s.cpus, alA g.al g.y g.y2 g.y3, yA g.y g.lb g.eb false g.k g.n g.inn qs.length, lA g.lb false qs, bx g.eb (.cells true 1 (wds ws)), drA g.y2 g.t2, drA g.y3 g.t3, old H0] := Sep.pick h21 21 [12, 0, 1, 2, 3, 4, 5, 6, 7, 8, 9, 10, 11, 13, 14, 15, 16, 17, 18, 19, 20] (by decide)
    refine load1_s h22 o (by omega) (by omega) fun H29 S' o' h29 => ⟨_, _, rfl, ?_⟩
    have hB := h29.bump 15
    refine asAddr_in ⟨_, Sep.ld3 hB rfl, asAddr_in ?_⟩
    have h30 : Sep _ [plA p s, gl 1 s.ga (ints s.As), gl 1 s.gb (ints s.As), mem s.m S', axA s.x s.m g.k g.n g.inn (cpOf g s.cpus), bx i1 (.cells true 0 [I d.todo, I d.o.kind, .int .u64 d.o.key.toNat, .slice va vn 0, I d.o.flag, I d.o.cpu, .int .u64 d.v.toNat]), bx s.ru (.cells true 1 rus), bx s.op (.cells true 5 ops.flatten), bx s.at_ (.cells true 1 (ints ats)), bx s.st (.cells true 1 sts), bx s.ha (.cells true 1 has), bx s.el (.cells true 1 (ints els)), bx s.li (.cells true 5 (flat [⟨g.k, g.n, 1, 0, g.inn⟩, dr, dr])), mxA s.mx g.al s.cpus, alA g.al g.y g.y2 g.y3, yA g.y g.lb g.eb false g.k g.n g.inn qs.length, lA g.lb false qs, bx g.eb (.cells true 1 (wds ws)), drA g.y2 g.t2, drA g.y3 g.t3, old H0] := Sep.pick hB 21 [3, 4, 5, 0, 1, 2, 6, 7, 8, 9, 10, 11, 12, 13, 14, 15, 16, 17, 18, 19, 20] (by decide)
    refine of13_s h30 pr (by omega) fun H38 h38 => ⟨_, rfl, ?_⟩
    rw [if_pos hm]
    have h39 : Sep _ [mxA s.mx g.al s.cpus, alA g.al g.y g.y2 g.y3, yA g.y g.lb g.eb false g.k g.n g.inn qs.length, lA g.lb false qs, bx g.eb (.cells true 1 (wds ws)), plA p s, gl 1 s.ga (ints s.As), gl 1 s.gb (ints s.As), mem s.m S', axA s.x s.m g.k g.n g.inn (cpOf g s.cpus), bx i1 (.cells true 0 [I d.todo, I d.o.kind, .int .u64 d.o.key.toNat, .slice va vn 0, I d.o.flag, I d.o.cpu, .int .u64 d.v.toNat]), bx s.ru (.cells true 1 rus), bx s.op (.cells true 5 ops.flatten), bx s.at_ (.cells true 1 (ints ats)), bx s.st (.cells true 1 sts), bx s.ha (.cells true 1 has), bx s.el (.cells true 1 (ints els)), bx s.li (.cells true 5 (flat [⟨g.k, g.n, 1, 0, g.inn⟩, dr, dr])), drA g.y2 g.t2, drA g.y3 g.t3, old H0] := Sep.pick h38 21 [13, 14, 15, 16, 17, 0, 1, 2, 3, 4, 5, 6, 7, 8, 9, 10, 11, 12, 18, 19, 20] (by decide)
    refine load11_s h39 hl (by omega) hj ⟨_, _, rfl, cond_yes rfl (cond_yes rfl ?_), ⟨⟨_, Sep.ld0 h30 rfl, rfl⟩, ⟨_, Sep.ld0 h38 rfl, rfl⟩, trivial⟩, trivial⟩
    rw [beq_self_eq_true]
    refine hR H38 S' ws (c + 1) (by omega) o' hl (key _ _ _ ?_)
    have h40 : Sep _ [plA p s, gl 1 s.ga (ints s.As), gl 1 s.gb (ints s.As), bx s.ru (.cells true 1 rus), bx s.op (.cells true 5 ops.flatten), bx s.at_ (.cells true 1 (ints ats)), bx s.st (.cells true 1 sts), bx s.ha (.cells true 1 has), bx s.el (.cells true 1 (ints els)), bx s.li (.cells true 5 (flat [⟨g.k, g.n, 1, 0, g.inn⟩, dr, dr])), axA s.x s.m g.k g.n g.inn (cpOf g s.cpus), mem s.m S', mxA s.mx g.al s.cpus, alA g.al g.y g.y2 g.y3, yA g.y g.lb g.eb false g.k g.n g.inn qs.length, lA g.lb false qs, bx g.eb (.cells true 1 (wds ws)), drA g.y2 g.t2, drA g.y3 g.t3, old H0] := Sep.pick h39 21 [5, 6, 7, 11, 12, 13, 14, 15, 16, 17, 9, 8, 0, 1, 2, 3, 4, 18, 19, 20] (by decide)
    exact h40
  · have hC := h21.bump 24
    refine asAddr_in ⟨_, Sep.ld2 hC rfl, _, Sep.ld1 hC rfl, ?_⟩
    have h22 : Sep _ [mem s.m S, axA s.x s.m g.k g.n g.inn (cpOf g s.cpus), bx i1 (.cells true 0 [I d.todo, I d.o.kind, .int .u64 d.o.key.toNat, .slice va vn 0, I d.o.flag, I d.o.cpu, .int .u64 d.v.toNat]), plA p s, gl 1 s.ga (ints s.As), gl 1 s.gb (ints s.As), bx s.ru (.cells true 1 rus), bx s.op (.cells true 5 ops.flatten), bx s.at_ (.cells true 1 (ints ats)), bx s.st (.cells true 1 sts), bx s.ha (.cells true 1 has), bx s.el (.cells true 1 (ints els)), bx s.li (.cells true 5 (flat [⟨g.k, g.n, 1, 0, g.inn⟩, dr, dr])), mxA s.mx g.al s.cpus, alA g.al g.y g.y2 g.y3, yA g.y g.lb g.eb false g.k g.n g.inn qs.length, lA g.lb false qs, bx g.eb (.cells true 1 (wds ws)), drA g.y2 g.t2, drA g.y3 g.t3, old H0] := Sep.pick hC 21 [12, 0, 1, 2, 3, 4, 5, 6, 7, 8, 9, 10, 11, 13, 14, 15, 16, 17, 18, 19, 20] (by decide)
    refine store1_s (v := d.v) h22 o (by omega) (by omega) fun H51 S' o' h51 => ⟨_, rfl, cond_yes rfl (asAddr_in ⟨_, Sep.ld3 h51 rfl, asAddr_in ?_⟩)⟩
    have h30 : Sep _ [plA p s, gl 1 s.ga (ints s.As), gl 1 s.gb (ints s.As), mem s.m S', axA s.x s.m g.k g.n g.inn (cpOf g s.cpus), bx i1 (.cells true 0 [I d.todo, I d.o.kind, .int .u64 d.o.key.toNat, .slice va vn 0, I d.o.flag, I d.o.cpu, .int .u64 d.v.toNat]), bx s.ru (.cells true 1 rus), bx s.op (.cells true 5 ops.flatten), bx s.at_ (.cells true 1 (ints ats)), bx s.st (.cells true 1 sts), bx s.ha (.cells true 1 has), bx s.el (.cells true 1 (ints els)), bx s.li (.cells true 5 (flat [⟨g.k, g.n, 1, 0, g.inn⟩, dr, dr])), mxA s.mx g.al s.cpus, alA g.al g.y g.y2 g.y3, yA g.y g.lb g.eb false g.k g.n g.inn qs.length, lA g.lb false qs, bx g.eb (.cells true 1 (wds ws)), drA g.y2 g.t2, drA g.y3 g.t3, old H0] := Sep.pick h51 21 [3, 4, 5, 0, 1, 2, 6, 7, 8, 9, 10, 11, 12, 13, 14, 15, 16, 17, 18, 19, 20] (by decide)
    refine of13_s h30 pr (by omega) fun H59 h59 => ⟨_, rfl, _, Sep.ld5 h59 rfl, ?_⟩
    rw [if_pos hm]
    have h39 : Sep _ [mxA s.mx g.al s.cpus, alA g.al g.y g.y2 g.y3, yA g.y g.lb g.eb false g.k g.n g.inn qs.length, lA g.lb false qs, bx g.eb (.cells true 1 (wds ws)), plA p s, gl 1 s.ga (ints s.As), gl 1 s.gb (ints s.As), mem s.m S', axA s.x s.m g.k g.n g.inn (cpOf g s.cpus), bx i1 (.cells true 0 [I d.todo, I d.o.kind, .int .u64 d.o.key.toNat, .slice va vn 0, I d.o.flag, I d.o.cpu, .int .u64 d.v.toNat]), bx s.ru (.cells true 1 rus), bx s.op (.cells true 5 ops.flatten), bx s.at_ (.cells true 1 (ints ats)), bx s.st (.cells true 1 sts), bx s.ha (.cells true 1 has), bx s.el (.cells true 1 (ints els)), bx s.li (.cells true 5 (flat [⟨g.k, g.n, 1, 0, g.inn⟩, dr, dr])), drA g.y2 g.t2, drA g.y3 g.t3, old H0] := Sep.pick h59 21 [13, 14, 15, 16, 17, 0, 1, 2, 3, 4, 5, 6, 7, 8, 9, 10, 11, 12, 18, 19, 20] (by decide)
    refine store11_s (v := d.v) h39 hl (by omega) hj fun H63 h63 => ⟨_, rfl, ?_, ⟨⟨_, Sep.ld2 h51 rfl, rfl⟩, ⟨_, Sep.ld5 h59 rfl, rfl⟩, trivial⟩, ⟨⟨_, Sep.ld3 h51 rfl, rfl⟩, ⟨_, Sep.ld0 h59 rfl, rfl⟩, trivial⟩, trivial⟩
    refine hR H63 S' (ws.set j d.v) (c + 1) (by omega) o' (by rw [List.length_set]; exact hl) (key _ _ _ ?_)
    have h40 : Sep _ [plA p s, gl 1 s.ga (ints s.As), gl 1 s.gb (ints s.As), bx s.ru (.cells true 1 rus), bx s.op (.cells true 5 ops.flatten), bx s.at_ (.cells true 1 (ints ats)), bx s.st (.cells true 1 sts), bx s.ha (.cells true 1 has), bx s.el (.cells true 1 (ints els)), bx s.li (.cells true 5 (flat [⟨g.k, g.n, 1, 0, g.inn⟩, dr, dr])), axA s.x s.m g.k g.n g.inn (cpOf g s.cpus), mem s.m S', mxA s.mx g.al s.cpus, alA g.al g.y g.y2 g.y3, yA g.y g.lb g.eb false g.k g.n g.inn qs.length, lA g.lb false qs, bx g.eb (.cells true 1 (wds (ws.set j d.v))), drA g.y2 g.t2, drA g.y3 g.t3, old H0] := Sep.pick h63 21 [5, 6, 7, 11, 12, 13, 14, 15, 16, 17, 9, 8, 0, 1, 2, 3, 4, 18, 19, 20] (by decide)
    exact h40
theorem setAt_all {row vs : List Value} (h : vs.length = row.length) : setAt row 0 vs = vs := by
  have := setAt_app vs [] row [] h.symm
  simpa using this
theorem ats_get {ats : List Int} {a : Nat} {t : Int} (h : ats[a]? = some t) : (ints ats)[0 + a * 1]? = some (I t) := by
  rw [Nat.zero_add, Nat.mul_one, List.getElem?_map, h]; rfl
theorem as_set {ats : List Int} {a : Nat} {w : Int} : setAt (ints ats) (0 + a * 1) [I w] = ints (ats.set a w) := i1_set

theorem aans_elem {nest : Bool} {k n ok flag cpu : Int} {key v : BitVec 64} {z : Nat} (hn : nest = false) (hix : (key.toNat : Int) < n → aidx k n key cpu < z) : (aans nest k n ws ok key v flag cpu).1.elem ≤ (z : Int) := by
  subst hn
  unfold aans
  by_cases h1 : ok = 1
  · rw [if_pos h1]
    by_cases h2 : (key.toNat : Int) < n ∧ ¬ (false = true ∧ ws.getD (aidx k n key cpu) 0 = 0)
    · rw [if_pos h2]
      have := hix h2.1
      show ((aidx k n key cpu : Nat) : Int) + 1 ≤ _
      omega
    · rw [if_neg h2]; exact Int.natCast_nonneg z
  · rw [if_neg h1]
    repeat' split
    all_goals exact Int.natCast_nonneg z

/-- How far an agent has come. -/
def upd (ats : List Int) (a : Nat) (n : Nat) : List Int := if ats.getD a 0 < (n : Int) then ats.set a (ats.getD a 0 + 1) else ats

set_option maxHeartbeats 4000000 in
theorem aturn_s {s : Pl} {g : Cst} {E z ln : Nat} {ll : List (List Deed)} {l : List Deed} {ats : List Int} {la : Option Addr} (w : TS H0 p g E ll H s z ats c) (ha : a < s.n) (o : DeedsL H0 la ln l) (hln : l.length ≤ 12) (hvs : ∀ x ∈ l, x.o.val.length ≤ 8) (hats : ∀ t, ats[a]? = some t → 0 ≤ t) (hc : c < 900000) (hA : s.As.length ≤ 900)
    (hR : ∀ H' s' c', c' ≤ c + 1 → (∃ ga gb As, s' = { s with ga := ga, gb := gb, As := As }) → s'.As.length ≤ s.As.length + 1 → TS H0 p g E ll H' s' z (upd ats a l.length) c' → R (.bool true) H') :
    CA en F.crossbarlaw13_play_turn [P p, I a, .slice la ln 0] H R := by
  apply vc_crossbarlaw13_play_turn
  obtain ⟨ops, sts, has, els, S, qs, ws, o1, hl, hq, h2, h6, h3, h4, h5, he, h⟩ := w.ex
  have hin : inB (a : Int) s.n := ⟨by omega, by omega⟩
  have hla := w.la
  have hlo := o.len
  subst hq
  have hz := w.go.z
  obtain ⟨t, ht⟩ : ∃ t, ats[a]? = some t := ⟨_, List.getElem?_eq_getElem (by omega)⟩
  have hts : ats.getD a 0 = t := by rw [List.getD_eq_getElem?_getD, ht]; rfl
  have ht0 := hats t ht
  obtain ⟨j, rfl⟩ : ∃ j : Nat, t = (j : Int) := ⟨t.toNat, by omega⟩
  have hnone : (List.replicate s.n (Value.pointer none))[0 + a * 1]? = some (.pointer none) := by
    rw [Nat.zero_add, Nat.mul_one, List.getElem?_replicate, if_pos ha]
  refine asAddr_in ⟨_, _, Sep.ld0 h rfl, hin, asRow_in ⟨none, ?_⟩⟩
  rw [Int.toNat_natCast]
  refine ⟨Sep.ld3 h hnone, cond_no rfl (asAddr_in ⟨_, _, Sep.ld0 h rfl, hin, asRow_in ⟨_, Sep.ld5 h (ats_get ht), cond_of (fun zl => ?_) fun zl => ?_⟩⟩)⟩
  · have zl := of_decide_eq_true zl
    have e : upd ats a l.length = ats := by unfold upd; rw [hts, if_neg (by omega)]
    exact hR H s c (by omega) ⟨s.ga, s.gb, s.As, rfl⟩ (by omega) (by rw [e]; exact w)
  have zl : j < l.length := by have := of_decide_eq_false zl; omega
  have eu : upd ats a l.length = ats.set a ((j : Int) + 1) := by unfold upd; rw [hts, if_pos (by omega)]
  rw [eu] at hR
  obtain ⟨x, hx⟩ : ∃ x, l[j]? = some x := ⟨_, List.getElem?_eq_getElem zl⟩
  have hxv := hvs x (List.mem_of_getElem? hx)
  obtain ⟨i, va, vn, rfl, e1, _, hvn, ra⟩ := o.at' h (by simp) hx
  refine asAddr_in ⟨_, _, Sep.ld0 h rfl, hin, asRow_in ⟨_, Sep.ld5 h (ats_get ht), ⟨by omega, by omega⟩, asRow_in ⟨_, _, _, _, _, _, _, _, e1, ?_⟩⟩⟩
  refine Sep.nw h fun i35 H36 h36 => Sep.st0 h36 (Nat.le_of_ble_eq_true rfl) fun H37 h37 => ?_
  have hB := h37.bump 15
  refine asAddr_in ⟨_, _, Sep.ld1 hB rfl, asAddr_in ⟨_, _, Sep.ld1 hB rfl, hin, asRow_in ⟨_, Sep.ld6 hB (ats_get ht), hin, asRow_in (Sep.st6 hB (by simp; omega) fun H51 h51 => ⟨?_, trivial⟩)⟩⟩⟩
  rw [as_set, wrap_i64 (n := (j : Int) + 1) (by omega)] at h51
  have h52 : Sep H51 [bx i35 (.cells true 0 [I x.todo, I x.o.kind, .int .u64 x.o.key.toNat, .slice va vn 0, I x.o.flag, I x.o.cpu, .int .u64 x.v.toNat]), plA p s, gl 1 s.ga (ints s.As), gl 1 s.gb (ints s.As), bx s.ru (.cells true 1 (List.replicate s.n (.pointer none))), bx s.op (.cells true 5 ops.flatten), bx s.at_ (.cells true 1 (ints (ats.set a ((j : Int) + 1)))), bx s.st (.cells true 1 sts), bx s.ha (.cells true 1 has), bx s.el (.cells true 1 (ints els)), bx s.li (.cells true 5 (flat [⟨g.k, g.n, 1, 0, g.inn⟩, dr, dr])), axA s.x s.m g.k g.n g.inn (cpOf g s.cpus), mem s.m S, mxA s.mx g.al s.cpus, alA g.al g.y g.y2 g.y3, yA g.y g.lb g.eb (g.k == 9) g.k g.n g.inn qs.length, lA g.lb (g.k == 9) qs, vA (g.k == 9) g.eb qs ws, drA g.y2 g.t2, drA g.y3 g.t3, old H0] := h51
  clear h51 h37 h36 hB
  have la1 : (ats.set a ((j : Int) + 1)).length = s.n := by rw [List.length_set]; exact hla
  have done : ∀ H' s' ops' sts' has' els' S' qs' ws' c', c' ≤ c + 1 → (∃ ga gb As, s' = { s with ga := ga, gb := gb, As := As }) → s'.As.length ≤ s.As.length + 1 → PrOk s' → One S' ws' c' → ws'.length = qs'.length → qs'.length = qs.length → ops'.length = s.n → (∀ c ∈ ops', c.length = 5) → sts'.length = s.n → has'.length = s.n → els'.length = s.n → (∀ e ∈ els', e = 0 ∨ (e ∈ s'.As ∧ (g.k ≠ 9 → 1 ≤ e ∧ e ≤ (qs.length : Nat)))) → Sep H' (PL H0 p s' g (List.replicate s.n (.pointer none)) ops' (ats.set a ((j : Int) + 1)) sts' has' els' S' qs' ws') → R (.bool true) H' := fun H' s' ops' sts' has' els' S' qs' ws' c' c1 c2 c3 c4 c5 c6 c7 c8 c9 c10 c11 c12 c13 h' => by
    refine hR H' s' c' c1 c2 c3 ?_
    obtain ⟨ga, gb, As, rfl⟩ := c2
    exact ⟨w.go, c4, w.hn, la1, ops', sts', has', els', S', qs', ws', c5, c6, c7, c8, c9, c10, c11, c12, c13, h'⟩
  have dir : x.todo = 1 ∨ x.todo = 2 → CA en F.crossbarlaw13_play_direct [P p, I a, .agg #[I x.todo, I x.o.kind, .int .u64 x.o.key.toNat, .slice va vn 0, I x.o.flag, I x.o.cpu, .int .u64 x.v.toNat]] H51 fun v61 H62 => ∃ b63, v61 = .bool b63 ∧ R (.bool b63) H62 := fun hd => by
    refine direct_s (d := x) (ats := ats.set a ((j : Int) + 1)) h52.tail w.go w.pr o1 hc hA hl ha h5 he hd fun H' S' ws' c' c1 o' hl' h' => ⟨_, rfl, ?_⟩
    exact done H' s ops sts has els S' qs ws' c' c1 ⟨s.ga, s.gb, s.As, rfl⟩ (by omega) w.pr o' hl' rfl h2 h6 h3 h4 h5 he h'
  refine ⟨_, Sep.ld0 h52 rfl, cond_of (fun z1 => ⟨_, _, _, _, _, _, _, _, Sep.lds0 h52 rfl, dir (.inl (by simpa using z1))⟩) fun z1 => ⟨_, Sep.ld0 h52 rfl, cond_of (fun z2 => ⟨_, _, _, _, _, _, _, _, Sep.lds0 h52 rfl, dir (.inr (by simpa using z2))⟩) fun z2 => ?_⟩⟩
  clear dir
  have hC := h52.bump 12
  refine asAddr_in ⟨_, _, Sep.ld1 hC rfl, asAddr_in ⟨_, Sep.ld1 hC rfl, _, _, _, _, _, _, Sep.lds0 hC rfl, ?_⟩⟩
  refine right13_s hC (by simp) w.go.f (ra _ (by simp)) hvn (fun rp H90 h90 => ⟨_, rfl, cond_no rfl ?_, trivial⟩) fun _ H90 h90 => ⟨_, rfl, cond_yes rfl ?_, trivial⟩
  · refine ⟨_, _, _, _, _, _, Sep.lds0 h90 rfl, Sep.nw h90 fun i98 H99 h99 => Sep.st0 h99 (Nat.le_of_ble_eq_true rfl) fun H100 h100 => ⟨_, _, Sep.ld1 h100 rfl, ?_⟩⟩
    refine CopyWords_s h100 (ra _ (by simp)) hvn (by omega) fun H104 q hq h104 => ⟨_, _, rfl, Sep.st1 h104 (Nat.le_of_ble_eq_true rfl) fun H107 h107 => ?_⟩
    have hD := h107.bump 13
    refine asAddr_in ⟨_, _, Sep.ld3 hD rfl, asAddr_in ⟨_, Sep.ld3 hD rfl, _, _, _, _, _, _, Sep.lds1 hD rfl, ?_⟩⟩
    refine abegin_s (val := x.o.val) hD (rdw_gl (q := q) List.mem_cons_self hq) rfl fun H122 r h122 => ⟨_, rfl, hin, asRow_in (Sep.st7 h122 (by simp; omega) fun H126 h126 => ⟨?_, ⟨⟨_, _, Sep.ld3 hD rfl, rfl, rfl, rfl⟩, ⟨_, _, Sep.ld4 h122 rfl, rfl, rfl, rfl⟩, trivial⟩, trivial⟩)⟩
    have eru : setAt (List.replicate s.n (Value.pointer none)) (0 + a * 1) [P r] = (List.replicate s.n (Value.pointer none)).set a (P r) := by rw [setAt1, Nat.zero_add, Nat.mul_one]
    rw [eru] at h126
    have h127 : Sep H126 [rnA r s.x x.o.kind x.o.key x.o.flag x.o.cpu (x.o.val.getD 0 0) (I 0) (.slice none 0 0) (.int .u64 0) (I 0) (.bool false), gl 1 q (wds x.o.val), bx i98 (.cells true 0 [I x.o.kind, .int .u64 x.o.key.toNat, .slice (addr q) x.o.val.length 0, I x.o.flag, I x.o.cpu]), bx i35 (.cells true 0 [I x.todo, I x.o.kind, .int .u64 x.o.key.toNat, .slice va vn 0, I x.o.flag, I x.o.cpu, .int .u64 x.v.toNat]), plA p s, gl 1 s.ga (ints s.As), gl 1 s.gb (ints s.As), bx s.ru (.cells true 1 ((List.replicate s.n (.pointer none)).set a (P r))), bx s.op (.cells true 5 ops.flatten), bx s.at_ (.cells true 1 (ints (ats.set a ((j : Int) + 1)))), bx s.st (.cells true 1 sts), bx s.ha (.cells true 1 has), bx s.el (.cells true 1 (ints els)), bx s.li (.cells true 5 (flat [⟨g.k, g.n, 1, 0, g.inn⟩, dr, dr])), axA s.x s.m g.k g.n g.inn (cpOf g s.cpus), mem s.m S, mxA s.mx g.al s.cpus, alA g.al g.y g.y2 g.y3, yA g.y g.lb g.eb (g.k == 9) g.k g.n g.inn qs.length, lA g.lb (g.k == 9) qs, vA (g.k == 9) g.eb qs ws, drA g.y2 g.t2, drA g.y3 g.t3, old H0] := h126
    refine ⟨_, _, Sep.ld2 h127 rfl, ?_⟩
    have h128 : Sep _ [gl 1 q (wds x.o.val), rnA r s.x x.o.kind x.o.key x.o.flag x.o.cpu (x.o.val.getD 0 0) (I 0) (.slice none 0 0) (.int .u64 0) (I 0) (.bool false), bx i98 (.cells true 0 [I x.o.kind, .int .u64 x.o.key.toNat, .slice (addr q) x.o.val.length 0, I x.o.flag, I x.o.cpu]), bx i35 (.cells true 0 [I x.todo, I x.o.kind, .int .u64 x.o.key.toNat, .slice va vn 0, I x.o.flag, I x.o.cpu, .int .u64 x.v.toNat]), plA p s, gl 1 s.ga (ints s.As), gl 1 s.gb (ints s.As), bx s.ru (.cells true 1 ((List.replicate s.n (.pointer none)).set a (P r))), bx s.op (.cells true 5 ops.flatten), bx s.at_ (.cells true 1 (ints (ats.set a ((j : Int) + 1)))), bx s.st (.cells true 1 sts), bx s.ha (.cells true 1 has), bx s.el (.cells true 1 (ints els)), bx s.li (.cells true 5 (flat [⟨g.k, g.n, 1, 0, g.inn⟩, dr, dr])), axA s.x s.m g.k g.n g.inn (cpOf g s.cpus), mem s.m S, mxA s.mx g.al s.cpus, alA g.al g.y g.y2 g.y3, yA g.y g.lb g.eb (g.k == 9) g.k g.n g.inn qs.length, lA g.lb (g.k == 9) qs, vA (g.k == 9) g.eb qs ws, drA g.y2 g.t2, drA g.y3 g.t3, old H0] := Sep.pick h127 24 [1, 0, 2, 3, 4, 5, 6, 7, 8, 9, 10, 11, 12, 13, 14, 15, 16, 17, 18, 19, 20, 21, 22, 23] (by decide)
    refine SpoilWords_s (q := q) rfl (by omega) hq h128 fun H134 h134 => ⟨rfl, ?_⟩
    have hE := h134.bump 9
    obtain ⟨row0, hrow0⟩ : ∃ r0, ops[a]? = some r0 := ⟨_, List.getElem?_eq_getElem (by omega)⟩
    have hr5 : row0.length = 5 := h6 row0 (List.mem_of_getElem? hrow0)
    have hF : Sep (H134.bump 9) [rnA r s.x x.o.kind x.o.key x.o.flag x.o.cpu (x.o.val.getD 0 0) (I 0) (.slice none 0 0) (.int .u64 0) (I 0) (.bool false), bx i98 (.cells true 0 [I x.o.kind, .int .u64 x.o.key.toNat, .slice (addr q) x.o.val.length 0, I x.o.flag, I x.o.cpu]), bx i35 (.cells true 0 [I x.todo, I x.o.kind, .int .u64 x.o.key.toNat, .slice va vn 0, I x.o.flag, I x.o.cpu, .int .u64 x.v.toNat]), plA p s, gl 1 s.ga (ints s.As), gl 1 s.gb (ints s.As), bx s.ru (.cells true 1 ((List.replicate s.n (.pointer none)).set a (P r))), bx s.op (.cells true 5 (ops.set a row0).flatten), bx s.at_ (.cells true 1 (ints (ats.set a ((j : Int) + 1)))), bx s.st (.cells true 1 sts), bx s.ha (.cells true 1 has), bx s.el (.cells true 1 (ints els)), bx s.li (.cells true 5 (flat [⟨g.k, g.n, 1, 0, g.inn⟩, dr, dr])), axA s.x s.m g.k g.n g.inn (cpOf g s.cpus), mem s.m S, mxA s.mx g.al s.cpus, alA g.al g.y g.y2 g.y3, yA g.y g.lb g.eb (g.k == 9) g.k g.n g.inn qs.length, lA g.lb (g.k == 9) qs, vA (g.k == 9) g.eb qs ws, drA g.y2 g.t2, drA g.y3 g.t3, old H0] := by
      rw [set_same hrow0]; exact hE
    refine asAddr_in ⟨_, _, Sep.ld3 hE rfl, _, _, _, _, _, _, Sep.lds2 hE rfl, hin, asRow_in (rowst0 hF 7 rfl h6 hr5 (by omega) (by show 5 ≤ 5; omega) fun H147 h147 => ⟨?_, trivial⟩)⟩
    rw [setAt_all (by rw [hr5]; rfl)] at h147
    refine asAddr_in ⟨_, _, Sep.ld3 h147 rfl, hin, asRow_in (Sep.st9 h147 (by simp; omega) fun H154 h154 => asAddr_in ⟨_, _, Sep.ld3 h154 rfl, hin, asRow_in (Sep.st10 h154 (by simp; omega) fun H161 h161 => ?_)⟩)⟩
    have est : setAt sts (0 + a * 1) [I 0] = sts.set a (I 0) := by rw [setAt1, Nat.zero_add, Nat.mul_one]
    have eha : setAt has (0 + a * 1) [.bool false] = has.set a (.bool false) := by rw [setAt1, Nat.zero_add, Nat.mul_one]
    rw [est, eha] at h161
    have h162 : Sep H161 [rnA r s.x x.o.kind x.o.key x.o.flag x.o.cpu (x.o.val.getD 0 0) (I 0) (.slice none 0 0) (.int .u64 0) (I 0) (.bool false), bx i98 (.cells true 0 [I x.o.kind, .int .u64 x.o.key.toNat, .slice (addr q) x.o.val.length 0, I x.o.flag, I x.o.cpu]), bx i35 (.cells true 0 [I x.todo, I x.o.kind, .int .u64 x.o.key.toNat, .slice va vn 0, I x.o.flag, I x.o.cpu, .int .u64 x.v.toNat]), plA p s, gl 1 s.ga (ints s.As), gl 1 s.gb (ints s.As), bx s.ru (.cells true 1 ((List.replicate s.n (.pointer none)).set a (P r))), bx s.op (.cells true 5 (ops.set a [I x.o.kind, .int .u64 x.o.key.toNat, .slice va vn 0, I x.o.flag, I x.o.cpu]).flatten), bx s.at_ (.cells true 1 (ints (ats.set a ((j : Int) + 1)))), bx s.st (.cells true 1 (sts.set a (I 0))), bx s.ha (.cells true 1 (has.set a (.bool false))), bx s.el (.cells true 1 (ints els)), bx s.li (.cells true 5 (flat [⟨g.k, g.n, 1, 0, g.inn⟩, dr, dr])), axA s.x s.m g.k g.n g.inn (cpOf g s.cpus), mem s.m S, mxA s.mx g.al s.cpus, alA g.al g.y g.y2 g.y3, yA g.y g.lb g.eb (g.k == 9) g.k g.n g.inn qs.length, lA g.lb (g.k == 9) qs, vA (g.k == 9) g.eb qs ws, drA g.y2 g.t2, drA g.y3 g.t3, old H0] := h161
    refine asAddr_in ⟨_, _, Sep.ld3 h162 rfl, hin, asRow_in ⟨some ⟨r, 0, none⟩, Sep.ld6 h162 (c1_get (by simp; omega)), cond_yes rfl ?_⟩⟩
    have h163 : Sep _ [rnA r s.x x.o.kind x.o.key x.o.flag x.o.cpu (x.o.val.getD 0 0) (I 0) (.slice none 0 0) (.int .u64 0) (I 0) (.bool false), plA p s, gl 1 s.ga (ints s.As), gl 1 s.gb (ints s.As), bx s.ru (.cells true 1 ((List.replicate s.n (.pointer none)).set a (P r))), bx s.op (.cells true 5 (ops.set a [I x.o.kind, .int .u64 x.o.key.toNat, .slice va vn 0, I x.o.flag, I x.o.cpu]).flatten), bx s.at_ (.cells true 1 (ints (ats.set a ((j : Int) + 1)))), bx s.st (.cells true 1 (sts.set a (I 0))), bx s.ha (.cells true 1 (has.set a (.bool false))), bx s.el (.cells true 1 (ints els)), bx s.li (.cells true 5 (flat [⟨g.k, g.n, 1, 0, g.inn⟩, dr, dr])), axA s.x s.m g.k g.n g.inn (cpOf g s.cpus), mem s.m S, mxA s.mx g.al s.cpus, alA g.al g.y g.y2 g.y3, yA g.y g.lb g.eb (g.k == 9) g.k g.n g.inn qs.length, lA g.lb (g.k == 9) qs, vA (g.k == 9) g.eb qs ws, drA g.y2 g.t2, drA g.y3 g.t3, old H0] := Sep.pick h162 23 [0, 3, 4, 5, 6, 7, 8, 9, 10, 11, 12, 13, 14, 15, 16, 17, 18, 19, 20, 21, 22] (by decide)
    refine pstep_s (val := x.o.val) h163 w.go w.pr o1 hc hA hl ha (by simp) h2 h3 h4 h5 h6 rp ra hvn fun H' s' els' S' qs' c' c1 o' hq' af h' => ⟨_, rfl, ?_⟩
    have erep : (List.replicate s.n (Value.pointer none)).set a (.pointer none) = List.replicate s.n (.pointer none) := set_same (by rw [List.getElem?_replicate, if_pos ha])
    rw [erep] at h'
    refine done H' s' _ _ _ els' S' qs' _ c' c1 af.hs af.len af.pr o' (by rw [hq', ← hl]; exact aans_len) hq' (by rw [List.length_set]; exact h2) (set_rows h6 rfl) (by rw [List.length_set]; exact h3) (by rw [List.length_set]; exact h4) ?_ ?_ h'
    · rw [af.hels]; split
      · rw [List.length_set]; exact h5
      · exact h5
    · have hew : ∀ e ∈ els, e = 0 ∨ (e ∈ s'.As ∧ (g.k ≠ 9 → 1 ≤ e ∧ e ≤ (qs.length : Nat))) := fun e hm => by
        rcases he e hm with h0 | ⟨h0, h1⟩
        · exact .inl h0
        · exact .inr ⟨af.sub e h0, h1⟩
      rw [af.hels]
      split
      · rename_i hpos
        intro e hm
        rcases List.mem_or_eq_of_mem_set hm with hm | rfl
        · exact hew e hm
        · refine .inr ⟨af.new (by omega), fun k9 => ?_⟩
          have hnest : (g.k == 9) = false := by rw [beq_eq_false_iff_ne]; exact k9
          exact ⟨by omega, aans_elem hnest fun e => idx_ok w.go.m w.go.n e rp.hcpu⟩
      · exact hew
  · exact done H90 s ops sts has els S qs ws c (by omega) ⟨s.ga, s.gb, s.As, rfl⟩ (by omega) w.pr o1 hl rfl h2 h6 h3 h4 h5 he h90.tail
end Go.Proofs.Ythnifkjpkepbaaa

/-
  A play of agents with an array: how it begins.
-/
namespace Go.Proofs.Ythnifkjpkepbaaa
open Go Go.AS Go.RowKit
set_option linter.unusedVariables false
variable {H H' H0 : Heap} {R : Value → Heap → Prop} {L M : List Asr} {ws val : List (BitVec 64)} {qs : List Nat} {c : Int} {p a : Nat}

end Go.Proofs.Ythnifkjpkepbaaa
namespace Go.AS
open Go Go.Proofs.Ythnifkjpkepbaaa Go.RowKit
set_option linter.unusedVariables false
variable {H H' H0 : Heap} {R : Value → Heap → Prop} {L M : List Asr} {ws val : List (BitVec 64)} {qs : List Nat} {c : Int} {p a : Nat}
theorem Sep.ahead (h : Sep H L) {n k : Nat} (hk : k < n) (o : AS.Obj) : Sep ((H.bump n).set (H.next + k) o) (bx (H.next + k) o :: L) := by
  have h0 : Sep H ((⟨[], fun _ => True, fun _ _ => trivial⟩ : Asr) :: L) := ⟨fun A hA => by
      rcases List.mem_cons.1 hA with rfl | hA
      · trivial
      · exact h.all A hA, by rw [feet_cons]; exact h.nd, fun i hi => h.lt i (by rw [feet_cons] at hi; exact hi)⟩
  refine h0.upd (B := bx (H.next + k) o) (S := [H.next + k]) (((Frm.refl _ _).bump n).set _ (by simp)) (by simp) (get_set_self _ _ _) (by simp [bx]) (by simp [bx]) ?_
  intro j hj
  simp only [bx, List.mem_singleton] at hj
  subst hj
  show H.next + k < H.next + n
  omega
end Go.AS
namespace Go.Proofs.Ythnifkjpkepbaaa
open Go Go.AS Go.RowKit
set_option linter.unusedVariables false
variable {H H' H0 : Heap} {R : Value → Heap → Prop} {L M : List Asr} {ws val : List (BitVec 64)} {qs : List Nat} {c : Int} {p a : Nat}
theorem same_i (n : Int) : sameN 8 (.int .i64 n) (.int .i64 n) = true := by simp [sameN]

set_option maxHeartbeats 1000000 in
theorem decls_s {w e : Int} (h : Sep H L) (hR : ∀ H' li k n inn E, (∀ cpus, 1 ≤ cpus ∧ cpus ≤ 4 → FirstOk ⟨k, n, 1, 0, inn⟩ E cpus) → Sep H' (bx li (.cells true 5 (flat [⟨k, n, 1, 0, inn⟩, dr, dr])) :: L) → R (sl li 3) H') :
    CA en F.crossbarlaw13_Decls [I w, I e] H R := by
  apply vc_crossbarlaw13_Decls
  have q1 := Int.emod_nonneg w (b := 3) (by omega)
  have q2 := Int.emod_lt_of_pos w (b := 3) (by omega)
  have q3 := Int.emod_nonneg e (b := 64) (by omega)
  have q4 := Int.emod_lt_of_pos e (b := 64) (by omega)
  have h1 := h.ahead (n := 11) (k := 0) (by decide) (.cells true 1 [I 1, I 2, I 9])
  have h2 := h.fore2 (n := 11) (a := 0) (b := 9) (.cells true 1 [I 1, I 2, I 9]) (.cells true 0 [I 0, I 0, I 0, I 0, I 0]) (by decide) (by decide) (by decide)
  obtain ⟨E, hE⟩ : ∃ E : Nat, 1 + e % 64 = (E : Int) := ⟨(1 + e % 64).toNat, by omega⟩
  have hw : IntKind.i64.wrap (1 + e % 64) = (E : Int) := by rw [hE, wrap_i64 (by omega)]
  obtain ⟨k, hk, hk3, hc1, hc2⟩ : ∃ k : Int, (k = 1 ∨ k = 2 ∨ k = 9) ∧ inB (w % 3) 3 ∧ ((H.bump 11).set (H.next + 0) (.cells true 1 [I 1, I 2, I 9])).cell (H.next + 0) (0 + ((w % 3).toNat * 1)) = some (I k) ∧ (((H.bump 11).set (H.next + 0) (.cells true 1 [I 1, I 2, I 9])).set (H.next + 9) (.cells true 0 [I 0, I 0, I 0, I 0, I 0])).cell (H.next + 0) (0 + ((w % 3).toNat * 1)) = some (I k) := by
    have h3 : w % 3 = 0 ∨ w % 3 = 1 ∨ w % 3 = 2 := by omega
    rcases h3 with e | e | e <;> rw [e]
    · exact ⟨1, .inl rfl, ⟨by decide, by decide⟩, Sep.ld0 h1 rfl, Sep.ld1 h2 rfl⟩
    · exact ⟨2, .inr (.inl rfl), ⟨by decide, by decide⟩, Sep.ld0 h1 rfl, Sep.ld1 h2 rfl⟩
    · exact ⟨9, .inr (.inr rfl), ⟨by decide, by decide⟩, Sep.ld0 h1 rfl, Sep.ld1 h2 rfl⟩
  refine Pick_ok (by decide) (by decide) ⟨_, rfl, hk3, _, hc1, Pick_ok (by decide) (by decide) ⟨_, rfl, ?_⟩⟩
  rw [hw]
  refine Sep.st0 h2 (Nat.le_of_ble_eq_true rfl) fun H8 _ => ?_
  refine Pick_ok (by decide) (by decide) ⟨_, rfl, hk3, _, hc2, Pick_ok (by decide) (by decide) ⟨_, rfl, ?_⟩⟩
  rw [hw]
  refine Sep.st0 h2 (Nat.le_of_ble_eq_true rfl) fun H16 h16 => ⟨?_, ⟨⟨_, Sep.get0 h2, rfl⟩, ⟨_, Sep.get0 h2, rfl⟩, ⟨_, Sep.get0 h2, rfl⟩, trivial⟩, ⟨⟨_, hc2, rfl⟩, ⟨_, hc2, rfl⟩, trivial⟩, ⟨⟨_, Sep.get1 h2, rfl⟩, ⟨_, Sep.get1 h2, rfl⟩, ⟨_, Sep.get1 h2, rfl⟩, trivial⟩, trivial⟩
  refine ⟨_, Sep.ld0 h16 rfl, cond_of (fun z => ?_) fun z => ?_⟩
  · have z : k = 9 := by simpa using z
    subst z
    refine Sep.st0 h16 (Nat.le_of_ble_eq_true rfl) fun H26 h26 => Sep.nw h26 fun i27 H28 h28 => Sep.st0 h28 (Nat.le_of_ble_eq_true rfl) fun H29 h29 => ⟨_, _, _, _, _, Sep.lds1 h29 rfl, _, _, _, _, _, Sep.lds0 h29 rfl, _, _, _, _, _, Sep.lds0 h29 rfl, Sep.nw h29 fun i45 H46 h46 => ?_⟩
    exact hR H46 i45 9 E 2 E (fun cpus hc => ⟨.inr (.inr rfl), rfl, by omega, rfl, rfl, rfl, hc⟩) (Sep.pick h46 4 [0] (by decide))
  · have z : ¬ k = 9 := by simpa using z
    refine Sep.nw h16 fun i27 H28 h28 => Sep.st0 h28 (Nat.le_of_ble_eq_true rfl) fun H29 h29 => ⟨_, _, _, _, _, Sep.lds1 h29 rfl, _, _, _, _, _, Sep.lds0 h29 rfl, _, _, _, _, _, Sep.lds0 h29 rfl, Sep.nw h29 fun i45 H46 h46 => ?_⟩
    exact hR H46 i45 k E 0 E (fun cpus hc => ⟨hk, rfl, by omega, rfl, rfl, by show (0 : Int) = if k = 9 then 2 else 0; rw [if_neg z], hc⟩) (Sep.pick h46 4 [0] (by decide))

set_option maxHeartbeats 4000000 in
theorem begun_s {w e cp : Int} {la ta : Option Addr} {n tn : Nat} {ll : List (List Deed)} (h : Sep H [old H0]) (hn : 1 ≤ n ∧ n ≤ 4) (hl : n = ll.length)
    (hR : ∀ H' p s g E z, s.As = [] → TS H0 p g E ll H' s z (List.replicate s.n 0) 0 → R (P p) H') : CA en F.crossbarlaw13_begun [.agg #[I w, I e, I cp, .slice la n 0, .slice ta tn 0]] H R := by
  apply vc_crossbarlaw13_begun
  refine Sep.nw h fun i1 H2 h2 => ?_
  have hB := h2.bump 13
  refine ⟨_, Sep.ld0 hB rfl, _, Sep.ld0 hB rfl, decls_s hB fun H6 li k nn inn E hf h6 => ⟨_, _, rfl, _, Sep.ld1 h6 rfl, Pick_ok (by decide) (by decide) ⟨_, rfl, ?_⟩⟩⟩
  have q1 := Int.emod_nonneg cp (b := 4) (by omega)
  have q2 := Int.emod_lt_of_pos cp (b := 4) (by omega)
  obtain ⟨cpus, hcp⟩ : ∃ cpus : Int, 1 + cp % 4 = cpus := ⟨_, rfl⟩
  have hc : 1 ≤ cpus ∧ cpus ≤ 4 := by omega
  rw [hcp, wrap_i64 (by omega)]
  have f := hf cpus hc
  have fk : k = 1 ∨ k = 2 ∨ k = 9 := f.kind
  have fe : nn = (E : Int) := f.ents
  have fn := f.n
  refine new_s h6 fun H14 m mp h14 => ⟨_, rfl, Sep.nw h14 fun i16 H17 h17 => ⟨⟨_, Sep.ld0 h17 rfl, cond_no rfl ?_⟩, ⟨rfl, rfl, trivial⟩, ⟨⟨_, Sep.ld0 hB rfl, rfl⟩, ⟨_, Sep.ld1 h6 rfl, rfl⟩, trivial⟩, trivial⟩⟩
  have hC := h17.bump 20
  refine ⟨_, Sep.ld0 hC rfl, _, _, Sep.ld0 hC rfl, ⟨by decide, by decide⟩, asRow_in ⟨_, _, _, _, _, Sep.lds2 hC rfl, _, Sep.ld0 hC rfl, ?_⟩⟩
  -- p mem li i1 old
  refine anew_s (k := k) (n := nn) (inn := inn) (Sep.up1 hC) fk (by omega) hc fun H33 x S o h33 => ⟨_, _, rfl, ?_, trivial⟩
  -- ax mem p li i1 old
  have hD := h33.bump 14
  refine ⟨_, _, Sep.ld2 hD rfl, _, Sep.ld2 hD rfl, ?_⟩
  refine new11_s hD (by simp) f fun H40 nest mx al y y2 y3 lb eb qs t2 t3 md h40 => ⟨_, _, rfl, ?_, trivial⟩
  have md : MdOk ⟨k, nn, 1, 0, inn⟩ cpus nest qs.length := md
  obtain rfl := md_nest md
  -- mx al y l v d2 d3 ax mem p li i1 old
  refine cond_no rfl (cond_no rfl (cond_no rfl (Sep.st9 h40 (Nat.le_of_ble_eq_true rfl) fun H43 h43 => Sep.st9 h43 (Nat.le_of_ble_eq_true rfl) fun H44 h44 => ⟨_, _, Sep.ld11 h44 rfl, ⟨by omega, Int.le_refl _, by omega⟩, ?_⟩)))
  rw [Int.toNat_natCast]
  refine Sep.nw h44 fun i47 H48 h48 => Sep.st10 h48 (Nat.le_of_ble_eq_true rfl) fun H49 h49 => ⟨⟨by omega, Int.le_refl _, by omega⟩, Sep.nw h49 fun i50 H51 h51 => Sep.st11 h51 (Nat.le_of_ble_eq_true rfl) fun H52 h52 => ⟨⟨by omega, Int.le_refl _, by omega⟩, Sep.nw h52 fun i53 H54 h54 => Sep.st12 h54 (Nat.le_of_ble_eq_true rfl) fun H55 h55 => ⟨⟨by omega, Int.le_refl _, by omega⟩, Sep.nw h55 fun i56 H57 h57 => Sep.st13 h57 (Nat.le_of_ble_eq_true rfl) fun H58 h58 => ⟨⟨by omega, Int.le_refl _, by omega⟩, Sep.nw h58 fun i59 H60 h60 => Sep.st14 h60 (Nat.le_of_ble_eq_true rfl) fun H61 h61 => ⟨⟨by omega, Int.le_refl _, by omega⟩, ?_⟩⟩⟩⟩⟩
  refine Sep.nw h61 fun i62 H63 h63 => Sep.st h63 15 rfl (Nat.le_of_ble_eq_true rfl) fun H64 h64 => ?_
  -- el ha st at op ru mx al y l v d2 d3 ax mem p li i1 old
  have e1 : reps n [Value.pointer none] = List.replicate n (.pointer none) := reps_one n _
  have e2 : reps n [I 0, .int .u64 0, .slice none 0 0, I 0, I 0] = (List.replicate n [I 0, .int .u64 0, .slice none 0 0, I 0, I 0]).flatten := reps_flat n _
  have e3 : reps n [I 0] = ints (List.replicate n 0) := by
    rw [reps_one]
    show _ = (List.replicate n (0 : Int)).map fun v => I v
    rw [List.map_replicate]
  have e4 : reps n [Value.bool false] = List.replicate n (.bool false) := reps_one n _
  have ez : (nn * if k = 2 then cpus else 1).toNat = qs.length := by
    rcases md with ⟨_, hh, e⟩ | ⟨_, hh, e⟩ | ⟨_, hh, e⟩
    · have hh : k = 9 := hh
      have e : (qs.length : Int) = nn := e
      rw [if_neg (by omega)]; omega
    · have hh : k = 1 := hh
      have e : (qs.length : Int) = nn := e
      rw [if_neg (by omega)]; omega
    · have hh : k = 2 := hh
      have e : (qs.length : Int) = nn * cpus := e
      rw [if_pos hh]; omega
  rw [ez] at o
  have h65 : Sep H64 (PL H0 i16 ⟨li, cpus, m, x, mx, none, none, [], n, i47, i50, i53, i56, i59, i62⟩ ⟨k, nn, inn, al, y, y2, y3, lb, eb, t2, t3⟩ (List.replicate n (.pointer none)) (List.replicate n [I 0, .int .u64 0, .slice none 0 0, I 0, I 0]) (List.replicate n 0) (ints (List.replicate n 0)) (List.replicate n (.bool false)) (List.replicate n 0) S qs (List.replicate qs.length 0)) := by
    rw [e1, e2, e3, e4] at h64
    have h66 := gl_none (es := 1) (cs := ints []) |>.2 (gl_none (es := 1) (cs := ints []) |>.2 h64)
    exact Sep.pick h66 21 [17, 0, 1, 7, 6, 5, 4, 3, 2, 18, 15, 16, 8, 9, 10, 11, 12, 13, 14, 20] (by decide)
  refine hR H64 i16 ⟨li, cpus, m, x, mx, none, none, [], n, i47, i50, i53, i56, i59, i62⟩ ⟨k, nn, inn, al, y, y2, y3, lb, eb, t2, t3⟩ E qs.length rfl ⟨⟨f, md⟩, ⟨fun _ => rfl, fun _ => rfl⟩, hl, by simp, _, _, _, _, S, qs, _, o, by simp, rfl, by simp, fun c hc => ?_, by simp, by simp, by simp, fun e hm => ?_, h65⟩
  · obtain ⟨_, rfl⟩ := List.mem_replicate.1 hc; rfl
  · obtain ⟨_, rfl⟩ := List.mem_replicate.1 hm; exact .inl rfl
end Go.Proofs.Ythnifkjpkepbaaa

