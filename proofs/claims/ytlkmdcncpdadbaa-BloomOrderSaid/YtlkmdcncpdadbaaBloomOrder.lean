/-
  'crossbarlaw18.BloomOrder' returns true: the order of pushes makes no difference.
-/
import Derived.Test.YtlkmdcncpdadbaaBloomFinds
namespace Go.Proofs.Ytlkmdcncpdadbaa
open Go Go.AS Go.RowKit
set_option linter.unusedVariables false
variable {H H' : Heap} {m : Nat} {S S' : Sm} {R : Value → Heap → Prop} {L : List Asr} {ws : List (BitVec 64)} {c : Int}

/-- The words hold the bits of what was pushed. -/
structure Holds (ws : List (BitVec 64)) (N : Nat) (P : BitVec 64 → Prop) : Prop where
  len : ws.length = N
  bit : ∀ j i, j < N → i < 64 → ((ws.getD j 0).getLsbD i = true ↔ ∃ v, P v ∧ (bkt v N).toNat = j ∧ (bitsOf v).getLsbD i = true)

theorem Holds.zero {N : Nat} : Holds (List.replicate N 0) N fun _ => False := by
  refine ⟨by simp, fun j i hj hi => ?_⟩
  rw [List.getD_eq_getElem?_getD, List.getElem?_replicate, if_pos hj]
  simp

theorem Holds.push {N : Nat} {P : BitVec 64 → Prop} (h : Holds ws N P) (h1 : 1 ≤ N) (k : BitVec 64) : Holds (push ws k) N fun v => P v ∨ v = k := by
  have hl := h.len
  subst hl
  refine ⟨push_len .., fun j i hj hi => ?_⟩
  rw [push_at ws k h1]
  have hb := h.bit j i hj hi
  constructor
  · intro hx
    split at hx
    · rename_i e
      rw [BitVec.getLsbD_or, Bool.or_eq_true] at hx
      rcases hx with hx | hx
      · obtain ⟨v, hv, r⟩ := hb.1 hx
        exact ⟨v, .inl hv, r⟩
      · exact ⟨k, .inr rfl, e.symm, hx⟩
    · obtain ⟨v, hv, r⟩ := hb.1 hx
      exact ⟨v, .inl hv, r⟩
  · rintro ⟨v, hv | rfl, e, hx⟩
    · have := hb.2 ⟨v, hv, e, hx⟩
      split
      · rw [BitVec.getLsbD_or, this]; rfl
      · exact this
    · rw [if_pos e.symm, BitVec.getLsbD_or, hx, Bool.or_true]

theorem Holds.weak {N : Nat} {P Q : BitVec 64 → Prop} (h : Holds ws N P) (hPQ : ∀ v, P v ↔ Q v) : Holds ws N Q :=
  ⟨h.len, fun j i hj hi => (h.bit j i hj hi).trans ⟨fun ⟨v, hv, r⟩ => ⟨v, (hPQ v).1 hv, r⟩, fun ⟨v, hv, r⟩ => ⟨v, (hPQ v).2 hv, r⟩⟩⟩

/-- What is found depends on what was pushed alone. -/
theorem Holds.has {N : Nat} {P : BitVec 64 → Prop} {ws' : List (BitVec 64)} (h : Holds ws N P) (h' : Holds ws' N P) (h1 : 1 ≤ N) (k : BitVec 64) : Go.Proofs.Ytlkmdcncpdadbaa.has ws k = Go.Proofs.Ytlkmdcncpdadbaa.has ws' k := by
  rw [Bool.eq_iff_iff, has_iff, has_iff, h.len, h'.len]
  have hb := bkt_nat (k := k) h1
  constructor
  · intro hx i hi hv
    exact (h'.bit _ i hb hi).2 ((h.bit _ i hb hi).1 (hx i hi hv))
  · intro hx i hi hv
    exact (h.bit _ i hb hi).2 ((h'.bit _ i hb hi).1 (hx i hi hv))

theorem BloomOrder_ok {x0 : Int} {a1 a2 : Option Addr} {n1 n2 : Nat} {l q : List (BitVec 64)} {M1 M2 M : List Asr} (hx : 0 ≤ x0) (ha1 : Arg a1 n1 (l.map fun v => [W v]) M1) (ha2 : Arg a2 n2 (q.map fun v => [W v]) M2) (hM1 : ∀ A ∈ M1, A ∈ M) (hM2 : ∀ A ∈ M2, A ∈ M) (h : Sep H M) :
    CA en F.crossbarlaw18_BloomOrder [.int .u8 x0, .slice a1 n1 0, .slice a2 n2 0] H fun r _ => r = .bool true := by
  obtain rfl : n1 = l.length := by rw [ha1.len, List.length_map]
  obtain rfl : n2 = q.length := by rw [ha2.len, List.length_map]
  apply vc_crossbarlaw18_BloomOrder
  refine cond_of (fun hl => CA_truth (by kernel_rfl) ⟨_, rfl, rfl⟩) fun hl => cond_of (fun hl2 => CA_truth (by kernel_rfl) ⟨_, rfl, rfl⟩) fun hl2 => ?_
  simp only [decide_eq_false_iff_not] at hl hl2
  have hp := pow_of hx
  have hz : nz 6 := by unfold nz; decide
  have hn0 : nn (Int.tmod x0 6) := by unfold nn; rw [Int.tmod_eq_emod_of_nonneg hx]; omega
  generalize hn : IntKind.i64.wrap (1 * 2 ^ (min (Int.tmod x0 6).toNat 64)) = n at *
  have hnb := pow_bd hp
  refine ⟨hz, hn0, ?_⟩
  obtain ⟨N, rfl⟩ : ∃ N : Nat, n = N := ⟨n.toNat, by omega⟩
  refine bmade_s h hp fun H8 m x S1 o1 h8 => ⟨_, _, rfl, hz, hn0, ?_⟩
  refine bmade_s h8 hp fun H12 n y S2 o2 h12 => ⟨_, _, rfl, cond_no rfl (cond_no rfl (cond_no rfl (cond_no rfl ?_)))⟩
  rw [Int.toNat_natCast] at o1 o2
  have N1 : 1 ≤ N ∧ N ≤ 32 := by omega
  have mM : ∀ {A1 A2 A3 A4 : Asr}, ∀ A ∈ M, A ∈ A1 :: A2 :: A3 :: A4 :: M := fun A hA => by simp [hA]
  refine use_crossbarlaw18_BloomOrder_0 (fun k _ t11 H => ∃ (j : Nat) (ws1 ws2 : List (BitVec 64)) (S1 S2 : Sm), j ≤ l.length ∧ k = l.length - j ∧ t11 = (j : Int) ∧
    Holds ws1 N (fun v => ∃ i, i < j ∧ l[i]? = some v) ∧ Holds ws2 N (fun v => ∃ i, l.length - j ≤ i ∧ l[i]? = some v) ∧ One S1 ws1 j ∧ One S2 ws2 j ∧
    Sep H (bm m x ⟨8, 1, 1, N, 0⟩ 1 :: mem m S1 :: bm n y ⟨8, 1, 1, N, 0⟩ 1 :: mem n S2 :: M))
    l.length ⟨0, _, _, S1, S2, by omega, rfl, rfl, Holds.zero.weak fun v => ⟨fun h => h.elim, fun ⟨i, h, _⟩ => by omega⟩, Holds.zero.weak fun v => ⟨fun h => h.elim, fun ⟨i, h, h2⟩ => by rw [List.getElem?_eq_none (by omega)] at h2; cases h2⟩, o1, o2, Sep.up3 (Sep.up3 h12)⟩ ?_
  clear h8 h12 o1 o2 S1 S2
  rintro k0 t6 t11 ys H1 ⟨j, ws1, ws2, S1, S2, hj, rfl, rfl, w1, w2, o1, o2, hs⟩
  have hj1 : IntKind.i64.wrap ((j : Int) + 1) = ((j + 1 : Nat) : Int) := by rw [wrap_i64 (by omega)]; omega
  rw [hj1]
  refine cond_of (fun h1 => ?_) fun h1 => ?_
  · simp only [decide_eq_true_eq] at h1
    have hj' : j < l.length := by omega
    obtain ⟨v, hv⟩ : ∃ v, l[j]? = some v := ⟨_, List.getElem?_eq_getElem hj'⟩
    have hjr : l.length - 1 - j < l.length := by omega
    obtain ⟨u, hu⟩ : ∃ u, l[l.length - 1 - j]? = some u := ⟨_, List.getElem?_eq_getElem hjr⟩
    have er : IntKind.i64.wrap (IntKind.i64.wrap ((l.length : Int) - 1) - (j : Int)) = ((l.length - 1 - j : Nat) : Int) := by rw [wrap_i64 (n := (l.length : Int) - 1) (by omega), wrap_i64 (by omega)]; omega
    rw [er]
    refine ⟨by unfold inB; omega, ha1.word hs (fun A hA => mM A (hM1 A hA)) hj' fun i hi => ⟨_, hi v hv, ?_⟩⟩
    refine once_s hs o1 (by omega) (by rw [w1.len]) (by rw [w1.len]; exact N1) fun H5 S5 o5 h5 => ⟨_, _, rfl, ?_⟩
    refine ⟨by unfold inB; omega, ha1.word h5 (fun A hA => mM A (hM1 A hA)) hjr fun i hi => ⟨_, hi u hu, ?_⟩⟩
    refine once_s (Sep.up3 (Sep.up3 h5)) o2 (by omega) (by rw [w2.len]) (by rw [w2.len]; exact N1) fun H6 S6 o6 h6 => ⟨_, _, rfl, cond_no rfl (cond_no rfl (cond_no (by rw [gives_push]; rfl) (cond_no (by rw [gives_push]; rfl) ?_)))⟩
    rw [done_push] at o5 o6
    refine ⟨l.length - (j + 1), by omega, j + 1, _, _, S5, S6, by omega, rfl, rfl, (w1.push N1.1 v).weak fun a => ?_, (w2.push N1.1 u).weak fun a => ?_, o5, o6, Sep.up3 (Sep.up3 h6)⟩
    · constructor
      · rintro (⟨i, hi, e⟩ | rfl)
        · exact ⟨i, by omega, e⟩
        · exact ⟨j, by omega, hv⟩
      · rintro ⟨i, hi, e⟩
        by_cases hij : i = j
        · subst hij
          rw [hv] at e
          exact .inr (Option.some.inj e).symm
        · exact .inl ⟨i, by omega, e⟩
    · constructor
      · rintro (⟨i, hi, e⟩ | rfl)
        · exact ⟨i, by omega, e⟩
        · exact ⟨_, by omega, hu⟩
      · rintro ⟨i, hi, e⟩
        by_cases hij : i = l.length - 1 - j
        · subst hij
          rw [hu] at e
          exact .inr (Option.some.inj e).symm
        · exact .inl ⟨i, by omega, e⟩
  · simp only [decide_eq_false_iff_not] at h1
    obtain rfl : j = l.length := by omega
    replace w1 := w1.weak (Q := fun v => v ∈ l) fun v => ⟨fun ⟨i, _, e⟩ => List.mem_of_getElem? e, fun hv => by
      obtain ⟨i, hi⟩ := List.mem_iff_getElem?.1 hv
      exact ⟨i, (List.getElem?_eq_some_iff.1 hi).1, hi⟩⟩
    replace w2 := w2.weak (Q := fun v => v ∈ l) fun v => ⟨fun ⟨i, _, e⟩ => List.mem_of_getElem? e, fun hv => by
      obtain ⟨i, hi⟩ := List.mem_iff_getElem?.1 hv
      exact ⟨i, by omega, hi⟩⟩
    refine asBool_in ?_
    refine use_crossbarlaw18_BloomOrder_1 (fun k t16 H => ∃ (p : Nat) (ws2 : List (BitVec 64)) (S2 : Sm) (c2 : Int), p ≤ l.length + 1 ∧ k = l.length + 1 - p ∧ t16 = (p : Int) ∧ c2 ≤ l.length + p ∧
      Holds ws2 N (fun v => v ∈ l) ∧ One S2 ws2 c2 ∧ Sep H (bm m x ⟨8, 1, 1, N, 0⟩ 1 :: mem m S1 :: bm n y ⟨8, 1, 1, N, 0⟩ 1 :: mem n S2 :: M))
      (l.length + 1) ⟨0, ws2, S2, _, by omega, rfl, rfl, by omega, w2, o2, hs⟩ ?_
    clear w2 o2 hs ws2 S2
    rintro k1 t16 ys1 H2 ⟨p, ws2, S2, c2, hp1, rfl, rfl, hc2, w2, o2, hs⟩
    refine cond_of (fun h2 => ?_) fun h2 => ?_
    · simp only [decide_eq_true_eq] at h2
      have hp' : p < l.length := by omega
      have hp2 : IntKind.i64.wrap ((p : Int) + 2) = ((p + 2 : Nat) : Int) := by rw [wrap_i64 (by omega)]; omega
      rw [hp2]
      obtain ⟨u, hu⟩ : ∃ u, l[p]? = some u := ⟨_, List.getElem?_eq_getElem hp'⟩
      refine ⟨by unfold inB; omega, ha1.word hs (fun A hA => mM A (hM1 A hA)) hp' fun i hi => ⟨_, hi u hu, ?_⟩⟩
      refine once_s (Sep.up3 (Sep.up3 hs)) o2 (by omega) (by rw [w2.len]) (by rw [w2.len]; exact N1) fun H6 S6 o6 h6 => ⟨_, _, rfl, ?_⟩
      rw [done_push] at o6
      refine ⟨l.length + 1 - (p + 2), by omega, p + 2, _, S6, _, by omega, rfl, rfl, ?_, (w2.push N1.1 u).weak fun a => ?_, o6, Sep.up3 (Sep.up3 h6)⟩
      · omega
      · exact ⟨fun h => h.elim id fun e => e ▸ List.mem_of_getElem? hu, .inl⟩
    · refine use_crossbarlaw18_BloomOrder_2 (fun k _ t17 H => ∃ (p : Nat) (S1 S2 : Sm) (c1 c2 : Int), p ≤ q.length ∧ k = q.length - p ∧ t17 = (p : Int) ∧ c1 ≤ 100 + p ∧ c2 ≤ 1000 + p ∧ One S1 ws1 c1 ∧ One S2 ws2 c2 ∧
        Sep H (bm m x ⟨8, 1, 1, N, 0⟩ 1 :: mem m S1 :: bm n y ⟨8, 1, 1, N, 0⟩ 1 :: mem n S2 :: M))
        q.length ⟨0, S1, S2, _, _, by omega, rfl, rfl, by omega, by omega, o1, o2, hs⟩ ?_
      clear hs o1 o2 S1 S2 hc2
      rintro k2 t6' t17 ys2 H3 ⟨p, S1, S2, c1, c2, hp1, rfl, rfl, hc1, hc2, o1, o2, hs⟩
      refine cond_of (fun h2 => ?_) fun h2 => ?_
      · simp only [decide_eq_true_eq] at h2
        have hp' : p < q.length := by omega
        have hp2 : IntKind.i64.wrap ((p : Int) + 1) = ((p + 1 : Nat) : Int) := by rw [wrap_i64 (by omega)]; omega
        rw [hp2]
        obtain ⟨u, hu⟩ : ∃ u, q[p]? = some u := ⟨_, List.getElem?_eq_getElem hp'⟩
        have ip : inB (p : Int) q.length := by unfold inB; omega
        refine ⟨ip, ha2.word hs (fun A hA => mM A (hM2 A hA)) hp' fun i hi => ⟨_, hi u hu, ?_⟩⟩
        refine once_s hs o1 (by omega) (by rw [w1.len]) (by rw [w1.len]; exact N1) fun H5 S5 o5 h5 => ⟨_, _, rfl, ?_⟩
        refine ⟨ip, ha2.word h5 (fun A hA => mM A (hM2 A hA)) hp' fun i hi => ⟨_, hi u hu, ?_⟩⟩
        refine once_s (Sep.up3 (Sep.up3 h5)) o2 (by omega) (by rw [w2.len]) (by rw [w2.len]; exact N1) fun H6 S6 o6 h6 => ⟨_, _, rfl, cond_no rfl (cond_no rfl (cond_no ?_ ?_))⟩
        · rw [gives_peek, gives_peek, w1.has w2 N1.1]; simp
        · rw [done_peek] at o5 o6
          exact ⟨q.length - (p + 1), by omega, p + 1, S5, S6, _, _, by omega, rfl, rfl, by omega, by omega, o5, o6, Sep.up3 (Sep.up3 h6)⟩
      · exact asBool_in (bad_s (Sep.up1 hs) ⟨_, rfl, cond_yes (by rw [o1.bads]; rfl) (CA_truth (by kernel_rfl) ⟨_, rfl, rfl⟩)⟩)

theorem BloomOrder_law (H : Heap) (us : List Value) (h : shpVs en H 7 T.BloomOrder us) : CA en F.crossbarlaw18_BloomOrder us H fun v _ => v = .bool true := by
  obtain ⟨v, u, rfl, ⟨n, hn, wn⟩, v2, u2, rfl, hA, v3, u3, rfl, hB, rfl⟩ := args_BloomOrder h
  obtain rfl := (List.cons.inj hn).1
  clear h hn
  obtain ⟨a1, n1, css1, M1, M, rfl, ha1, m1, _, hs, hf, c1⟩ := Arg.more (SlArg.one hA) Sep.nil (by simp)
  obtain ⟨a2, n2, css2, M2, M', rfl, ha2, m2, m3, hs', _, c2⟩ := Arg.more (SlArg.one hB) hs hf
  obtain ⟨l, rfl⟩ := words_of css1 c1
  obtain ⟨q, rfl⟩ := words_of css2 c2
  exact BloomOrder_ok (u8_nn wn) ha1 ha2 (fun A hA => m3 A (m1 A hA)) m2 hs'
end Go.Proofs.Ytlkmdcncpdadbaa
