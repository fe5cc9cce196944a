/-
  'crossbarlaw18.BloomFinds' returns true: what was pushed is found for ever.
-/
import Derived.Test.YtlkmdcncpdadbaaBloom
import Derived.Test.YtlkmdcncpdadbaaAs45
namespace Go.Proofs.Ytlkmdcncpdadbaa
open Go Go.AS Go.RowKit
set_option linter.unusedVariables false
variable {H H' : Heap} {m : Nat} {S S' : Sm} {R : Value → Heap → Prop} {L : List Asr} {ws : List (BitVec 64)} {c : Int}

theorem has_iff (ws : List (BitVec 64)) (k : BitVec 64) : has ws k = true ↔ ∀ i, i < 64 → (bitsOf k).getLsbD i = true → (ws.getD (bkt k ws.length).toNat 0).getLsbD i = true := by
  unfold has
  rw [decide_eq_true_eq]
  constructor
  · intro h i hi hb
    have := congrArg (fun b => BitVec.getLsbD b i) h
    simp only [BitVec.getLsbD_and, hb, Bool.and_true] at this
    exact this
  · intro h
    apply BitVec.eq_of_getLsbD_eq
    intro i hi
    rw [BitVec.getLsbD_and]
    cases hb : (bitsOf k).getLsbD i
    · simp
    · rw [h i hi hb]; rfl

theorem bkt_nat {k : BitVec 64} {n : Nat} (hn : 1 ≤ n) : (bkt k n).toNat < n := by
  have := bkt_of (k := k) (n := (n : Int)) (by omega); omega

theorem push_at (ws : List (BitVec 64)) (k : BitVec 64) (h1 : 1 ≤ ws.length) (j : Nat) : (push ws k).getD j 0 = if j = (bkt k ws.length).toNat then ws.getD j 0 ||| bitsOf k else ws.getD j 0 := by
  have hb := bkt_nat (k := k) h1
  unfold push
  by_cases e : j = (bkt k ws.length).toNat
  · rw [if_pos e, ← e, List.getD_eq_getElem?_getD, List.getElem?_set_self (by omega)]; rfl
  · rw [if_neg e, List.getD_eq_getElem?_getD, List.getElem?_set_ne (fun h => e h.symm), ← List.getD_eq_getElem?_getD]

theorem push_has {ws : List (BitVec 64)} {k v : BitVec 64} (h1 : 1 ≤ ws.length) (h : has ws v = true) : has (push ws k) v = true := by
  rw [has_iff] at h ⊢
  rw [push_len]
  intro i hi hb
  rw [push_at ws k h1]
  split
  · rw [BitVec.getLsbD_or, h i hi hb]; rfl
  · exact h i hi hb

theorem has_push {ws : List (BitVec 64)} {k : BitVec 64} (h1 : 1 ≤ ws.length) : has (push ws k) k = true := by
  rw [has_iff, push_len]
  intro i hi hb
  rw [push_at ws k h1, if_pos rfl, BitVec.getLsbD_or, hb, Bool.or_true]

theorem pow_of {x : Int} (hx : 0 ≤ x) : pow (IntKind.i64.wrap (1 * 2 ^ (min (Int.tmod x 6).toNat 64))) := by
  rw [Int.tmod_eq_emod_of_nonneg hx]
  have h : x % 6 = 0 ∨ x % 6 = 1 ∨ x % 6 = 2 ∨ x % 6 = 3 ∨ x % 6 = 4 ∨ x % 6 = 5 := by omega
  rcases h with h | h | h | h | h | h <;> rw [h] <;> decide

theorem gives_push (ws : List (BitVec 64)) (k : BitVec 64) : gives 6 ws k = 0 := rfl
theorem done_push (ws : List (BitVec 64)) (k : BitVec 64) : done 6 ws k = push ws k := rfl
theorem done_peek (ws : List (BitVec 64)) (k : BitVec 64) : done 8 ws k = ws := rfl
theorem gives_peek (ws : List (BitVec 64)) (k : BitVec 64) : gives 8 ws k = if has ws k then 0 else 2 := rfl
theorem gives_has {ws : List (BitVec 64)} {k : BitVec 64} (h : has ws k = true) : gives 8 ws k = 0 := by rw [gives_peek, if_pos h]

abbrev bools (i : Nat) (f : List Bool) : Asr := bx i (.cells true 1 (f.map fun b => [Value.bool b]).flatten)

theorem BloomFinds_ok {x0 : Int} {a1 a2 : Option Addr} {n1 n2 : Nat} {l q : List (BitVec 64)} {M1 M2 M : List Asr} (hx : 0 ≤ x0) (ha1 : Arg a1 n1 (l.map fun v => [W v]) M1) (ha2 : Arg a2 n2 (q.map fun v => [W v]) M2) (hM1 : ∀ A ∈ M1, A ∈ M) (hM2 : ∀ A ∈ M2, A ∈ M) (h : Sep H M) :
    CA en F.crossbarlaw18_BloomFinds [.int .u8 x0, .slice a1 n1 0, .slice a2 n2 0] H fun r _ => r = .bool true := by
  obtain rfl : n1 = l.length := by rw [ha1.len, List.length_map]
  obtain rfl : n2 = q.length := by rw [ha2.len, List.length_map]
  apply vc_crossbarlaw18_BloomFinds
  refine cond_of (fun hl => CA_truth (by kernel_rfl) ⟨_, rfl, rfl⟩) fun hl => cond_of (fun hl2 => CA_truth (by kernel_rfl) ⟨_, rfl, rfl⟩) fun hl2 => ?_
  simp only [decide_eq_false_iff_not] at hl hl2
  have hp := pow_of hx
  generalize hn : IntKind.i64.wrap (1 * 2 ^ (min (Int.tmod x0 6).toNat 64)) = n at *
  have hnb := pow_bd hp
  refine ⟨by unfold nz; decide, by unfold nn; rw [Int.tmod_eq_emod_of_nonneg hx]; omega, ?_⟩
  refine bmade_s h hp fun H8 m x S o h8 => ⟨_, _, rfl, cond_no rfl (cond_no rfl ⟨⟨by omega, Int.le_refl _, by omega⟩, Sep.nw h8 fun fb H12 h12 => ?_⟩)⟩
  rw [reps_flat, Int.toNat_natCast] at h12
  obtain ⟨N, rfl⟩ : ∃ N : Nat, n = N := ⟨n.toNat, by omega⟩
  rw [Int.toNat_natCast] at o
  have hfl : ∀ f : List Bool, ∀ c ∈ f.map (fun b => [Value.bool b]), c.length = 1 := by intro f c hc; obtain ⟨b, _, rfl⟩ := List.mem_map.1 hc; rfl
  have h0 : Sep H12 (bm m x ⟨8, 1, 1, N, 0⟩ 1 :: mem m S :: bools fb (List.replicate q.length false) :: M) := by
    have := Sep.up2 (Sep.up2 h12)
    unfold bools
    rw [List.map_replicate]
    exact this
  refine use_crossbarlaw18_BloomFinds_0 (fun k _ t10 H => ∃ (j : Nat) (ws : List (BitVec 64)) (f : List Bool) (S : Sm) (c : Int), j ≤ l.length ∧ k = l.length - j ∧ t10 = (j : Int) ∧ ws.length = N ∧ f.length = q.length ∧ c ≤ 21 * j ∧
    (∀ (i : Nat) v, i < j → l[i]? = some v → has ws v = true) ∧ (∀ (i : Nat) v, f[i]? = some true → q[i]? = some v → has ws v = true) ∧ One S ws c ∧ Sep H (bm m x ⟨8, 1, 1, N, 0⟩ 1 :: mem m S :: bools fb f :: M))
    l.length ⟨0, _, _, S, 0, by omega, rfl, rfl, by simp, by simp, by omega, fun i v hi => by omega, fun i v hi => ?_, o, h0⟩ ?_
  · have := (List.mem_replicate.1 (List.mem_of_getElem? hi)).2; cases this
  clear h0 h12 h8 o S
  rintro k0 t6 t10 ys H1 ⟨j, ws, f, S, c, hj, rfl, rfl, hws, hf, hc, hA, hB, o, hs⟩
  have hj1 : IntKind.i64.wrap ((j : Int) + 1) = ((j + 1 : Nat) : Int) := by rw [wrap_i64 (by omega)]; omega
  rw [hj1]
  refine cond_of (fun h1 => ?_) fun h1 => ?_
  · simp only [decide_eq_true_eq] at h1
    have hj' : j < l.length := by omega
    have mM : ∀ {A1 A2 A3 : Asr}, ∀ A ∈ M, A ∈ A1 :: A2 :: A3 :: M := fun A hA => by simp [hA]
    obtain ⟨v, hv⟩ : ∃ v, l[j]? = some v := ⟨_, List.getElem?_eq_getElem hj'⟩
    refine ⟨by unfold inB; omega, ha1.word hs (fun A hA => mM A (hM1 A hA)) hj' fun i hi => ⟨_, hi v hv, ?_⟩⟩
    refine once_s hs o (by omega) (by rw [hws]) (by omega) fun H5 S5 o5 h5 => ⟨_, _, rfl, cond_no (by rw [gives_push]; rfl) (cond_no rfl ?_)⟩
    rw [done_push] at o5
    have hws' : (push ws v).length = N := by rw [push_len, hws]
    have h1w : 1 ≤ ws.length := by omega
    -- the loop through what is asked
    refine use_crossbarlaw18_BloomFinds_1 (fun k _ t13 H => ∃ (p : Nat) (f : List Bool) (S : Sm) (c' : Int), p ≤ q.length ∧ k = q.length - p ∧ t13 = (p : Int) ∧ f.length = q.length ∧ c' = c + 1 + p ∧
      (∀ (i : Nat) v', f[i]? = some true → q[i]? = some v' → has (push ws v) v' = true) ∧ One S (push ws v) c' ∧ Sep H (bm m x ⟨8, 1, 1, N, 0⟩ 1 :: mem m S :: bools fb f :: M))
      q.length ⟨0, f, S5, c + 1, by omega, rfl, rfl, hf, by simp, fun i v' h1 h2 => push_has h1w (hB i v' h1 h2), o5, h5⟩ ?_
    clear h5 o5 S5 hB hf f hs o S
    rintro k1 t6' t13 ys1 H2 ⟨p, f, S, c', hp1, rfl, rfl, hf, rfl, hB, o, hs⟩
    have hp2 : IntKind.i64.wrap ((p : Int) + 1) = ((p + 1 : Nat) : Int) := by rw [wrap_i64 (by omega)]; omega
    rw [hp2]
    refine cond_of (fun h2 => ?_) fun h2 => ?_
    · simp only [decide_eq_true_eq] at h2
      have hp' : p < q.length := by omega
      obtain ⟨u, hu⟩ : ∃ u, q[p]? = some u := ⟨_, List.getElem?_eq_getElem hp'⟩
      refine ⟨by unfold inB; omega, ha2.word hs (fun A hA => mM A (hM2 A hA)) hp' fun i hi => ⟨_, hi u hu, ?_⟩⟩
      refine once_s hs o (by omega) (by rw [hws']) (by omega) fun H6 S6 o6 h6 => ⟨_, _, rfl, cond_no rfl ?_⟩
      rw [done_peek] at o6
      have hB6 := h6.bump 27
      have hpf : p < f.length := by omega
      obtain ⟨b, hb⟩ : ∃ b, f[p]? = some b := ⟨_, List.getElem?_eq_getElem hpf⟩
      have hrow : (f.map fun b => [Value.bool b])[p]? = some [.bool b] := by rw [List.getElem?_map, hb]; rfl
      have hpc : p < (f.map fun b => [Value.bool b]).length := by simpa using hpf
      have hv2 := Sep.rvw (Sep.up2 hB6) hrow
      have ip : inB (p : Int) q.length := by unfold inB; omega
      have ipf : inB (p : Int) q.length := ip
      have ij : inB (j : Int) l.length := by unfold inB; omega
      have hhas : f[p]? = some true → has (push ws v) u = true := fun h => hB p u h hu
      -- the end of a step
      have fin : ∀ K : Heap → Prop, (∀ H', Sep H' (bm m x ⟨8, 1, 1, N, 0⟩ 1 :: mem m S6 :: bools fb (f.set p (gives 8 (push ws v) u == 0)) :: M) → K H') → stc (H6.bump 27) fb (0 + (p : Int).toNat * 1) [.bool (gives 8 (push ws v) u == 0)] K := by
        intro K hK
        refine Sep.rst0 hv2 (hfl f) rfl hpc (by decide) fun H7 h7 => hK H7 ?_
        have e : (f.set p (gives 8 (push ws v) u == 0)).map (fun b => [Value.bool b]) = (f.map fun b => [Value.bool b]).set p [.bool (gives 8 (push ws v) u == 0)] := by rw [List.map_set]
        unfold bools
        rw [e]
        exact Sep.up2 (Sep.up2 h7)
      have go : ∀ H7 : Heap, Sep H7 (bm m x ⟨8, 1, 1, N, 0⟩ 1 :: mem m S6 :: bools fb (f.set p (gives 8 (push ws v) u == 0)) :: M) → ∃ k, k < q.length - p ∧ ∃ (p' : Nat) (f : List Bool) (S : Sm) (c' : Int), p' ≤ q.length ∧ k = q.length - p' ∧ ((p + 1 : Nat) : Int) = (p' : Int) ∧ f.length = q.length ∧ c' = c + 1 + p' ∧
          (∀ (i : Nat) v', f[i]? = some true → q[i]? = some v' → has (push ws v) v' = true) ∧ One S (push ws v) c' ∧ Sep H7 (bm m x ⟨8, 1, 1, N, 0⟩ 1 :: mem m S :: bools fb f :: M) := by
        intro H7 h7
        refine ⟨q.length - (p + 1), by omega, p + 1, _, S6, _, by omega, rfl, rfl, by rw [List.length_set]; exact hf, rfl, ?_, ?_, h7⟩
        · intro i v' h3 h4
          rw [List.getElem?_set] at h3
          split at h3
          · rename_i e
            subst e
            rw [hu] at h4
            cases h4
            have e := Option.some.inj h3
            rw [gives_peek] at e
            by_cases hh : has (push ws v) u = true
            · exact hh
            · rw [if_neg hh] at e; cases e
          · exact hB i v' h3 h4
        · have : c + 1 + ((p + 1 : Nat) : Int) = c + 1 + (p : Int) + 1 := by omega
          rw [this]; exact o6
      refine ⟨ip, _, Sep.rld0 hv2 (hfl f) rfl hpc rfl, cond_of (fun hb1 => ?_) fun hb1 => ?_⟩
      · have hg : gives 8 (push ws v) u = 0 := gives_has (hhas (by rw [hb, hb1]))
        refine cond_no (by rw [hg]; rfl) ⟨ip, ha2.word hB6 (fun A hA => mM A (hM2 A hA)) hp' fun i hi => ⟨_, hi u hu, ij, ha1.word hB6 (fun A hA => mM A (hM1 A hA)) hj' fun i hi => ⟨_, hi v hv, cond_of (fun _ => ⟨cond_no (by rw [hg]; rfl) ⟨ip, fin _ go⟩, trivial⟩) fun _ => ⟨⟨ip, fin _ go⟩, trivial⟩⟩⟩⟩
      · refine ⟨ip, ha2.word hB6 (fun A hA => mM A (hM2 A hA)) hp' fun i hi => ⟨_, hi u hu, ij, ha1.word hB6 (fun A hA => mM A (hM1 A hA)) hj' fun i hi => ⟨_, hi v hv, cond_of (fun he => ⟨cond_no ?_ ⟨ip, fin _ go⟩, trivial⟩) fun _ => ⟨⟨ip, fin _ go⟩, trivial⟩⟩⟩⟩
        have he : u = v := by rw [bv_beq] at he; simpa using he
        rw [gives_has (by rw [he]; exact has_push h1w)]; rfl
    · simp only [decide_eq_false_iff_not] at h2
      have : p = q.length := by omega
      subst this
      refine asBool_in ⟨l.length - (j + 1), by omega, j + 1, push ws v, f, S, _, by omega, rfl, rfl, hws', hf, ?_, ?_, hB, o, hs⟩
      · omega
      · intro i v' hi hv'
        by_cases e : i = j
        · subst e
          rw [hv] at hv'
          cases hv'
          exact has_push h1w
        · exact push_has h1w (hA i v' (by omega) hv')
  · simp only [decide_eq_false_iff_not] at h1
    have : j = l.length := by omega
    subst this
    refine asBool_in ?_
    -- all that was pushed
    refine use_crossbarlaw18_BloomFinds_2 (fun k _ t14 H => ∃ (p : Nat) (S : Sm) (c' : Int), p ≤ l.length ∧ k = l.length - p ∧ t14 = (p : Int) ∧ c' = c + p ∧ One S ws c' ∧ Sep H (bm m x ⟨8, 1, 1, N, 0⟩ 1 :: mem m S :: bools fb f :: M))
      l.length ⟨0, S, c, by omega, rfl, rfl, by simp, o, hs⟩ ?_
    clear hs o S
    rintro k1 t6' t14 ys1 H2 ⟨p, S, c', hp1, rfl, rfl, rfl, o, hs⟩
    refine cond_of (fun h2 => ?_) fun h2 => ?_
    · simp only [decide_eq_true_eq] at h2
      have hp' : p < l.length := by omega
      obtain ⟨u, hu⟩ : ∃ u, l[p]? = some u := ⟨_, List.getElem?_eq_getElem hp'⟩
      refine ⟨by unfold inB; omega, ha1.word hs (fun A hA => by simp [hM1 A hA]) hp' fun i hi => ⟨_, hi u hu, ?_⟩⟩
      refine once_s hs o (by omega) (by rw [hws]) (by omega) fun H6 S6 o6 h6 => ⟨_, _, rfl, cond_no (by rw [gives_has (hA p u (by omega) hu)]; rfl) (cond_no rfl ?_)⟩
      rw [done_peek] at o6
      refine ⟨l.length - (p + 1), by omega, p + 1, S6, _, by omega, rfl, ?_, rfl, ?_, h6⟩
      · rw [wrap_i64 (by omega)]; omega
      · have : c + ((p + 1 : Nat) : Int) = c + (p : Int) + 1 := by omega
        rw [this]; exact o6
    · refine asBool_in (bad_s (Sep.up1 hs) ⟨_, rfl, cond_yes (by rw [o.bads]; rfl) (CA_truth (by kernel_rfl) ⟨_, rfl, rfl⟩)⟩)

theorem u8_nn {n : Int} (h : (Lit.int .u8 n).wf = true) : 0 ≤ n := by
  simp only [Lit.wf, IntKind.min, IntKind.max, Bool.and_eq_true, decide_eq_true_eq] at h
  have e1 : IntKind.u8.signed = false := rfl
  simp [e1] at h
  omega

theorem BloomFinds_law (H : Heap) (us : List Value) (h : shpVs en H 7 T.BloomFinds us) : CA en F.crossbarlaw18_BloomFinds us H fun v _ => v = .bool true := by
  obtain ⟨v, u, rfl, ⟨n, hn, wn⟩, v2, u2, rfl, hA, v3, u3, rfl, hB, rfl⟩ := args_BloomFinds h
  obtain rfl := (List.cons.inj hn).1
  clear h hn
  obtain ⟨a1, n1, css1, M1, M, rfl, ha1, m1, _, hs, hf, c1⟩ := Arg.more (SlArg.one hA) Sep.nil (by simp)
  obtain ⟨a2, n2, css2, M2, M', rfl, ha2, m2, m3, hs', _, c2⟩ := Arg.more (SlArg.one hB) hs hf
  obtain ⟨l, rfl⟩ := words_of css1 c1
  obtain ⟨q, rfl⟩ := words_of css2 c2
  exact BloomFinds_ok (u8_nn wn) ha1 ha2 (fun A hA => m3 A (m1 A hA)) m2 hs'
end Go.Proofs.Ytlkmdcncpdadbaa
