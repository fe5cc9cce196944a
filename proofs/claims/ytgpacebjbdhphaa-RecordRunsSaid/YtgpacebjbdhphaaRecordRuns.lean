/-
  Whatever agents do with a map of records: it is the document's one.
-/
import Derived.Test.YtgpacebjbdhphaaRecTM
import Derived.Test.YtgpacebjbdhphaaArgz
import Derived.Test.YtgpacebjbdhphaaAs48
namespace Go.Proofs.Ytgpacebjbdhphaa
open Go Go.AS Go.RowKit
set_option linter.unusedVariables false
open Rr (Ent)
variable {H H' H0 : Heap} {R : Value → Heap → Prop} {L M : List Asr} {N E n k s m x rr vo ab : Nat} {d : Dc} {la : Option Addr} {ll : List (List Op)} {st : Rr.St} {Ks : List Ak} {c : Int}

theorem fits_s (h : Sep H L) (hR : ∀ H', Sep H' L → R (.bool (decide (chks [d] = 0 ∧ d.kind = 3))) H') : CA en F.crossbarlaw14_Fits [.agg #[I d.kind, I d.entries, I d.words, I d.buckets, I d.inner]] H R := by
  apply vc_crossbarlaw14_Fits
  refine Sep.nw h fun i1 H2 h2 => ⟨_, _, _, _, _, Sep.lds0 h2 rfl, Sep.nw h2 fun i8 H9 h9 => ?_⟩
  refine Check_ok (l := [d]) ⟨rfl, .inr ⟨i8, true, 5, rfl, h9.footlt (by simp [bx]), Sep.get0 h9⟩⟩ fun H11 fr => ⟨_, rfl, ?_⟩
  have h11 := h9.keep fr
  refine cond_of (fun z => ⟨_, Sep.ld1 h11 rfl, ?_⟩) fun z => ?_
  · have z : chks [d] = 0 := by simpa using z
    have e : (d.kind == 3) = decide (chks [d] = 0 ∧ d.kind = 3) := by rw [Bool.eq_iff_iff]; simp [z]
    rw [e]; exact hR H11 h11.tail.tail
  · have z : ¬ chks [d] = 0 := by simpa using z
    have e : false = decide (chks [d] = 0 ∧ d.kind = 3) := by symm; simp [z]
    rw [e]; exact hR H11 h11.tail.tail

theorem big_s {pa : Option Addr} {pn : Nat} (o : OpsLL H0 la n ll) (hl : ∀ l ∈ ll, l.length ≤ Bz) (h : Sep H L) (hm : old H0 ∈ L)
    (hR1 : ∀ H', Sep H' L → R (.bool true) H') (hR2 : 1 ≤ n ∧ n ≤ 4 → tot ll ≤ 120 → pn ≤ 2000 → ∀ H', Sep H' L → R (.bool false) H') : CA en F.crossbarlaw14_Big [.slice la n 0, .slice pa pn 0] H R := by
  apply vc_crossbarlaw14_Big
  refine cond_of (fun z => hR1 H h) fun z => cond_of (fun z2 => hR1 H h) fun z2 => ?_
  have hn : 1 ≤ n ∧ n ≤ 4 := by simp only [decide_eq_false_iff_not] at z z2; omega
  refine Total_s o hn.2 hl h hm fun H2 h2 => ⟨_, rfl, cond_of (fun z3 => hR1 H2 h2) fun z3 => ?_⟩
  have ht : tot ll ≤ 120 := by simp only [decide_eq_false_iff_not] at z3; omega
  by_cases hp : pn ≤ 2000
  · have e : decide (((pn : Nat) : Int) > 2000) = false := by rw [decide_eq_false_iff_not]; omega
    rw [e]; exact hR2 hn ht hp H2 h2
  · have e : decide (((pn : Nat) : Int) > 2000) = true := by rw [decide_eq_true_iff]; omega
    rw [e]; exact hR1 H2 h2

theorem rd_of (h : chks [d] = 0) (hk : d.kind = 3) : ∃ N E, RD N E d := by
  have e : chks [d] = chk [d] d := by
    show (if (1 : Int) > 10 then (19 : Int) else if chk [d] d ≠ 0 then chk [d] d else 0) = _
    rw [if_neg (by omega)]; split <;> omega
  rw [e] at h
  unfold chk at h
  have hw : (kindD d.kind).words = 4 := by rw [hk]; rfl
  rw [if_neg (by rw [hk]; decide)] at h
  by_cases h2 : d.entries < 1 ∨ d.entries > 64 ∨ d.words < 1 ∨ d.words > (kindD d.kind).words
  · rw [if_pos h2] at h; cases h
  · rw [if_neg h2] at h
    rw [hw] at h2
    refine ⟨d.words.toNat, d.entries.toNat, hk, by omega, by omega, ?_, by omega, by omega⟩
    split at h
    · cases h
    · have hn : (kindD d.kind).nested = false := by rw [hk]; rfl
      rw [hn] at h
      simp at h
      exact h

abbrev ak0 : Ak := ⟨none, 0, 0, none, 0, 0, 0, 0, false, 0, none, 0, 0, 0⟩
abbrev en0 (N : Nat) : Ent := ⟨0, 0, 0, List.replicate N 0, List.replicate N 0⟩
abbrev st0 (N E n : Nat) : Rr.St := ⟨List.replicate n none, List.replicate E (en0 N)⟩
theorem graceNew_s {n : Int} {p : Option Addr} (h : Sep H L) (hR : ∀ H' g, Sep H' L → R (P g) H') : CA en F.grace_New [I n, .pointer p] H R := by
  apply vc_grace_New
  exact Sep.nw h fun mi H2 h2 => Sep.nw h2 fun g H4 h4 => hR H4 g h4.tail.tail
theorem first_one {mp b : Nat} {room n : Int} (h1 : 1 ≤ n) (h2 : n ≤ 65536) (hr : n ≤ clampRoom room) : ((newSm mp room).make b n).1 = (1, 0) ∧ One ((newSm mp room).make b n).2 (List.replicate n.toNat 0) 0 := by
  have hr : ¬ (newSm mp room).room < n := by simp only [newSm]; omega
  have e1 : wr 1 = 1 := wrs (by omega)
  have e : (newSm mp room).make b n = ((wr 1, 0), (newSm mp room).mk' b n.toNat) := by
    unfold Sm.make
    rw [if_neg (by omega), if_neg hr]; rfl
  rw [e, e1]
  refine ⟨rfl, ⟨b, 0, ?_⟩, rfl, rfl, Int.le_refl _⟩
  show [] ++ [(⟨wr (0 + 1), b, 0, List.replicate n.toNat 0⟩ : Reg)] = _
  rw [Int.zero_add, e1]; rfl
theorem flat0 (N : Nat) : ∀ E, flatE (List.replicate E (en0 N)) = List.replicate (E * (3 + N)) 0
  | 0 => by rw [Nat.zero_mul]; rfl
  | E + 1 => by
    have := flat0 N E
    unfold flatE at *
    rw [List.replicate_succ, List.map_cons, List.flatten_cons, this]
    have e : erow (en0 N) = List.replicate (3 + N) 0 := by rw [Nat.add_comm]; rfl
    rw [e, Nat.add_mul, Nat.one_mul, Nat.add_comm (E * (3 + N)), List.replicate_append_replicate]
theorem many_reps : ∀ (k : Nat), Sep H L → Sep H (List.replicate k (many []) ++ L)
  | 0, h => h
  | k + 1, h => Sep.many0 (many_reps k h)
theorem inv0 (N E n : Nat) : Rr.Inv N E n (st0 N E n) := by
  have hno : ∀ i r, ¬ Rr.On (st0 N E n).As i r := fun i r h => by
    have h : (List.replicate n (none : Option Rr.Run))[i]? = some (some r) := h
    have := (List.mem_replicate.1 (List.mem_of_getElem? h)).2
    cases this
  refine ⟨by simp, by simp, fun e en h => ?_, fun i r h => absurd h (hno i r)⟩
  obtain ⟨_, rfl⟩ := List.mem_replicate.1 (List.mem_of_getElem? h)
  exact ⟨by simp, by simp, Nat.le_refl _, fun i v ph n t h => absurd h (hno _ _), fun t h1 h2 => absurd h2 (Nat.not_lt_zero _), fun i j v v' ph ph' n n' t h => absurd h (hno _ _), fun i v ph n t h => absurd h (hno _ _), fun i v ph n t h => absurd h (hno _ _), fun _ => ⟨rfl, rfl⟩, fun i v n t h => absurd h (hno _ _), fun i v n t h => absurd h (hno _ _), fun i ph seen vals h => absurd h (hno _ _)⟩

theorem start_s (h : Sep H [old H0]) (rd : RD N E d) (hz : chks [d] = 0) (hn : 1 ≤ n ∧ n ≤ 4)
    (hR : ∀ H' s m x rr vo ab, RS H0 s m x rr vo ab n N E d la ll H' (st0 N E n) (List.replicate n ak0) 0 → R (P s) H') : CA en F.crossbarlaw14_begin [.agg #[I d.kind, I d.entries, I d.words, I d.buckets, I d.inner], .slice la n 0] H R := by
  apply vc_crossbarlaw14_begin
  have hE := rd.hE
  have hN := rd.hN
  refine Sep.nw h fun i1 H2 h2 => new_s h2 fun H4 m mp h4 => ⟨_, rfl, cond_no rfl ?_⟩
  have hB4 := h4.bump 12
  refine graceNew_s hB4 fun H7 g h7 => ⟨_, rfl, _, _, _, _, _, Sep.lds1 h7 rfl, ?_⟩
  apply vc_record_New
  refine Sep.nw h7 fun j1 H8 h8 => ⟨_, _, _, _, _, Sep.lds0 h8 rfl, Sep.nw h8 fun i8 H9 h9 => ?_⟩
  refine Check_ok (l := [d]) ⟨rfl, .inr ⟨i8, true, 5, rfl, h9.footlt (by simp [bx]), Sep.get0 h9⟩⟩ fun H11 fr => ⟨_, rfl, ?_⟩
  have h11 := (h9.keep fr).tail
  rw [hz]
  -- j1 mem i1 L
  have hmul : E * (3 + N) ≤ 64 * 7 := Nat.mul_le_mul hE.2 (by omega)
  have ew : IntKind.i64.wrap (d.entries * IntKind.i64.wrap (3 + d.words)) = ((E * (3 + N) : Nat) : Int) := by
    rw [rd.ents, rd.words, wrap_i64 (n := 3 + (N : Int)) (by omega)]
    have e : (E : Int) * (3 + (N : Int)) = ((E * (3 + N) : Nat) : Int) := by rw [Int.natCast_mul]; rfl
    rw [e, wrap_i64 (by omega)]
  refine cond_no rfl ⟨_, Sep.ld0 h11 rfl, cond_no (by rw [rd.kind]; rfl) ⟨_, Sep.ld0 h11 rfl, _, Sep.ld0 h11 rfl, ?_⟩⟩
  rw [ew]
  refine make_s (Sep.up1 h11) (fun _ _ _ => rfl) fun H16 b h16 => ⟨_, _, rfl, ?_⟩
  have h1 : 1 ≤ E * (3 + N) := Nat.mul_pos (by omega) (by omega)
  obtain ⟨e1, o⟩ := first_one (mp := mp) (b := b) (room := 65536) (n := ((E * (3 + N) : Nat) : Int)) (by omega) (by omega) (by rw [clampRoom_eq]; omega)
  rw [e1]
  rw [Int.toNat_natCast, ← flat0] at o
  generalize ((newSm mp 65536).make b ((E * (3 + N) : Nat) : Int)).2 = S at *
  refine cond_no rfl ⟨_, _, _, _, _, Sep.lds1 h16 rfl, Sep.nw h16 fun x H15 h15 => ⟨_, _, rfl, ⟨cond_no rfl (cond_no rfl ?_), ⟨⟨_, _, _, _, _, Sep.lds1 hB4 rfl, sameD _ _ _ _ _⟩, ⟨_, _, _, _, _, Sep.lds1 h7 rfl, sameD _ _ _ _ _⟩, trivial⟩, trivial⟩⟩⟩
  -- x mem j1 i1 old
  have hB := (Sep.pick h15 5 [0, 1, 3, 4] (by decide)).bump 12
  refine ⟨_, _, _, _, _, Sep.lds2 hB rfl, ?_⟩
  refine dnew_s hB rd.ents rd.words hE hN fun H34 vo1 qs1 hq1 h34 => ⟨_, rfl, _, _, _, _, _, Sep.lds5 h34 rfl, ⟨by omega, Int.le_refl _, by omega⟩, ?_⟩
  have e1 : (H15.bump 12).next = H15.next + 12 := by rw [next_bump]
  rw [e1]
  have hF := (Sep.pick h15 5 [0, 1, 3, 4] (by decide)).fore2 (n := 12) (a := 8) (b := 10) (.cells true 12 (reps ((n : Nat) : Int).toNat [.pointer none, I 0, .int .u64 0, .slice none 0 0, I 0, I 0, I 0, .bool false, I 0, .slice none 0 0, .int .u64 0, I 0])) (.cells true 0 [P m, P x, P (H15.next + 12 + 1), I d.kind, I d.entries, I d.words, I d.buckets, I d.inner, .slice la n 0, .slice (some ⟨H15.next + 8, 0, none⟩) ((n : Nat) : Int).toNat 0]) (by decide) (by decide) (by decide)
  refine ⟨_, _, _, _, _, Sep.lds4 hF rfl, ?_⟩
  refine dnew_s hF rd.ents rd.words hE hN fun H47 vo qs hq h47 => ⟨_, rfl, _, _, _, _, _, Sep.lds7 h47 rfl, ⟨by omega, Int.le_refl _, by omega⟩, ?_⟩
  have e3 : (((H15.bump 12).set (H15.next + 8) (.cells true 12 (reps ((n : Nat) : Int).toNat [.pointer none, I 0, .int .u64 0, .slice none 0 0, I 0, I 0, I 0, .bool false, I 0, .slice none 0 0, .int .u64 0, I 0]))).set (H15.next + 10) (.cells true 0 [P m, P x, P (H15.next + 12 + 1), I d.kind, I d.entries, I d.words, I d.buckets, I d.inner, .slice la n 0, .slice (some ⟨H15.next + 8, 0, none⟩) ((n : Nat) : Int).toNat 0])).next = H15.next + 12 := by rw [next_set, next_set, next_bump]
  rw [e3] at h47 ⊢
  -- doc gl rows side agents x mem i1 old
  have er : reps ((n : Nat) : Int).toNat [.pointer none, I 0, .int .u64 0, .slice none 0 0, I 0, I 0, I 0, .bool false, I 0, .slice none 0 0, .int .u64 0, I 0] = ((List.replicate n ak0).map Ak.cells).flatten := by
    rw [Int.toNat_natCast, reps_flat, List.map_replicate]; rfl
  have s1 : ∀ v ∈ [P m, P x, P (H15.next + 12 + 1), I d.kind, I d.entries, I d.words, I d.buckets, I d.inner, .slice la n 0, .slice (some ⟨H15.next + 8, 0, none⟩) ((n : Nat) : Int).toNat 0], sameN 8 v v = true := by
    intro v hv
    simp only [List.mem_cons, List.not_mem_nil, or_false] at hv
    rcases hv with rfl | rfl | rfl | rfl | rfl | rfl | rfl | rfl | rfl | rfl <;> simp [sameN]
  have s2 : ∀ v ∈ reps ((n : Nat) : Int).toNat [.pointer none, I 0, .int .u64 0, .slice none 0 0, I 0, I 0, I 0, .bool false, I 0, .slice none 0 0, .int .u64 0, I 0], sameN 8 v v = true := by
    intro v hv
    have hv := mem_reps hv
    simp only [List.mem_cons, List.not_mem_nil, or_false] at hv
    rcases hv with rfl | rfl | rfl | rfl | rfl | rfl | rfl | rfl | rfl | rfl | rfl | rfl <;> simp [sameN]
  have hl : okLen 128 (n : Int) (n : Int) := ⟨by omega, Int.le_refl _, by omega⟩
  refine ⟨hR H47 (H15.next + 10) m x (H15.next + 12 + 1) vo (H15.next + 8) ⟨by simp, inv0 N E n, fun i a l hi hl => ?_, fun e en he => ?_, S, List.replicate n (many []), qs, o, by simp, hq, fun i a r B hi hr hb => ?_, ?_⟩, ⟨⟨_, Sep.get3 h47, sameObj_refl s1⟩, trivial⟩, ⟨⟨hl, _, Sep.get1 hF, sameObj_refl s2⟩, ⟨hl, _, Sep.get4 h47, sameObj_refl s2⟩, trivial⟩, ⟨rfl, rfl, trivial⟩, ⟨⟨_, _, _, _, _, Sep.lds4 hF rfl, sameD _ _ _ _ _⟩, ⟨_, _, _, _, _, Sep.lds7 h47 rfl, sameD _ _ _ _ _⟩, trivial⟩, trivial⟩
  · obtain ⟨_, rfl⟩ := List.mem_replicate.1 (List.mem_of_getElem? hi); exact Nat.zero_le _
  · obtain ⟨_, rfl⟩ := List.mem_replicate.1 (List.mem_of_getElem? he); exact ⟨Int.le_refl _, Int.le_refl _⟩
  · obtain ⟨_, rfl⟩ := List.mem_replicate.1 (List.mem_of_getElem? hi)
    obtain ⟨_, rfl⟩ := List.mem_replicate.1 (List.mem_of_getElem? hr)
    rfl
  · rw [er, Int.toNat_natCast] at h47
    have ev : (st0 N E n).Es.map Ent.val = List.replicate E (List.replicate N 0) := by simp
    rw [ev]
    have em : mA m x (mD N E d.buckets d.inner) = bx x (.cells true 0 [P m, I d.kind, I d.entries, I d.words, I d.buckets, I d.inner, I 1]) := by rw [rd.kind, rd.ents, rd.words]
    rw [em]
    have h5 := Sep.pick h47 9 [4, 3, 5, 6, 0, 1, 2, 8] (by decide)
    -- agents side x mem doc gl rows old
    have h6 := Sep.many_iff.2 (many_reps n h5)
    exact Sep.pick h6 9 [1, 2, 3, 4, 5, 6, 7, 0, 8] (by decide)
/-- All that is left at the beginning. -/
theorem phi0 (hn : ll.length = n) (hn4 : n ≤ 4) : Rr.Phi N (ll.map List.length) ((List.replicate n ak0).map Ak.at_) (st0 N E n) ≤ 60 * tot ll := by
  have hlen : (st0 N E n).As.length = n := by simp
  unfold Rr.Phi
  rw [hlen]
  have hc : ∀ i, (st0 N E n).cost N i = 0 := fun i => by
    unfold Rr.St.cost
    show (match (List.replicate n (none : Option Rr.Run))[i]? with | some (some r) => _ | _ => 0) = 0
    rw [List.getElem?_replicate]
    by_cases h : i < n
    · rw [if_pos h]
    · rw [if_neg h]
  have h1 : Rr.sumN n (fun i => (st0 N E n).cost N i + 60 * ((ll.map List.length).getD i 0 - ((List.replicate n ak0).map Ak.at_).getD i 0)) ≤ Rr.sumN n (fun i => 60 * ((ll.map List.length).getD i 0)) := by
    refine Rr.sumN_le fun i hi => ?_
    rw [hc i]; omega
  refine Nat.le_trans h1 ?_
  clear h1 hc
  unfold tot
  match ll, hn with
  | [], hn => subst hn; exact Nat.zero_le _
  | [a], hn => subst hn; simp [Rr.sumN]
  | [a, b], hn => subst hn; simp [Rr.sumN]; omega
  | [a, b, c], hn => subst hn; simp [Rr.sumN]; omega
  | [a, b, c, e], hn => subst hn; simp [Rr.sumN]; omega
  | a :: b :: c :: e :: f :: l, hn => simp only [List.length_cons] at hn; omega

theorem over_keep {N : Nat} {lens ats ats' : List Nat} {st st' : Rr.St} (h : Rr.Over lens ats st) (hs : Rr.Phi N lens ats' st' < Rr.Phi N lens ats st ∨ (st' = st ∧ ats' = ats ∧ Rr.Quiet lens ats st k)) : Rr.Over lens ats' st' := by
  rcases hs with h1 | ⟨rfl, rfl, _⟩
  · rw [Rr.over_phi h] at h1; exact absurd h1 (Nat.not_lt_zero _)
  · exact h

theorem rest_s (o : OpsLL H0 la n ll) (rd : RD N E d) (w : RS H0 s m x rr vo ab n N E d la ll H st Ks c) (hn : 1 ≤ n ∧ n ≤ 4) (ht : tot ll ≤ 120) (hc : c ≤ 2000)
    (hphi : Rr.Phi N (ll.map List.length) (Ks.map Ak.at_) st ≤ 60 * tot ll)
    (hR : ∀ H', R (.bool true) H') : CA en F.crossbarlaw14_side_rest [P s] H R := by
  have hl : ∀ l ∈ ll, l.length ≤ 1000 := fun l hm => by have := len_le_tot hm; omega
  have hlz : ∀ l ∈ ll, l.length ≤ Bz := fun l hm => by have := hl l hm; show l.length ≤ 140737488355328; omega
  have hln := o.len
  apply vc_crossbarlaw14_side_rest
  refine use_crossbarlaw14_side_rest_0 (fun k t2 t3 H' => ∃ (j : Nat) (st : Rr.St) (Ks : List Ak) (c' : Int), j ≤ 60 * (tot ll + 1) ∧ k = 60 * (tot ll + 1) - j ∧ t3 = (j : Int) ∧ c' ≤ 2000 + 4 * j ∧ RS H0 s m x rr vo ab n N E d la ll H' st Ks c' ∧ (Rr.Phi N (ll.map List.length) (Ks.map Ak.at_) st + j ≤ 60 * tot ll ∨ Rr.Over (ll.map List.length) (Ks.map Ak.at_) st)) (60 * (tot ll + 1)) ⟨0, st, Ks, c, Nat.zero_le _, rfl, rfl, by omega, w, .inl hphi⟩ ?_
  clear w hphi hc
  rintro k t2 t3 ys H3 ⟨j, st, Ks, c', hj, rfl, rfl, hc', w, hphi⟩
  obtain ⟨S, RB, qs, o1, hrb, hqs, hag, h⟩ := w.ex
  refine asAddr_in ⟨_, _, Sep.ld1 h rfl, ?_⟩
  refine Total_s o hn.2 hlz h (by simp) fun H6 h6 => ⟨_, rfl, ?_⟩
  have w6 : RS H0 s m x rr vo ab n N E d la ll H6 st Ks c' := ⟨w.len, w.inv, w.at_, w.bnd, S, RB, qs, o1, hrb, hqs, hag, h6⟩
  clear w h o1 hrb hqs hag
  have e1 : IntKind.i64.wrap (60 * IntKind.i64.wrap ((tot ll : Int) + 1)) = ((60 * (tot ll + 1) : Nat) : Int) := by
    rw [wrap_i64 (n := (tot ll : Int) + 1) (by omega), wrap_i64 (by omega)]; omega
  rw [e1]
  refine cond_of (fun hlt => ?_) fun hlt => ?_
  · have hlt : j < 60 * (tot ll + 1) := by simp only [decide_eq_true_eq] at hlt; omega
    refine use_crossbarlaw14_side_rest_1 (fun k' t2 t4 H' => ∃ (q : Nat) (st : Rr.St) (Ks : List Ak) (c2 : Int), q ≤ n ∧ k' = n - q ∧ t4 = (q : Int) ∧ c2 ≤ c' + q ∧ RS H0 s m x rr vo ab n N E d la ll H' st Ks c2 ∧ (Rr.Phi N (ll.map List.length) (Ks.map Ak.at_) st + (j + 1) ≤ 60 * tot ll ∨ (Rr.Phi N (ll.map List.length) (Ks.map Ak.at_) st + j ≤ 60 * tot ll ∧ ∀ i, i < q → Rr.Quiet (ll.map List.length) (Ks.map Ak.at_) st i) ∨ Rr.Over (ll.map List.length) (Ks.map Ak.at_) st)) n ⟨0, st, Ks, c', Nat.zero_le _, rfl, rfl, by omega, w6, by rcases hphi with h1 | h1; exact .inr (.inl ⟨h1, fun i hi => absurd hi (Nat.not_lt_zero _)⟩); exact .inr (.inr h1)⟩ ?_
    clear w6 hphi
    rintro k' t2' t4 ys' H4 ⟨q, st, Ks, c2, hq, rfl, rfl, hc2, w, hph⟩
    obtain ⟨S, RB, qs, o1, hrb, hqs, hag, h⟩ := w.ex
    refine asAddr_in ⟨_, _, Sep.ld1 h rfl, cond_of (fun hqn => ?_) fun hqn => ?_⟩
    · have hqn : q < n := by simp only [decide_eq_true_eq] at hqn; omega
      refine rside_s o rd w hqn hn.2 hl (by omega) fun H' st2 Ks2 c3 hc3 w2 hs => ⟨_, rfl, cond_no rfl ⟨n - (q + 1), by omega, q + 1, st2, Ks2, c3, by omega, rfl, by rw [wrap_i64 (by omega)]; omega, by omega, w2, ?_⟩⟩
      rcases hph with h1 | ⟨h1, h2⟩ | h1
      · left
        rcases hs with h3 | ⟨rfl, e2, _⟩
        · omega
        · rw [e2]; exact h1
      · rcases hs with h3 | ⟨rfl, e2, h3⟩
        · left; omega
        · right; left
          rw [e2]
          refine ⟨h1, fun i hi => ?_⟩
          by_cases e : i = q
          · subst e; exact h3
          · exact h2 i (by omega)
      · exact .inr (.inr (over_keep h1 hs))
    · have hqn : q = n := by simp only [decide_eq_false_iff_not] at hqn; omega
      subst hqn
      refine asBool_in ⟨60 * (tot ll + 1) - (j + 1), by omega, j + 1, st, Ks, c2, by omega, rfl, by rw [wrap_i64 (by omega)]; omega, by omega, w, ?_⟩
      rcases hph with h1 | ⟨_, h2⟩ | h1
      · exact .inl h1
      · exact .inr (Rr.over_of w.inv fun i hi => h2 i (by rw [w.inv.la] at hi; exact hi))
      · exact .inr h1
  · have hj2 : j = 60 * (tot ll + 1) := by simp only [decide_eq_false_iff_not] at hlt; omega
    have hov : Rr.Over (ll.map List.length) (Ks.map Ak.at_) st := by
      rcases hphi with h1 | h1
      · omega
      · exact h1
    refine asBool_in ?_
    refine use_crossbarlaw14_side_rest_2 (fun k' t2 t5 H' => ∃ (q : Nat), q ≤ n ∧ k' = n - q ∧ t5 = (q : Int) ∧ RS H0 s m x rr vo ab n N E d la ll H' st Ks c') n ⟨0, Nat.zero_le _, rfl, rfl, w6⟩ ?_
    clear w6
    rintro k' t2' t5 ys' H4 ⟨q, hq, rfl, rfl, w⟩
    obtain ⟨S, RB, qs, o1, hrb, hqs, hag, h⟩ := w.ex
    refine asAddr_in ⟨_, _, Sep.ld1 h rfl, cond_of (fun hqn => ?_) fun hqn => ?_⟩
    · have hqn : q < n := by simp only [decide_eq_true_eq] at hqn; omega
      obtain ⟨a, ha⟩ : ∃ a, Ks[q]? = some a := ⟨_, List.getElem?_eq_getElem (by rw [w.len]; exact hqn)⟩
      obtain ⟨l, hll⟩ : ∃ l, ll[q]? = some l := ⟨_, List.getElem?_eq_getElem (by omega)⟩
      obtain ⟨B, hB0⟩ : ∃ B, RB[q]? = some B := ⟨_, List.getElem?_eq_getElem (by omega)⟩
      obtain ⟨ho1, ho2⟩ := hov q (by rw [w.inv.la]; exact hqn)
      have hrun : a.run = none := hag q a none B ha ho1 hB0
      have hlen : (ll.map List.length).getD q 0 = l.length := by rw [List.getD_eq_getElem?_getD, List.getElem?_map, hll]; rfl
      have hats : (Ks.map Ak.at_).getD q 0 = a.at_ := by rw [List.getD_eq_getElem?_getD, List.getElem?_map, ha]; rfl
      rw [hlen, hats] at ho2
      have hw := ak_len Ks
      have hkc : q < (Ks.map Ak.cells).length := by simp [w.len]; exact hqn
      have hB := h.bump 28
      have w' : RS H0 s m x rr vo ab n N E d la ll (H4.bump 28) st Ks c' := ⟨w.len, w.inv, w.at_, w.bnd, S, RB, qs, o1, hrb, hqs, hag, hB⟩
      have hB' := hB
      rw [← ak_row ha] at hB'
      obtain ⟨i, a', n', rfl, e1, o'⟩ := o.at' hB (by simp) hll
      refine asAddr_in ⟨_, _, Sep.ld1 hB rfl, by unfold inB; omega, asRow_in ⟨a.run, rowld0 hB' 0 rfl hw rfl hkc rfl, cond_no (by rw [hrun]; rfl) (asAddr_in ⟨_, _, Sep.ld1 hB rfl, by unfold inB; omega, asRow_in ⟨(a.at_ : Int), rowld hB' 0 rfl hw rfl hkc rfl, asAddr_in ⟨_, _, Sep.ld1 hB rfl, by unfold inB; omega, asRow_in ⟨_, _, e1, cond_no ?_ ⟨n - (q + 1), by omega, q + 1, by omega, rfl, by rw [wrap_i64 (by omega)]; omega, w'⟩, trivial⟩⟩⟩⟩)⟩⟩
      rw [o'.len, decide_eq_false_iff_not]; omega
    · exact asBool_in (hR H4)

theorem RecordRuns_ok {pa : Option Addr} {pn : Nat} {l : List Int} (o : OpsLL H0 la n ll) (hl : ∀ l ∈ ll, l.length ≤ Bz) (hp : OldS H0 pa pn (l.map fun v => [I v])) : CA en F.crossbarlaw14_RecordRuns [d.val, .slice la n 0, .slice pa pn 0] H0 fun v _ => v = .bool true := by
  apply vc_crossbarlaw14_RecordRuns
  have hln := o.len
  have hpn := hp.len
  rw [List.length_map] at hpn
  refine Sep.nw (Sep.start H0) fun i1 H2 h2 => ⟨_, _, _, _, _, Sep.lds0 h2 rfl, fits_s h2 fun H9 h9 => ⟨_, rfl, cond_of (fun z => CA_truth (by kernel_rfl) ⟨_, rfl, rfl⟩) fun z => ?_⟩⟩
  have z : chks [d] = 0 ∧ d.kind = 3 := by simpa using z
  refine big_s o hl h9 (by simp) (fun H15 h15 => ⟨_, rfl, cond_yes rfl (CA_truth (by kernel_rfl) ⟨_, rfl, rfl⟩)⟩) fun hn ht hpl H15 h15 => ⟨_, rfl, cond_no rfl ⟨_, _, _, _, _, Sep.lds0 h15 rfl, ?_⟩⟩
  have hl2 : ∀ l ∈ ll, l.length ≤ 1000 := fun l hm => by have := len_le_tot hm; omega
  obtain ⟨N, E, rd⟩ := rd_of z.1 z.2
  refine start_s (ll := ll) h15.tail rd z.1 hn fun H26 s m x rr vo ab w => ⟨_, rfl, cond_no rfl ?_⟩
  have hph := phi0 (N := N) (E := E) (ll := ll) (n := n) hln.symm hn.2
  refine use_crossbarlaw14_RecordRuns_0 (fun k t6 t8 H' => ∃ (j : Nat) (st : Rr.St) (Ks : List Ak) (c' : Int), j ≤ pn ∧ k = pn - j ∧ t8 = (j : Int) ∧ c' ≤ j ∧ RS H0 s m x rr vo ab n N E d la ll H' st Ks c' ∧ Rr.Phi N (ll.map List.length) (Ks.map Ak.at_) st ≤ 60 * tot ll) pn ⟨0, _, _, 0, Nat.zero_le _, rfl, rfl, by omega, w, hph⟩ ?_
  clear w hph
  rintro k t6 t8 ys H3 ⟨j, st, Ks, c', hj, rfl, rfl, hc', w, hph⟩
  refine cond_of (fun hlt => ?_) fun hlt => ?_
  · have hlt : j < pn := by simp only [decide_eq_true_eq] at hlt; omega
    obtain ⟨S, RB, qs, o1, hrb, hqs, hag, h⟩ := w.ex
    obtain ⟨v, hv⟩ : ∃ v, l[j]? = some v := ⟨_, List.getElem?_eq_getElem (by omega)⟩
    obtain ⟨i, rfl, e1⟩ := hp.cell0 (w := 1) h (by simp) (fun c hc => by obtain ⟨v, _, rfl⟩ := List.mem_map.1 hc; rfl) (j := j) (r := [I v]) (by rw [List.getElem?_map, hv]; rfl) rfl
    refine ⟨by unfold inB; omega, asRow_in ⟨_, e1, Pick_ok (by omega) (by omega) ⟨_, rfl, ?_⟩⟩⟩
    have q1 := Int.emod_nonneg v (b := (n : Int)) (by omega)
    have q2 := Int.emod_lt_of_pos v (b := (n : Int)) (by omega)
    obtain ⟨q, hq⟩ : ∃ q : Nat, v % (n : Int) = (q : Int) := ⟨(v % (n : Int)).toNat, by omega⟩
    rw [hq]
    refine rside_s o rd w (k := q) (by omega) hn.2 hl2 (by omega) fun H' st2 Ks2 c3 hc3 w2 hs => ⟨_, rfl, cond_no rfl ⟨pn - (j + 1), by omega, j + 1, st2, Ks2, c3, by omega, rfl, by rw [wrap_i64 (by omega)]; omega, by omega, w2, ?_⟩⟩
    rcases hs with h3 | ⟨rfl, e2, _⟩
    · omega
    · rw [e2]; exact hph
  · exact asBool_in (rest_s o rd w hn ht (by omega) hph fun H' => ⟨_, rfl, cond_yes rfl (CA_truth (by kernel_rfl) ⟨_, rfl, rfl⟩)⟩)

theorem RecordRuns_law (H : Heap) (us : List Value) (h : shzVs en H 7 T.RecordRuns us) : CA en F.crossbarlaw14_RecordRuns us H fun v _ => v = .bool true := by
  obtain ⟨_, _, rfl, ⟨l3, rfl, _, _, rfl, ⟨n1, rfl, _⟩, _, _, rfl, ⟨n2, rfl, _⟩, _, _, rfl, ⟨n3, rfl, _⟩, _, _, rfl, ⟨n4, rfl, _⟩, _, _, rfl, ⟨n5, rfl, _⟩, rfl⟩, v2, _, rfl, hA, v3, _, rfl, hB, rfl⟩ := args_RecordRuns h
  obtain ⟨ll, la, n, e1, o, hl, _⟩ := opsLL_of (H0 := H) (c := [v2]) hA
  obtain rfl := (List.cons.inj e1).1
  obtain ⟨pa, pn, css, e2, hp, hc, _⟩ := OldZ.of (H0 := H) (c := [v3]) (P := fun c => ∃ n : Int, c = [.int .i64 n] ∧ (Lit.int .i64 n).wf = true) hB
  obtain rfl := (List.cons.inj e2).1
  obtain ⟨l, rfl⟩ := numbers_of css hc
  exact RecordRuns_ok (d := ⟨n1, n2, n3, n4, n5⟩) o hl hp
end Go.Proofs.Ytgpacebjbdhphaa
