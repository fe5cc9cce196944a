/-
  Where instructions go on: the document's functions; lent lists.
-/
import Derived.Test.YtmgkngdbphkmmaaDoorFlowPlaces
import Derived.Test.YtmgkngdbphkmmaaDoorVcFT
namespace Go.Proofs.YtmgkngdbphkmmaaDoor
open Go Go.AS Go.RowKit
set_option linter.unusedVariables false
variable {H H' : Heap} {R : Value → Heap → Prop} {L M : List Asr} {a b ta : Option Addr} {l m : List Ins} {s t ps : List Int} {x : Ins} {v w : Int} {i j k n : Nat} {seen s0 : List Bool}

theorem JumpsR_s (h : Sep H L) (hx : OkI x) (hR : ∀ H', Sep H' L → R (.bool (jmp x)) H') : CA en F.crossbarref06_Jumps [x.val] H R := by
  apply vc_crossbarref06_Jumps
  refine Sep.nw h fun i1 H2 h2 => ⟨_, Sep.ld0 h2 rfl, by unfold nz; decide, ?_⟩
  have e0 : Int.tmod x.op 8 = x.op % 8 := by rw [Int.tmod_eq_emod_of_nonneg hx.1]
  have hr := hR H2 h2.tail
  have ans : ∀ b : Bool, b = jmp x → R (.bool b) H2 := fun b e => e ▸ hr
  rw [e0]
  refine cond_of (fun c => ?_) fun c => ⟨_, Sep.ld0 h2 rfl, by unfold nz; decide, ?_⟩
  · have c : x.op % 8 = 5 := by simpa using c
    refine ⟨_, Sep.ld0 h2 rfl, cond_of (fun e => ⟨_, Sep.ld0 h2 rfl, ans _ ?_⟩) fun e => ans _ ?_⟩
    · have e : ¬ x.op = 133 := by simpa using e
      unfold jmp
      rw [Bool.eq_iff_iff]
      simp [c, e]
    · have e : x.op = 133 := by simpa using e
      unfold jmp
      rw [Bool.eq_iff_iff]
      simp [e]
  · have c : ¬ x.op % 8 = 5 := by simpa using c
    rw [e0]
    refine cond_of (fun d => ?_) fun d => ?_
    · have d : x.op % 8 = 6 := by simpa using d
      refine ⟨_, Sep.ld0 h2 rfl, cond_of (fun e => ⟨_, Sep.ld0 h2 rfl, ans _ ?_⟩) fun e => ans _ ?_⟩
      · have e : ¬ x.op = 133 := by simpa using e
        unfold jmp
        rw [Bool.eq_iff_iff]
        simp [d, e]
      · have e : x.op = 133 := by simpa using e
        unfold jmp
        rw [Bool.eq_iff_iff]
        simp [e]
    · have d : ¬ x.op % 8 = 6 := by simpa using d
      refine ans _ ?_
      unfold jmp
      rw [Bool.eq_iff_iff]
      simp [c, d]

theorem Place_s {n : Nat} (h : Sep H L) (rl : Rds L a l) (hn : n = l.length) (hi : i ≤ l.length) (hl : l.length < 1000000) (hR : R (I (pl l i)) H) : CA en F.crossbarref06_Place [.slice a n 0, I i] H R := by
  subst hn
  apply vc_crossbarref06_Place
  refine use_crossbarref06_Place_0 (fun k t5 t6 H' => ∃ j : Nat, j ≤ i ∧ k = i - j ∧ t6 = (j : Int) ∧ t5 = (pl l j : Int) ∧ H' = H) i ⟨0, by omega, rfl, rfl, rfl, rfl⟩ ?_
  rintro k t5 t6 ys H3 ⟨j, hj, rfl, rfl, rfl, rfl⟩
  refine cond_of (fun h1 => ?_) fun h1 => ?_
  · have hj' : j < i := by simp only [decide_eq_true_eq] at h1; omega
    obtain ⟨x, hx⟩ : ∃ x, l[j]? = some x := ⟨_, List.getElem?_eq_getElem (by omega)⟩
    obtain ⟨bi, hbi, ho, _, _⟩ := rl.op h hx
    have hle := pl_le l j
    have hps := pl_succ hx
    have hw1 : IntKind.i64.wrap ((j : Int) + 1) = ((j + 1 : Nat) : Int) := by rw [wrap_i64 (by omega)]; omega
    rw [hbi]
    refine ⟨by unfold inB; omega, asRow_in ⟨_, ho, cond_of (fun e => ?_) fun e => ?_⟩⟩
    · have e : x.op = 24 := by simpa using e
      have ew : wid x = 2 := if_pos e
      refine ⟨i - (j + 1), by omega, j + 1, by omega, rfl, hw1, ?_, rfl⟩
      rw [wrap_i64 (n := (pl l j : Int) + 1) (by omega), wrap_i64 (by omega), hps, ew]; omega
    · have e : ¬ x.op = 24 := by simpa using e
      have ew : wid x = 1 := if_neg e
      refine ⟨i - (j + 1), by omega, j + 1, by omega, rfl, hw1, ?_, rfl⟩
      rw [wrap_i64 (by omega), hps, ew]; omega
  · obtain rfl : j = i := by simp only [decide_eq_false_iff_not] at h1; omega
    exact asInt_in hR

theorem PlacesR_s {n : Nat} (h : Sep H L) (rl : Rds L a l) (hn : n = l.length) (hl : l.length < 1000000) (hR : ∀ H' q, (q = none → plE l = []) → Sep H' (gl 1 q (ints (plE l)) :: L) → R (.slice (addr q) l.length 0) H') :
    CA en F.crossbarref06_Places [.slice a n 0] H R := by
  subst hn
  apply vc_crossbarref06_Places
  refine use_crossbarref06_Places_0 (fun k t3 t3l t4 H => ∃ (j : Nat) (q : Option Nat), j ≤ l.length ∧ k = l.length - j ∧ t4 = (j : Int) ∧ t3 = addr q ∧ t3l = j ∧ (q = none → j = 0) ∧ Sep H (gl 1 q (ints ((plE l).take j)) :: L)) l.length ⟨0, none, by omega, rfl, rfl, rfl, rfl, fun _ => rfl, gl_none.2 h⟩ ?_
  clear h
  rintro k t3 t3l t4 ys H3 ⟨j, q, hj, rfl, rfl, rfl, rfl, hq, hs⟩
  refine cond_of (fun h1 => ?_) fun h1 => ?_
  · have hj' : t3l < l.length := by simp only [decide_eq_true_eq] at h1; omega
    have hw1 : IntKind.i64.wrap ((t3l : Int) + 1) = ((t3l + 1 : Nat) : Int) := by rw [wrap_i64 (by omega)]; omega
    refine Place_s hs (fun H' hs => rl H' hs.tail) rfl (by omega) hl ⟨_, rfl, Sep.nw hs fun i4 H5 h5 => ⟨[I (pl l t3l)], rowOf_bx (es := 1) (n := 1) (b := i4) (Sep.get0 h5) (by decide) rfl, ?_⟩⟩
    refine apd_gl (b := q) (len := t3l) (n := 1) (cs := ints ((plE l).take t3l)) (new := [I (pl l t3l)]) (Sep.up1 h5) (fun h => by rw [hq h]; rfl) (by decide) (by rw [List.length_map, List.length_take, plE_len]; omega) (by decide) rfl (by omega) fun H' q' h' => ⟨l.length - (t3l + 1), by omega, t3l + 1, some q', by omega, rfl, hw1, rfl, rfl, (fun h => by cases h), ?_⟩
    rw [plE_take hj', ints_append]
    exact Sep.rm1 h'
  · obtain rfl : t3l = l.length := by simp only [decide_eq_false_iff_not] at h1; omega
    rw [← plE_len l, List.take_length] at hs
    exact asSl_in (hR H3 q (fun h => List.eq_nil_of_length_eq_zero (by rw [plE_len]; exact hq h)) hs)

def tgR (l : List Ins) (i : Nat) (x : Ins) : Int := match fnd l (pl l i + 1 + x.off) with | some k => (k : Int) | none => -1

theorem Target_s {n : Nat} (h : Sep H L) (rl : Rds L a l) (hn : n = l.length) (hl : l.length < 1000000) (hx : l[i]? = some x) (ox : OkI x) (hR : ∀ H', Sep H' L → R (I (tgR l i x)) H') : CA en F.crossbarref06_Target [.slice a n 0, I i] H R := by
  subst hn
  have hi := (List.getElem?_eq_some_iff.1 hx).1
  apply vc_crossbarref06_Target
  have hB := h.bump 11
  obtain ⟨bi, hbi, _, hoff, _⟩ := rl.op hB hx
  have hle := pl_le l i
  have ho := ox.2.2
  rw [hbi]
  refine Place_s hB (hbi ▸ rl) rfl (by omega) hl ⟨_, rfl, by unfold inB; omega, asRow_in ⟨x.off, hoff, ⟨?_, ⟨⟨_, hoff, rfl⟩, ⟨_, hoff, rfl⟩, trivial⟩, trivial⟩⟩⟩
  rw [wrap_i64 (n := (pl l i : Int) + 1) (by omega), wrap_i64 (by omega)]
  refine use_crossbarref06_Target_0 (fun k t4 t6 H' => ∃ j : Nat, j ≤ l.length ∧ k = l.length - j ∧ t6 = (j : Int) ∧ (∀ c : Nat, c < j → (pl l c : Int) ≠ pl l i + 1 + x.off) ∧ H' = H.bump 11) l.length ⟨0, by omega, rfl, rfl, fun c h => absurd h (by omega), rfl⟩ ?_
  rintro k t4 t6 ys H3 ⟨j, hj, rfl, rfl, hall, rfl⟩
  refine cond_of (fun h1 => ?_) fun h1 => ?_
  · have hj' : j < l.length := by simp only [decide_eq_true_eq] at h1; omega
    refine Place_s hB (hbi ▸ rl) rfl (by omega) hl ⟨_, rfl, cond_of (fun e => ?_) fun e => ?_⟩
    · have e : (pl l j : Int) = pl l i + 1 + x.off := by simpa using e
      have := hR _ hB
      unfold tgR at this
      rw [fnd_of hj' e] at this
      exact asInt_in this
    · have e : ¬ (pl l j : Int) = pl l i + 1 + x.off := by simpa using e
      refine ⟨l.length - (j + 1), by omega, j + 1, by omega, rfl, ?_, fun c hc => ?_, rfl⟩
      · rw [wrap_i64 (by omega)]; omega
      · rcases Nat.lt_or_ge c j with h3 | h3
        · exact hall c h3
        · obtain rfl : c = j := by omega
          exact e
  · obtain rfl : j = l.length := by simp only [decide_eq_false_iff_not] at h1; omega
    have hf : fnd l (pl l i + 1 + x.off) = none := by
      cases hf : fnd l (pl l i + 1 + x.off) with
      | none => rfl
      | some c => exact absurd (fnd_some hf).2 (hall c (fnd_some hf).1)
    have := hR _ hB
    unfold tgR at this
    rw [hf] at this
    exact asInt_in this

theorem NextR_s {n m : Nat} (h : Sep H L) (rl : Rds L a l) (rt : RdN L ta t) (hn : n = l.length) (hm : m = t.length) (hx : l[i]? = some x) (hv : t[i]? = some v) (hi : i < 1000000)
    (hR : ∀ H' q, (q = none → nx x v i = []) → Sep H' (gl 1 q (ints (nx x v i)) :: L) → R (.slice (addr q) (nx x v i).length 0) H') :
    CA en F.crossbarref06_Next [.slice a n 0, .slice ta m 0, I i] H R := by
  subst hn hm
  apply vc_crossbarref06_Next
  have hil : i < l.length := (List.getElem?_eq_some_iff.1 hx).1
  have hit : i < t.length := (List.getElem?_eq_some_iff.1 hv).1
  obtain ⟨b, rfl, ho, _, _⟩ := rl.op h hx
  have inl : inB (i : Int) l.length := by unfold inB; omega
  have int : inB (i : Int) t.length := by unfold inB; omega
  have hB := h.bump 20
  -- nothing behind
  have none' : beh x i = -1 → inB (i : Int) t.length ∧ asRow ta fun i40 i41 => ∃ n42, (H.bump 20).cell i40 (i41 + ((i : Int).toNat * 1)) = some (I n42) ∧ (bif (decide (n42 ≥ 0)) then ((inB (i : Int) t.length ∧ asRow ta fun i43 i44 => ∃ n45, (H.bump 20).cell i43 (i44 + ((i : Int).toNat * 1)) = some (I n45) ∧ nwH (H.bump 20) (.cells true 1 [(I n45)]) fun i46 H47 => ∃ l48, rowOf H47 1 (some ⟨i46, 0, none⟩) 1 = some l48 ∧ apd H47 8 1 none 0 1 l48 fun a49 i50 H51 => R (.slice a49 i50 0) H51) ∧ True) else (R (.slice none 0 0) (H.bump 20) ∧ True)) := by
    intro e
    obtain ⟨b2, rfl, hv2⟩ := rt _ hB i v hv
    have enx : nx x v i = gat [-1, v] := by unfold nx; rw [e]
    rw [gat_two, if_neg (by decide)] at enx
    refine ⟨int, asRow_in ⟨v, hv2, cond_of (fun c => ⟨?_, trivial⟩) fun c => ⟨?_, trivial⟩⟩⟩
    · have c : v ≥ 0 := by simpa using c
      rw [if_pos c] at enx
      refine ⟨int, asRow_in ⟨v, hv2, Sep.nw hB fun i46 H47 h47 => ⟨[I v], rowOf_bx (es := 1) (n := 1) (b := i46) (Sep.get0 h47) (by decide) rfl, ?_⟩⟩⟩
      refine apd_gl (b := none) (len := 0) (n := 1) (cs := []) (new := [I v]) (gl_none.2 h47) (fun _ => rfl) (by decide) rfl (by decide) rfl (by decide) fun H' q' h' => ?_
      have := hR H' (some q') (fun h => by cases h) (by rw [enx]; exact Sep.rm1 h')
      rw [enx] at this
      exact this
    · have c : ¬ v ≥ 0 := by simpa using c
      rw [if_neg c] at enx
      have := hR (H.bump 20) none (fun _ => enx) (gl_none.2 hB)
      rw [enx] at this
      exact this
  refine ⟨inl, asRow_in ⟨_, ho, cond_of (fun c => ⟨inl, asRow_in ⟨_, ho, cond_of (fun d => ?_) fun d => ?_⟩⟩) fun c => ?_⟩⟩
  · have c : ¬ x.op = 149 := by simpa using c
    have d : ¬ x.op = 5 := by simpa using d
    have e : beh x i = (i : Int) + 1 := if_neg (by omega)
    have enx : nx x v i = gat [(i : Int) + 1, v] := by unfold nx; rw [e]
    rw [gat_two, if_pos (by omega)] at enx
    rw [wrap_i64 (by omega)]
    refine Sep.nw h fun i7 H8 h8 => ⟨[I ((i : Int) + 1)], rowOf_bx (es := 1) (n := 1) (b := i7) (Sep.get0 h8) (by decide) rfl, ?_⟩
    refine apd_gl (b := none) (len := 0) (n := 1) (cs := []) (new := [I ((i : Int) + 1)]) (gl_none.2 h8) (fun _ => rfl) (by decide) rfl (by decide) rfl (by decide) fun H12 q h12 => ?_
    have h12 : Sep (H12.bump 20) (gl 1 (some q) [I ((i : Int) + 1)] :: L) := (Sep.rm1 h12).bump 20
    obtain ⟨b2, rfl, hv2⟩ := rt _ h12.tail i v hv
    refine ⟨int, asRow_in ⟨v, hv2, cond_of (fun f => ?_) fun f => ?_⟩⟩
    · have f : v ≥ 0 := by simpa using f
      refine cond_no rfl ⟨by unfold inB; decide, asRow_in ⟨_, Sep.ld0 (gl_some.1 h12) rfl, int, asRow_in ⟨v, hv2, ⟨cond_of (fun g => ?_) fun g => ?_, trivial⟩⟩⟩⟩
      · have g : ¬ (i : Int) + 1 = v := by simpa using g
        rw [if_pos ⟨f, fun h => g h.symm⟩] at enx
        refine ⟨int, asRow_in ⟨v, hv2, Sep.nw h12 fun i34 H35 h35 => ⟨[I v], rowOf_bx (es := 1) (n := 1) (b := i34) (Sep.get0 h35) (by decide) rfl, ?_⟩⟩⟩
        refine apd_gl (b := some q) (len := 1) (n := 1) (cs := [I ((i : Int) + 1)]) (new := [I v]) (Sep.up1 h35) (fun h => by cases h) (by decide) rfl (by decide) rfl (by decide) fun H' q' h' => ?_
        have := hR H' (some q') (fun h => by cases h) (by rw [enx]; exact Sep.rm1 h')
        rw [enx] at this
        exact this
      · have g : (i : Int) + 1 = v := by simpa using g
        rw [if_neg (fun h => h.2 g.symm)] at enx
        have := hR _ (some q) (fun h => by cases h) (by rw [enx]; exact h12)
        rw [enx] at this
        exact this
    · have f : ¬ v ≥ 0 := by simpa using f
      rw [if_neg (fun h => f h.1)] at enx
      refine ⟨?_, trivial⟩
      have := hR _ (some q) (fun h => by cases h) (by rw [enx]; exact h12)
      rw [enx] at this
      exact this
  · have d : x.op = 5 := by simpa using d
    exact none' (if_pos (.inr d))
  · have c : x.op = 149 := by simpa using c
    exact none' (if_pos (.inl c))

/-! ### The document's search -/
structure Grw (l : List Ins) (s0 seen : List Bool) : Prop where
  len : seen.length = l.length
  mono : ∀ k : Nat, s0[k]? = some true → seen[k]? = some true
  sr : ∀ k : Nat, seen[k]? = some true → Rch l k
  same : (∀ i, s0[i]? = some true → ∀ j ∈ nxN l i, s0[j]? = some true) → seen = s0
def Closed (l : List Ins) (s : List Bool) : Prop := ∀ i, s[i]? = some true → ∀ j ∈ nxN l i, s[j]? = some true

theorem unseen_le : ∀ {s0 s : List Bool}, s.length = s0.length → (∀ k : Nat, s0[k]? = some true → s[k]? = some true) → unseen s ≤ unseen s0
  | [], [], _, _ => Nat.le_refl _
  | [], _ :: _, h, _ => by simp at h
  | _ :: _, [], h, _ => by simp at h
  | b :: s0, c :: s, h, hm => by
    have ih := unseen_le (s0 := s0) (s := s) (by simpa using h) fun k hk => by have := hm (k + 1) (by simpa using hk); simpa using this
    have h0 := hm 0
    unfold unseen at ih ⊢
    rw [List.count_cons, List.count_cons]
    cases b <;> cases c <;> simp at h0 ⊢ <;> omega
theorem unseen_lt : ∀ {s0 s : List Bool} {j : Nat}, s.length = s0.length → (∀ k : Nat, s0[k]? = some true → s[k]? = some true) → s[j]? = some true → s0[j]? = some false → unseen s < unseen s0
  | [], _, j, _, _, _, h => by simp at h
  | _ :: _, [], j, h, _, _, _ => by simp at h
  | b :: s0, c :: s, 0, h, hm, h1, h2 => by
    have ih := unseen_le (s0 := s0) (s := s) (by simpa using h) fun k hk => by have := hm (k + 1) (by simpa using hk); simpa using this
    simp at h1 h2
    subst h1 h2
    unfold unseen at ih ⊢
    rw [List.count_cons, List.count_cons]
    simp; omega
  | b :: s0, c :: s, j + 1, h, hm, h1, h2 => by
    have ih := unseen_lt (s0 := s0) (s := s) (j := j) (by simpa using h) (fun k hk => by have := hm (k + 1) (by simpa using hk); simpa using this) (by simpa using h1) (by simpa using h2)
    have h0 := hm 0
    unfold unseen at ih ⊢
    rw [List.count_cons, List.count_cons]
    cases b <;> cases c <;> simp at h0 ⊢ <;> omega

theorem Grw.refl (hl : seen.length = l.length) (hr : ∀ k : Nat, seen[k]? = some true → Rch l k) : Grw l seen seen := ⟨hl, fun k h => h, hr, fun _ => rfl⟩
theorem Grw.set (h : Grw l s0 seen) (hi : seen[i]? = some true) (hj : j ∈ nxN l i) (hjl : j < l.length) : Grw l s0 (seen.set j true) := by
  have hlt : j < seen.length := by rw [h.len]; exact hjl
  refine ⟨by simp [h.len], fun k hk => ?_, fun k hk => ?_, fun hc => ?_⟩
  · rw [get_set_b hlt]; split
    · rfl
    · exact h.mono k hk
  · rw [get_set_b hlt] at hk
    split at hk
    · rename_i e; subst e; exact .step (h.sr i hi) hj
    · exact h.sr k hk
  · have e := h.same hc
    rw [e] at hi
    have := hc i hi j hj
    rw [e]
    exact set_same this

theorem closed_rch (hc : Closed l seen) (h0 : seen[0]? = some true) (h : Rch l k) : seen[k]? = some true := by
  induction h with
  | zero => exact h0
  | step _ hj ih => exact hc _ ih _ hj

theorem Reached_s {n m : Nat} (h : Sep H L) (rl : Rds L a l) (rt : RdN L ta (tgs l)) (hn : n = l.length) (hm : m = l.length) (h0 : 0 < l.length) (hl : l.length ≤ 10000) (hlast : lastOk l)
    (hR : ∀ H' bs seen, seen.length = l.length → (∀ k : Nat, seen[k]? = some true ↔ Rch l k) → Sep H' (bx bs (.cells true 1 (bools seen)) :: L) → R (.slice (some ⟨bs, 0, none⟩) l.length 0) H') :
    CA en F.crossbarref06_Reached [.slice a n 0, .slice ta m 0] H R := by
  subst hn hm
  apply vc_crossbarref06_Reached
  refine ⟨by unfold okLen; omega, Sep.nw h fun bs H2 h2 => ⟨by unfold inB; omega, Sep.st0 h2 (by rw [Int.toNat_natCast, reps_bools]; simp; omega) fun H3 h3 => ?_⟩⟩
  rw [Int.toNat_natCast, reps_bools, set_one, bools_set] at h3
  have wrp : ∀ {n : Int}, -100000 ≤ n ∧ n ≤ 100000 → IntKind.i64.wrap n = n := fun h => wrap_i64 (by omega)
  have hg0 : ∀ k : Nat, ((List.replicate l.length false).set 0 true)[k]? = some true → k = 0 := by
    intro k hk
    rw [get_set_b (by simpa using h0)] at hk
    split at hk
    · assumption
    · rw [List.getElem?_replicate] at hk; split at hk <;> simp at hk
  have hu0 : unseen ((List.replicate l.length false).set 0 true) + 0 + 1 ≤ l.length := by
    have := unseen_set (s := List.replicate l.length false) (i := 0) (by rw [List.getElem?_replicate, if_pos h0])
    have e : unseen (List.replicate l.length false) = l.length := by simp [unseen]
    omega
  clear h h2
  refine use_crossbarref06_Reached_0 (fun k t6 H => ∃ (r : Nat) (seen : List Bool), r ≤ l.length ∧ k = l.length - r ∧ t6 = (r : Int) ∧ Grw l seen seen ∧ seen[0]? = some true ∧ (Closed l seen ∨ unseen seen + r + 1 ≤ l.length) ∧ Sep H (bx bs (.cells true 1 (bools seen)) :: L)) l.length
    ⟨0, _, by omega, rfl, rfl, Grw.refl (by simp) (fun k hk => by rw [hg0 k hk]; exact .zero), by rw [get_set_b (by simpa using h0), if_pos rfl], .inr hu0, h3⟩ ?_
  clear h3
  rintro k t6 ys H4 ⟨r, s0, hr, rfl, rfl, hG, hz, hdone, hs⟩
  refine cond_of (fun h1 => ?_) fun h1 => ?_
  · have hr' : r < l.length := by simp only [decide_eq_true_eq] at h1; omega
    refine use_crossbarref06_Reached_1 (fun k t7 H => ∃ (i : Nat) (seen : List Bool), i ≤ l.length ∧ k = l.length - i ∧ t7 = (i : Int) ∧ Grw l s0 seen ∧ (∀ m, m < i → s0[m]? = some true → ∀ j ∈ nxN l m, seen[j]? = some true) ∧ Sep H (bx bs (.cells true 1 (bools seen)) :: L)) l.length ⟨0, s0, by omega, rfl, rfl, hG, fun m h => absurd h (by omega), hs⟩ ?_
    clear hs h1
    rintro k t7 ys2 H5 ⟨i, seen, hi, rfl, rfl, hg, hall, hs⟩
    refine cond_of (fun h1 => ?_) fun h1 => ?_
    · have hi' : i < l.length := by simp only [decide_eq_true_eq] at h1; omega
      obtain ⟨x, hx⟩ : ∃ x, l[i]? = some x := ⟨_, List.getElem?_eq_getElem hi'⟩
      refine NextR_s (l := l) (t := tgs l) (v := tgA l i) hs (fun H' hs => rl H' hs.tail) (fun H' hs => rt H' hs.tail) rfl (tgs_len l).symm hx (tgs_get hi') (by omega) fun H6 qn hqn h6 => ⟨_, _, rfl, ?_⟩
      obtain ⟨e1, e2⟩ := nx_nats hx
      have hqn' : qn = none → nxN l i = [] := fun e => by
        have := hqn e
        rw [this] at e2
        exact List.eq_nil_of_length_eq_zero e2.symm
      rw [e1] at h6
      rw [e2]
      have hl2 := nxN_len l i
      clear hs
      refine use_crossbarref06_Reached_2 (fun k t9 H => ∃ (p : Nat) (seen : List Bool), p ≤ (nxN l i).length ∧ k = (nxN l i).length - p ∧ t9 = (p : Int) ∧ Grw l s0 seen ∧ (∀ m, m < i → s0[m]? = some true → ∀ j ∈ nxN l m, seen[j]? = some true) ∧ (∀ c ∈ (nxN l i).take p, seen[c]? = some true) ∧ Sep H (bx bs (.cells true 1 (bools seen)) :: gl 1 qn (nats (nxN l i)) :: L)) (nxN l i).length ⟨0, seen, by omega, rfl, rfl, hg, hall, by simp, Sep.up1 h6⟩ ?_
      clear h6 hg hall h1
      rintro k t9 ys3 H7 ⟨p, seen, hp, rfl, rfl, hg, hall, hdn, hs⟩
      have hsl : i < seen.length := by rw [hg.len]; exact hi'
      obtain ⟨s1, hs1⟩ : ∃ s1, seen[i]? = some s1 := ⟨_, List.getElem?_eq_getElem hsl⟩
      have fin : (∀ j ∈ nxN l i, s0[i]? = some true → seen[j]? = some true) → ∃ k, k < l.length - i ∧ ∃ (i2 : Nat) (seen : List Bool), i2 ≤ l.length ∧ k = l.length - i2 ∧ IntKind.i64.wrap ((i : Int) + 1) = (i2 : Int) ∧ Grw l s0 seen ∧ (∀ m, m < i2 → s0[m]? = some true → ∀ j ∈ nxN l m, seen[j]? = some true) ∧ AS.Sep H7 (bx bs (.cells true 1 (bools seen)) :: L) := by
        intro hi2
        refine ⟨l.length - (i + 1), by omega, i + 1, seen, by omega, rfl, by rw [wrp (by omega)]; omega, hg, fun m hm hs0 j hj => ?_, Sep.rm1 hs⟩
        rcases Nat.lt_or_ge m i with h3 | h3
        · exact hall m h3 hs0 j hj
        · obtain rfl : m = i := by omega
          exact hi2 j hj hs0
      refine cond_of (fun h1 => ?_) fun h1 => ?_
      · have hp' : p < (nxN l i).length := by simp only [decide_eq_true_eq] at h1; omega
        refine ⟨by unfold inB; omega, s1, Sep.ld0 hs (by rw [Nat.zero_add, Int.toNat_natCast, Nat.mul_one, List.getElem?_map, hs1]; rfl), cond_of (fun d => ?_) fun d => ?_⟩
        · have d : s1 = true := d
          subst d
          obtain ⟨c, hc⟩ : ∃ c, (nxN l i)[p]? = some c := ⟨_, List.getElem?_eq_getElem hp'⟩
          have hcl := nxN_lt hlast (List.mem_of_getElem? hc)
          have hrn : RdN (bx bs (.cells true 1 (bools seen)) :: gl 1 qn (nats (nxN l i)) :: L) (addr qn) ((nxN l i).map fun n : Nat => (n : Int)) := rdn_gl (by simp) (fun e => by rw [hqn' e]; rfl)
          have hc' : ((nxN l i).map fun n : Nat => (n : Int))[p]? = some (c : Int) := by rw [List.getElem?_map, hc]; rfl
          obtain ⟨b1, hb1, c1⟩ := hrn _ hs p _ hc'
          rw [hb1]
          have hg2 := hg.set hs1 (List.mem_of_getElem? hc) hcl
          have hcs : c < seen.length := by rw [hg.len]; exact hcl
          refine ⟨by unfold inB; omega, asRow_in ⟨_, c1, by unfold inB; omega, Sep.st0 hs (by rw [Int.toNat_natCast]; simp; omega) fun H8 h8 => ⟨(nxN l i).length - (p + 1), by omega, p + 1, seen.set c true, by omega, rfl, by rw [wrp (by omega)]; omega, hg2, fun m hm hs0 j hj => ?_, ?_, ?_⟩⟩⟩
          · rw [get_set_b hcs]; split
            · rfl
            · exact hall m hm hs0 j hj
          · rw [take_snoc' hc]
            intro k hk
            rw [get_set_b hcs]
            split
            · rfl
            · rename_i hne
              rcases List.mem_append.1 hk with hk | hk
              · exact hdn k hk
              · simp at hk; exact absurd hk hne
          · rw [Nat.zero_add, Int.toNat_natCast, Nat.mul_one, set_one, bools_set] at h8
            exact h8
        · have d : s1 = false := d
          subst d
          refine fin fun j hj hs0 => ?_
          have := hg.mono i hs0
          rw [hs1] at this; cases this
      · obtain rfl : p = (nxN l i).length := by simp only [decide_eq_false_iff_not] at h1; omega
        rw [List.take_length] at hdn
        exact fin fun j hj _ => hdn j hj
    · obtain rfl : i = l.length := by simp only [decide_eq_false_iff_not] at h1; omega
      refine ⟨l.length - (r + 1), by omega, r + 1, seen, by omega, rfl, by rw [wrp (by omega)]; omega, Grw.refl hg.len hg.sr, hg.mono 0 hz, ?_, hs⟩
      by_cases hc : Closed l s0
      · rw [hg.same hc]; exact .inl hc
      · right
        rcases hdone with hd | hd
        · exact absurd hd hc
        · have : ∃ i, s0[i]? = some true ∧ ∃ j, j ∈ nxN l i ∧ ¬ s0[j]? = some true := by
            refine Classical.byContradiction fun hn => hc fun i hi j hj => Classical.byContradiction fun hnj => hn ⟨i, hi, j, hj, hnj⟩
          obtain ⟨i, hi, j, hj, hnj⟩ := this
          have hil : i < l.length := by rw [← hG.len]; exact (List.getElem?_eq_some_iff.1 hi).1
          have hj2 := hall i hil hi j hj
          have hjl := nxN_lt hlast hj
          have hf : s0[j]? = some false := by
            obtain ⟨y, hy⟩ : ∃ y, s0[j]? = some y := ⟨_, List.getElem?_eq_getElem (by rw [hG.len]; exact hjl)⟩
            cases y with
            | true => exact absurd hy hnj
            | false => exact hy
          have := unseen_lt (by rw [hg.len, hG.len]) hg.mono hj2 hf
          omega
  · obtain rfl : r = l.length := by simp only [decide_eq_false_iff_not] at h1; omega
    have hc : Closed l s0 := by
      rcases hdone with hd | hd
      · exact hd
      · omega
    exact hR H4 bs s0 hG.len (fun k => ⟨hG.sr k, closed_rch hc hz⟩) hs
end Go.Proofs.YtmgkngdbphkmmaaDoor
