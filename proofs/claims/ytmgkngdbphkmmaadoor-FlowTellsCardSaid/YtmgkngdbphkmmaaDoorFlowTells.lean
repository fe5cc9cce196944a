/-
  'crossbarlaw06.FlowTells' returns true.
-/
import Derived.Test.YtmgkngdbphkmmaaDoorFlowRef
namespace Go.Proofs.YtmgkngdbphkmmaaDoor
open Go Go.AS Go.RowKit
set_option linter.unusedVariables false
variable {H H' : Heap} {R : Value → Heap → Prop} {L M : List Asr} {a b ta : Option Addr} {l m : List Ins} {s t ps : List Int} {x : Ins} {v w : Int} {i j k n q o : Nat} {seen s0 : List Bool}

theorem TargetsR_s {n : Nat} (h : Sep H L) (rl : Rds L a l) (hn : n = l.length) (hl : l.length < 1000000) (hok : ∀ x ∈ l, OkI x)
    (hE : fe l ≠ 0 → ∀ H', Sep H' L → R (.tuple #[.slice none 0 0, I (fe l)]) H')
    (hR : fe l = 0 → ∀ H' q, (q = none → tgs l = []) → Sep H' (gl 1 q (ints (tgs l)) :: L) → R (.tuple #[.slice (addr q) l.length 0, I 0]) H') :
    CA en F.crossbarref06_Targets [.slice a n 0] H R := by
  subst hn
  have err : ∀ (e : Int) (H' : Heap), fe l = e → e ≠ 0 → AS.Sep H' L → R (.tuple #[.slice none 0 0, I e]) H' := fun e H' he hne h' => by
    have := hE (by rw [he]; exact hne) H' h'
    rw [he] at this
    exact this
  apply vc_crossbarref06_Targets
  refine cond_of (fun c => ?_) fun c => cond_of (fun d => ?_) fun d => ?_
  · have c : l.length > 256 := by simp only [decide_eq_true_eq] at c; omega
    exact err 19 H (if_pos c) (by decide) h
  · have c : ¬ l.length > 256 := by simp only [decide_eq_false_iff_not] at c; omega
    have d : l.length = 0 := by have : ((l.length : Nat) : Int) = 0 := by simpa using d
                                omega
    exact err 12 H (by unfold fe; rw [if_neg c, if_pos d]) (by decide) h
  have c : l.length ≤ 256 := by simp only [decide_eq_false_iff_not] at c; omega
  have d : l.length ≠ 0 := by intro e; rw [e] at d; simp at d
  refine use_crossbarref06_Targets_0 (fun k t2 t2l t3 t4 t4l t5 H => ∃ (j : Nat) (q : Option Nat), j ≤ l.length ∧ k = l.length - j ∧ t5 = (j : Int) ∧ t4 = addr q ∧ t4l = j ∧ (q = none → j = 0) ∧ (-2 : Int) ∉ (tgs l).take j ∧ Sep H (gl 1 q (ints ((tgs l).take j)) :: L)) l.length ⟨0, none, by omega, rfl, rfl, rfl, rfl, fun _ => rfl, by simp, gl_none.2 h⟩ ?_
  clear h
  rintro k t2 t2l t3 t4 t4l t5 ys H3 ⟨j, q, hj, rfl, rfl, rfl, rfl, hq, hno, hs⟩
  refine cond_of (fun h1 => ?_) fun h1 => ?_
  · have hj' : t4l < l.length := by simp only [decide_eq_true_eq] at h1; omega
    obtain ⟨x, hx⟩ : ∃ x, l[t4l]? = some x := ⟨_, List.getElem?_eq_getElem hj'⟩
    obtain ⟨i, hi, hc⟩ := rl _ hs.tail t4l x hx
    have hw1 : IntKind.i64.wrap ((t4l : Int) + 1) = ((t4l + 1 : Nat) : Int) := by rw [wrap_i64 (by omega)]; omega
    have ho := hok x (List.mem_of_getElem? hx)
    have hlen : (ints ((tgs l).take t4l)).length = t4l := by rw [List.length_map, List.length_take, tgs_len]; omega
    have next : ∀ (q' : Nat) (H' : Heap), tgA l t4l ≠ -2 → AS.Sep H' (gl 1 (some q') (ints ((tgs l).take t4l) ++ [I (tgA l t4l)]) :: L) → ∃ k, k < l.length - t4l ∧ ∃ (j : Nat) (q : Option Nat), j ≤ l.length ∧ k = l.length - j ∧ IntKind.i64.wrap ((t4l : Int) + 1) = (j : Int) ∧ addr (some q') = addr q ∧ t4l + 1 = j ∧ (q = none → j = 0) ∧ (-2 : Int) ∉ (tgs l).take j ∧ AS.Sep H' (gl 1 q (ints ((tgs l).take j)) :: L) := by
      intro q' H' hne h'
      refine ⟨l.length - (t4l + 1), by omega, t4l + 1, some q', by omega, rfl, hw1, rfl, rfl, (fun h => by cases h), ?_, ?_⟩
      · rw [tgs_take hj']
        simp only [List.mem_append, List.mem_singleton, not_or]
        exact ⟨hno, fun e => hne e.symm⟩
      · rw [tgs_take hj', ints_append]; exact h'
    rw [hi]
    refine ⟨by unfold inB; omega, asRow_in ⟨_, _, _, _, _, hc, JumpsR_s (x := x) hs ho fun H9 h9 => ⟨_, rfl, cond_of (fun hjm => ?_) fun hjm => ?_⟩⟩⟩
    · rw [← hi]
      refine Target_s h9 (fun H' hs => rl H' hs.tail) rfl hl hx ho fun H12 h12 => ⟨_, rfl, ?_⟩
      unfold tgR
      cases hf : fnd l (pl l t4l + 1 + x.off) with
      | none =>
        have htg := tgA_none hx hjm hf
        refine cond_yes (by simp) (asSl_in (asInt_in (asSl_in (err 11 _ (fe_jump c d ?_) (by decide) h12.tail))))
        have := List.mem_of_getElem? (tgs_get hj')
        rw [htg] at this
        exact this
      | some k =>
        have htg := tgA_some hx hjm hf
        refine cond_no (by simp) (Sep.nw h12 fun i14 H15 h15 => ⟨[I k], rowOf_bx (es := 1) (n := 1) (b := i14) (Sep.get0 h15) (by decide) rfl, ?_⟩)
        refine apd_gl (b := q) (len := t4l) (n := 1) (cs := ints ((tgs l).take t4l)) (new := [I k]) (Sep.up1 h15) (fun h => by rw [hq h]; rfl) (by decide) (by rw [hlen, Nat.mul_one]) (by decide) rfl (by omega) fun H' q' h' => next q' H' (by rw [htg]; omega) ?_
        rw [htg]
        exact Sep.rm1 h'
    · have htg : tgA l t4l = -1 := tgA_no hx (by rw [hjm]; decide)
      refine Sep.nw h9 fun i21 H22 h22 => ⟨[I (-1)], rowOf_bx (es := 1) (n := 1) (b := i21) (Sep.get0 h22) (by decide) rfl, ?_⟩
      refine apd_gl (b := q) (len := t4l) (n := 1) (cs := ints ((tgs l).take t4l)) (new := [I (-1)]) (Sep.up1 h22) (fun h => by rw [hq h]; rfl) (by decide) (by rw [hlen, Nat.mul_one]) (by decide) rfl (by omega) fun H' q' h' => next q' H' (by rw [htg]; omega) ?_
      rw [htg]
      exact Sep.rm1 h'
  · obtain rfl : t4l = l.length := by simp only [decide_eq_false_iff_not] at h1; omega
    rw [← tgs_len l, List.take_length] at hs hno
    have hq' : q = none → tgs l = [] := fun h => List.eq_nil_of_length_eq_zero (by rw [tgs_len]; exact hq h)
    obtain ⟨x, hx⟩ : ∃ x, l[l.length - 1]? = some x := ⟨_, List.getElem?_eq_getElem (by omega)⟩
    have hw : IntKind.i64.wrap (((l.length : Nat) : Int) - 1) = ((l.length - 1 : Nat) : Int) := by rw [wrap_i64 (by omega)]; omega
    obtain ⟨bi, hbi, hop, _, _⟩ := rl.op hs.tail hx
    refine asSl_in (asInt_in (asSl_in ?_))
    rw [hw, hbi]
    refine ⟨by unfold inB; omega, asRow_in ⟨_, hop, ?_⟩⟩
    rw [← hbi]
    have fin : lastOk l → CA en F.crossbarref06_Reached [.slice a l.length 0, .slice (addr q) l.length 0] H3 fun v11 H12 => ∃ bs seen, v11 = .slice (some ⟨bs, 0, none⟩) l.length 0 ∧ seen.length = l.length ∧ (∀ k : Nat, seen[k]? = some true ↔ Rch l k) ∧ AS.Sep H12 (bx bs (.cells true 1 (bools seen)) :: gl 1 q (ints (tgs l)) :: L) := fun hla =>
      Reached_s hs (fun H' hs => rl H' hs.tail) (rdn_gl (by simp) hq') rfl rfl (by omega) (by omega) hla fun H' bs seen h1 h2 h3 => ⟨bs, seen, rfl, h1, h2, h3⟩
    refine cond_of (fun e1 => cond_of (fun e2 => ?_) fun e2 => ?_) fun e1 => ?_
    · have e1 : ¬ x.op = 149 := by simpa using e1
      have e2 : ¬ x.op = 5 := by simpa using e2
      refine err 12 _ (fe_end c d hno fun h => ?_) (by decide) hs.tail
      have := h x hx
      omega
    all_goals
      have hla : lastOk l := by
        intro y hy
        rw [hx] at hy; cases hy
        first
          | exact .inl (by simpa using e1)
          | exact .inr (by simpa using e2)
      refine Reached_s hs (fun H' hs => rl H' hs.tail) (rdn_gl (by simp) hq') rfl rfl (by omega) (by omega) hla fun H12 bs seen hsl hrc h12 => ⟨_, _, rfl, ?_⟩
      refine use_crossbarref06_Targets_1 (fun k t2 t2l t3 t9 H => ∃ j : Nat, j ≤ l.length ∧ k = l.length - j ∧ t9 = (j : Int) ∧ (∀ c : Nat, c < j → Rch l c) ∧ H = H12) l.length ⟨0, by omega, rfl, rfl, fun c h => absurd h (by omega), rfl⟩ ?_
      rintro k t2 t2l t3 t9 ys2 H4 ⟨j, hj, rfl, rfl, hall, rfl⟩
      refine cond_of (fun g => ?_) fun g => ?_
      · have hj' : j < l.length := by simp only [decide_eq_true_eq] at g; omega
        obtain ⟨s1, hs1⟩ : ∃ s1, seen[j]? = some s1 := ⟨_, List.getElem?_eq_getElem (by omega)⟩
        refine ⟨by unfold inB; omega, asRow_in ⟨s1, Sep.ld0 h12 (by rw [Nat.zero_add, Int.toNat_natCast, Nat.mul_one, List.getElem?_map, hs1]; rfl), cond_of (fun f => ?_) fun f => ?_⟩⟩
        · have f : s1 = false := by simpa using f
          subst f
          refine asSl_in (asInt_in (err 13 _ (fe_dead c d hno hla fun ha => ?_) (by decide) h12.tail.tail))
          have := (hrc j).2 (ha j hj')
          rw [hs1] at this; cases this
        · have f : s1 = true := by simpa using f
          subst f
          refine ⟨l.length - (j + 1), by omega, j + 1, by omega, rfl, ?_, fun c hc => ?_, rfl⟩
          · rw [wrap_i64 (by omega)]; omega
          · rcases Nat.lt_or_ge c j with h3 | h3
            · exact hall c h3
            · obtain rfl : c = j := by omega
              exact (hrc _).1 hs1
      · obtain rfl : j = l.length := by simp only [decide_eq_false_iff_not] at g; omega
        exact asSl_in (asInt_in (hR (fe_zero.2 ⟨c, d, hno, hla, hall⟩) _ q hq' h12.tail))

/-! ### Lent lists -/
def mk (i : Nat) : Ins := ⟨-9 - i, 0, 0, 0, 0⟩
def mks (n : Nat) : List Ins := (List.range n).map mk
theorem mks_succ (n : Nat) : mks (n + 1) = mks n ++ [mk n] := by simp [mks, List.range_succ]
theorem mks_len (n : Nat) : (mks n).length = n := by simp [mks]

theorem mark_s (h : Sep H L) (hi : i < 1000) (hR : ∀ H', Sep H' L → R (mk i).val H') : CA en F.crossbarkit_markInsns [I i] H R := by
  apply vc_crossbarkit_markInsns
  rw [wrap_i64 (by omega)]
  exact Sep.nw h fun i1 H2 h2 => Sep.st0 h2 (Nat.le_of_ble_eq_true rfl) fun H3 h3 => ⟨_, _, _, _, _, Sep.lds0 h3 rfl, hR _ h3.tail⟩

theorem Lent_s {n : Nat} (h : Sep H L) (rl : Rds L a l) (hn : n = l.length) (hl : l.length < 1000000) (hR : ∀ H' q, Sep H' (gl 5 (some q) (flatI (l ++ mks 5)) :: L) → R (.slice (some ⟨q, 0, none⟩) (l.length + 5) 0) H') : CA en F.crossbarkit_LentInsns [.slice a n 0] H R := by
  subst hn
  apply vc_crossbarkit_LentInsns
  refine CopyInsns_s h rl (by omega) fun H2 q0 hq0 h2 => ⟨_, _, rfl, ?_⟩
  refine use_crossbarkit_LentInsns_0 (fun k t3 t3l t4 H => ∃ (j : Nat) (q : Option Nat), j ≤ 5 ∧ k = 5 - j ∧ t4 = (j : Int) ∧ t3 = addr q ∧ t3l = l.length + j ∧ (q = none → l ++ mks j = []) ∧ Sep H (gl 5 q (flatI (l ++ mks j)) :: L)) 5 ⟨0, q0, by omega, rfl, rfl, rfl, rfl, fun e => by rw [hq0 e]; rfl, by simpa [mks] using h2⟩ ?_
  clear h h2
  rintro k t3 t3l t4 ys H3 ⟨j, q, hj, rfl, rfl, rfl, rfl, hq, hs⟩
  refine cond_of (fun h1 => ?_) fun h1 => ?_
  · have hj' : j < 5 := by simp only [decide_eq_true_eq] at h1; omega
    refine mark_s hs (by omega) fun H5 h5 => ⟨_, _, _, _, _, rfl, Sep.nw h5 fun i8 H9 h9 => ⟨(mk j).cells, rowOf_bx (es := 5) (n := 1) (b := i8) (Sep.get0 h9) (by decide) rfl, ?_⟩⟩
    refine apd_gl (b := q) (len := l.length + j) (n := 1) (cs := flatI (l ++ mks j)) (new := (mk j).cells) (Sep.up1 h9) (fun h => by rw [hq h]; rfl) (by decide) (by rw [flatI_len, List.length_append, mks_len]) (by decide) rfl (by omega) fun H' q' h' => ⟨5 - (j + 1), by omega, j + 1, some q', by omega, rfl, ?_, rfl, rfl, (fun h => by cases h), ?_⟩
    · rw [wrap_i64 (by omega)]; omega
    · rw [mks_succ, ← List.append_assoc, flatI_snoc]
      exact Sep.rm1 h'
  · obtain rfl : j = 5 := by simp only [decide_eq_false_iff_not] at h1; omega
    cases q with
    | none =>
      have := congrArg List.length (hq rfl)
      rw [List.length_append, mks_len] at this
      simp at this
    | some q => exact asSl_in (hR H3 q hs)

/-- Where the instructions of a slice of a block lie. -/
def RdsO (L : List Asr) (q o : Nat) (l : List Ins) : Prop := ∀ H', Sep H' L → ∀ (j : Nat) x, l[j]? = some x → H'.cellsAt q (o + j * 5) 5 = some x.cells

theorem SameInsnsO_s (h : Sep H L) (ra : RdsO L q o l) (rb : Rds L b m) (hn : l.length < 1000000) (hm : n = m.length) (hR : ∀ H', Sep H' L → R (.bool (decide (l = m))) H') : CA en F.crossbarkit_SameInsns [.slice (some ⟨q, o, none⟩) l.length 0, .slice b n 0] H R := by
  subst hm
  apply vc_crossbarkit_SameInsns
  refine cond_of (fun hl => ?_) fun hl => ?_
  · have hl : l.length ≠ m.length := by intro e; rw [e] at hl; simp at hl
    have := hR H h
    rw [decide_eq_false (fun e => hl (by rw [e]))] at this
    exact this
  have hl : l.length = m.length := by
    have : ((l.length : Nat) : Int) = ((m.length : Nat) : Int) := by simpa using hl
    omega
  refine use_crossbarkit_SameInsns_0 (fun k _ t5 H => ∃ j : Nat, j ≤ l.length ∧ k = l.length - j ∧ t5 = (j : Int) ∧ l.take j = m.take j ∧ Sep H L) l.length ⟨0, by omega, rfl, rfl, by simp, h⟩ ?_
  clear h
  rintro k t4 t5 ys H3 ⟨j, hj, rfl, rfl, he, hs⟩
  refine cond_of (fun h1 => ?_) fun h1 => ?_
  · simp only [decide_eq_true_eq] at h1
    have hj' : j < l.length := by omega
    obtain ⟨x, hx⟩ : ∃ x, l[j]? = some x := ⟨_, List.getElem?_eq_getElem hj'⟩
    obtain ⟨y, hy⟩ : ∃ y, m[j]? = some y := ⟨_, List.getElem?_eq_getElem (by omega)⟩
    have hB := hs.bump 9
    have e1 := ra _ hB j x hx
    obtain ⟨i', rfl, e2⟩ := rb _ hB j y hy
    refine ⟨by unfold inB; omega, asRow_in ⟨_, _, _, _, _, e1, by unfold inB; omega, asRow_in ⟨_, _, _, _, _, e2, ⟨?_, trivial⟩⟩⟩⟩
    rw [ins_ext]
    refine cond_of (fun hne => ?_) fun hne => ?_
    · have hne : ¬ x = y := by simpa using hne
      have := hR _ hB
      rw [decide_eq_false (fun e => by rw [e, hy] at hx; exact hne (Option.some.inj hx).symm)] at this
      exact asBool_in this
    · have hne : x = y := by simpa using hne
      refine ⟨l.length - (j + 1), by omega, j + 1, by omega, rfl, ?_, ?_, hB⟩
      · rw [wrap_i64 (by omega)]; omega
      · rw [List.take_add_one, List.take_add_one, he, hx, hy, hne]
  · simp only [decide_eq_false_iff_not] at h1
    obtain rfl : j = l.length := by omega
    have e : l = m := by
      rw [List.take_length, List.take_of_length_le (by omega)] at he
      exact he
    have := hR H3 hs
    rw [decide_eq_true e] at this
    exact asBool_in this

theorem rds_pre {q : Nat} (hm : gl 5 (some q) (flatI (l ++ m)) ∈ L) : Rds L (some ⟨q, 0, none⟩) l := by
  have hr : Rds L (addr (some q)) (l ++ m) := rds_gl hm fun h => by cases h
  intro H' hs j x hx
  have hj := (List.getElem?_eq_some_iff.1 hx).1
  exact hr H' hs j x (by rw [List.getElem?_append_left hj]; exact hx)
theorem rdsO_suf {q : Nat} (hm : gl 5 (some q) (flatI (l ++ m)) ∈ L) : RdsO L q (0 + l.length * 5) m := by
  have hr : Rds L (addr (some q)) (l ++ m) := rds_gl hm fun h => by cases h
  intro H' hs j x hx
  obtain ⟨i, e, hc⟩ := hr H' hs (l.length + j) x (by rw [List.getElem?_append_right (by omega), show l.length + j - l.length = j by omega]; exact hx)
  cases e
  rw [show 0 + l.length * 5 + j * 5 = 0 + (l.length + j) * 5 by omega]
  exact hc

theorem Kept_s {n n2 q : Nat} (h : Sep H (gl 5 (some q) (flatI (l ++ mks 5)) :: L)) (rl : Rds L a l) (hn : n = l.length) (hn2 : n2 = l.length + 5) (hl : l.length < 1000000) (hR : ∀ H', Sep H' (gl 5 (some q) (flatI (l ++ mks 5)) :: L) → R (.bool true) H') : CA en F.crossbarkit_KeptInsns [.slice (some ⟨q, 0, none⟩) n2 0, .slice a n 0] H R := by
  subst hn hn2
  apply vc_crossbarkit_KeptInsns
  refine cond_no ?_ ⟨by unfold inS; omega, ⟨⟨_, _, _, gl_get h, .inr rfl⟩, ?_⟩⟩
  · rw [wrap_i64 (by omega)]; simp
  refine SameInsns_s (l := l) (m := l) h (rds_pre (m := mks 5) (by simp)) (fun H' hs => rl H' hs.tail) (by omega) fun H3 h3 => ⟨_, rfl, cond_no (by simp) ?_⟩
  refine use_crossbarkit_KeptInsns_0 (fun k t5 t5l t6 H => ∃ (j : Nat) (q2 : Option Nat), j ≤ 5 ∧ k = 5 - j ∧ t6 = (j : Int) ∧ t5 = addr q2 ∧ t5l = j ∧ (q2 = none → j = 0) ∧ Sep H (gl 5 q2 (flatI (mks j)) :: gl 5 (some q) (flatI (l ++ mks 5)) :: L)) 5 ⟨0, none, by omega, rfl, rfl, rfl, rfl, fun _ => rfl, gl_none.2 h3⟩ ?_
  clear h h3
  rintro k t5 t5l t6 ys H4 ⟨j, q2, hj, rfl, rfl, rfl, rfl, hq, hs⟩
  refine cond_of (fun h1 => ?_) fun h1 => ?_
  · have hj' : t5l < 5 := by simp only [decide_eq_true_eq] at h1; omega
    refine mark_s hs (by omega) fun H5 h5 => ⟨_, _, _, _, _, rfl, Sep.nw h5 fun i8 H9 h9 => ⟨(mk t5l).cells, rowOf_bx (es := 5) (n := 1) (b := i8) (Sep.get0 h9) (by decide) rfl, ?_⟩⟩
    refine apd_gl (b := q2) (len := t5l) (n := 1) (cs := flatI (mks t5l)) (new := (mk t5l).cells) (Sep.up1 h9) (fun h => by rw [hq h]; rfl) (by decide) (by rw [flatI_len, mks_len]) (by decide) rfl (by omega) fun H' q' h' => ⟨5 - (t5l + 1), by omega, t5l + 1, some q', by omega, rfl, ?_, rfl, rfl, (fun h => by cases h), ?_⟩
    · rw [wrap_i64 (by omega)]; omega
    · rw [mks_succ, flatI_snoc]
      exact Sep.rm1 h'
  · obtain rfl : t5l = 5 := by simp only [decide_eq_false_iff_not] at h1; omega
    refine asSl_in ⟨by unfold inS; omega, ⟨⟨_, _, _, gl_get (Sep.up1 hs), .inr rfl⟩, ?_⟩⟩
    have e5 : l.length + 5 - ((l.length : Nat) : Int).toNat = (mks 5).length := by rw [Int.toNat_natCast, mks_len]; omega
    rw [e5, Int.toNat_natCast]
    refine SameInsnsO_s (l := mks 5) (m := mks 5) hs (rdsO_suf (l := l) (by simp)) (rds_gl (by simp) fun e => absurd (hq e) (by decide)) (by rw [mks_len]; omega) (mks_len 5).symm fun H11 h11 => ⟨_, rfl, ?_⟩
    rw [decide_eq_true rfl]
    exact hR H11 h11.tail

theorem Spoil_s {n : Nat} {q : Option Nat} (h : Sep H (gl 1 q (ints t) :: L)) (hq : q = none → t = []) (hn : n = t.length) (hl : t.length < 1000000) (hR : ∀ H', Sep H' L → R undef H') : CA en F.crossbarkit_SpoilInts [.slice (addr q) n 0] H R := by
  subst hn
  apply vc_crossbarkit_SpoilInts
  refine use_crossbarkit_SpoilInts_0 (fun k t2 H => ∃ (j : Nat) (t' : List Int), j ≤ t.length ∧ k = t.length - j ∧ t2 = (j : Int) ∧ t'.length = t.length ∧ Sep H (gl 1 q (ints t') :: L)) t.length ⟨0, t, by omega, rfl, rfl, rfl, h⟩ ?_
  clear h
  rintro k t2 ys H3 ⟨j, t', hj, rfl, rfl, ht, hs⟩
  refine cond_of (fun h1 => ?_) fun h1 => ?_
  · have hj' : j < t.length := by simp only [decide_eq_true_eq] at h1; omega
    cases q with
    | none => rw [hq rfl] at hj'; simp at hj'
    | some q =>
      apply vc_crossbarkit_markInts
      refine ⟨_, rfl, by unfold inB; omega, asRow_in (Sep.st0 (gl_some.1 hs) (by rw [Int.toNat_natCast]; simp; omega) fun H6 h6 => ?_)⟩
      rw [Nat.zero_add, Int.toNat_natCast, Nat.mul_one, set_one] at h6
      have e : ∀ v : Int, (ints t').set j (I v) = ints (t'.set j v) := fun v => List.map_set.symm
      rw [e] at h6
      refine ⟨t.length - (j + 1), by omega, j + 1, _, by omega, rfl, ?_, ?_, gl_some.2 h6⟩
      · rw [wrap_i64 (by omega)]; omega
      · rw [List.length_set]; exact ht
  · exact hR _ hs.tail

theorem sameN_ins (x : Ins) : sameN 8 x.val x.val = true := by simp [sameN, sameN.sameL]

/-! ### The law -/
noncomputable def tT (l : List Ins) : List Int := if fe l = 0 then tgs l else []
theorem Targets_u {n : Nat} (h : Sep H L) (rl : Rds L a l) (hn : n = l.length) (hl : l.length < 1000000) (hok : ∀ x ∈ l, OkI x)
    (hR : ∀ H' q, (q = none → tT l = []) → Sep H' (gl 1 q (ints (tT l)) :: L) → R (.tuple #[.slice (addr q) (tT l).length 0, I (fe l)]) H') : CA en F.flow_Targets [.slice a n 0] H R := by
  refine Targets_s h rl hn hl hok (fun hne H' h' => ?_) fun hz H' q hq h' => ?_
  · have e : tT l = [] := if_neg hne
    have := hR H' none (fun _ => e) (gl_none.2 h')
    rw [e] at this
    exact this
  · have e : tT l = tgs l := if_pos hz
    have := hR H' q (fun h => by rw [e]; exact hq h) (by rw [e]; exact h')
    rw [e, tgs_len, hz] at this
    exact this
theorem TargetsR_u {n : Nat} (h : Sep H L) (rl : Rds L a l) (hn : n = l.length) (hl : l.length < 1000000) (hok : ∀ x ∈ l, OkI x)
    (hR : ∀ H' q, (q = none → tT l = []) → Sep H' (gl 1 q (ints (tT l)) :: L) → R (.tuple #[.slice (addr q) (tT l).length 0, I (fe l)]) H') : CA en F.crossbarref06_Targets [.slice a n 0] H R := by
  refine TargetsR_s h rl hn hl hok (fun hne H' h' => ?_) fun hz H' q hq h' => ?_
  · have e : tT l = [] := if_neg hne
    have := hR H' none (fun _ => e) (gl_none.2 h')
    rw [e] at this
    exact this
  · have e : tT l = tgs l := if_pos hz
    have := hR H' q (fun h => by rw [e]; exact hq h) (by rw [e]; exact h')
    rw [e, tgs_len, hz] at this
    exact this
theorem tT_len (h : l.length < 1000000) : (tT l).length < 1000000 := by
  unfold tT; split
  · rw [tgs_len]; exact h
  · simp

theorem FlowTells_ok {n : Nat} (rl : Rds (gh :: ga :: L) a l) (hn : n = l.length) (h : Sep H (gh :: ga :: L)) :
    CA en F.crossbarlaw06_FlowTells [.slice a n 0] H fun r _ => r = .bool true := by
  subst hn
  have known : ∀ {H : Heap} {L' : List Asr}, AS.Sep H L' → CA en F.crossbarlaw06_known [] H fun v H' => ∃ b, v = .bool b ∧ Value.bool b = .bool true := fun h => known06_s h fun _ _ => ⟨_, rfl, rfl⟩
  apply vc_crossbarlaw06_FlowTells
  refine Big_s h rl rfl (fun H2 h2 => ⟨_, rfl, cond_yes rfl (known h2)⟩) fun hbig hchk H2 h2 => ⟨_, rfl, cond_no rfl ?_⟩
  have hok : ∀ x ∈ l, OkI x := fun x hx => okI_chk (hchk x hx)
  have wrp : ∀ {n : Int}, -100000 ≤ n ∧ n ≤ 100000 → IntKind.i64.wrap n = n := fun h => wrap_i64 (by omega)
  have hll : l.length < 1000000 := by omega
  have hT := tT_len hll
  refine Lent_s h2 rl rfl hll fun H8 q h8 => ⟨_, _, rfl, by unfold inS; omega, ⟨⟨_, _, _, gl_get h8, .inr rfl⟩, ?_⟩⟩
  refine Targets_u (l := l) h8 (rds_pre (m := mks 5) (by simp)) rfl hll hok fun H13 qt hqt h13 => ⟨_, _, _, rfl, ?_⟩
  refine TargetsR_u (l := l) h13 (fun H' hs => rl H' hs.tail.tail) rfl hll hok fun H18 qu hqu h18 => ⟨_, _, _, rfl, by unfold inS; omega, ⟨⟨_, _, _, gl_get (Sep.up2 h18), .inr rfl⟩, ?_⟩⟩
  refine Places_s (l := l) h18 (rds_pre (m := mks 5) (by simp)) rfl hll fun H24 qp hqp h24 => ⟨_, _, rfl, cond_no (by simp) ?_⟩
  refine SameInts_s (s := tT l) (t := tT l) h24 (rdn_gl (by simp) hqt) (rdn_gl (by simp) hqu) rfl rfl hT fun H28 h28 => ⟨_, rfl, cond_no (by simp) ?_⟩
  refine PlacesR_s (l := l) h28 (fun H' hs => rl H' hs.tail.tail.tail.tail) rfl hll fun H31 qr hqr h31 => ⟨_, _, rfl, ?_⟩
  refine SameInts_s (s := plE l) (t := plE l) h31 (rdn_gl (by simp) hqp) (rdn_gl (by simp) hqr) (plE_len l).symm (plE_len l).symm (by rw [plE_len]; exact hll) fun H35 h35 => ⟨_, rfl, cond_no (by simp) ?_⟩
  -- qr qp qu qt lent gh ga
  have h35 : Sep H35 (gl 5 (some q) (flatI (l ++ mks 5)) :: gl 1 qr (ints (plE l)) :: gl 1 qp (ints (plE l)) :: gl 1 qu (ints (tT l)) :: gl 1 qt (ints (tT l)) :: gh :: ga :: L) := Sep.up4 h35
  refine Kept_s h35 (fun H' hs => rl H' hs.tail.tail.tail.tail) rfl rfl hll fun H38 h38 => ⟨_, rfl, cond_no rfl ?_⟩
  have h38 : Sep H38 (gl 1 qr (ints (plE l)) :: gl 1 qp (ints (plE l)) :: gl 1 qu (ints (tT l)) :: gl 1 qt (ints (tT l)) :: gh :: ga :: L) := h38.tail
  have hrl : Rds (gl 1 qr (ints (plE l)) :: gl 1 qp (ints (plE l)) :: gl 1 qu (ints (tT l)) :: gl 1 qt (ints (tT l)) :: gh :: ga :: L) a l := fun H' hs => rl H' hs.tail.tail.tail.tail
  have ht : RdN (gl 1 qr (ints (plE l)) :: gl 1 qp (ints (plE l)) :: gl 1 qu (ints (tT l)) :: gl 1 qt (ints (tT l)) :: gh :: ga :: L) (addr qt) (tT l) := rdn_gl (by simp) hqt
  have hu : RdN (gl 1 qr (ints (plE l)) :: gl 1 qp (ints (plE l)) :: gl 1 qu (ints (tT l)) :: gl 1 qt (ints (tT l)) :: gh :: ga :: L) (addr qu) (tT l) := rdn_gl (by simp) hqu
  refine use_crossbarlaw06_FlowTells_0 (fun k t2 t9 H => ∃ j : Nat, j ≤ l.length ∧ k = l.length - j ∧ t9 = (j : Int) ∧ Sep H (gl 1 qr (ints (plE l)) :: gl 1 qp (ints (plE l)) :: gl 1 qu (ints (tT l)) :: gl 1 qt (ints (tT l)) :: gh :: ga :: L)) l.length ⟨0, by omega, rfl, rfl, h38⟩ ?_
  clear h h2 h8 h13 h18 h24 h28 h31 h35 h38
  rintro k t2 t9 ys H3 ⟨j, hj, rfl, rfl, hs⟩
  refine cond_of (fun h1 => ?_) fun h1 => ?_
  · have hj' : j < l.length := by simp only [decide_eq_true_eq] at h1; omega
    obtain ⟨x, hx⟩ : ∃ x, l[j]? = some x := ⟨_, List.getElem?_eq_getElem hj'⟩
    have ox := hok x (List.mem_of_getElem? hx)
    have hB := hs.bump 27
    obtain ⟨i, hi, _, _, hc⟩ := hrl.op hB hx
    have inl : inB (j : Int) l.length := by unfold inB; omega
    have nxt : ∀ H', AS.Sep H' (gl 1 qr (ints (plE l)) :: gl 1 qp (ints (plE l)) :: gl 1 qu (ints (tT l)) :: gl 1 qt (ints (tT l)) :: gh :: ga :: L) → ∃ k, k < l.length - j ∧ ∃ j2 : Nat, j2 ≤ l.length ∧ k = l.length - j2 ∧ IntKind.i64.wrap ((j : Int) + 1) = (j2 : Int) ∧ AS.Sep H' (gl 1 qr (ints (plE l)) :: gl 1 qp (ints (plE l)) :: gl 1 qu (ints (tT l)) :: gl 1 qt (ints (tT l)) :: gh :: ga :: L) := by
      intro H' h'
      refine ⟨l.length - (j + 1), by omega, j + 1, by omega, rfl, ?_, h'⟩
      rw [wrp (by omega)]; omega
    rw [hi]
    refine ⟨inl, asRow_in ⟨_, _, _, _, _, hc, Jumps_s (x := x) hB ox fun H9 h9 => ⟨_, rfl, inl, ?_⟩⟩⟩
    obtain ⟨i2, hi2, _, _, hc2⟩ := hrl.op h9 hx
    obtain rfl : i2 = i := by rw [hi] at hi2; cases hi2; rfl
    refine asRow_in ⟨_, _, _, _, _, hc2, JumpsR_s (x := x) h9 ox fun H19 h19 => ⟨_, rfl, cond_no (by simp) (cond_of (fun e => ?_) fun e => ?_)⟩⟩
    · have e : fe l = 0 := by simpa using e
      have eT : tT l = tgs l := if_pos e
      have hv : (tT l)[j]? = some (tgA l j) := by rw [eT]; exact tgs_get hj'
      rw [← hi]
      refine Next_s (l := l) (t := tT l) (v := tgA l j) h19 hrl ht rfl rfl hx hv (by omega) fun H32 qa hqa h32 => ⟨_, _, rfl, ?_⟩
      refine NextR_s (l := l) (t := tT l) (v := tgA l j) h32 (fun H' hs => hrl H' hs.tail) (fun H' hs => hu H' hs.tail) rfl rfl hx hv (by omega) fun H36 qb hqb h36 => ⟨_, _, rfl, ?_⟩
      refine SameInts_s (s := nx x (tgA l j) j) (t := nx x (tgA l j) j) h36 (rdn_gl (by simp) hqa) (rdn_gl (by simp) hqb) rfl rfl (by have : (nx x (tgA l j) j).length ≤ 2 := gat_len _ _; omega) fun H40 h40 => ⟨_, rfl, ⟨cond_no (by simp) (nxt _ h40.tail.tail), ⟨⟨_, _, _, _, _, hc, sameN_ins x⟩, ⟨_, _, _, _, _, hc2, sameN_ins x⟩, trivial⟩, trivial⟩⟩
    · exact ⟨nxt _ h19, ⟨⟨_, _, _, _, _, hc, sameN_ins x⟩, ⟨_, _, _, _, _, hc2, sameN_ins x⟩, trivial⟩, trivial⟩
  · refine asBool_in ?_
    refine Spoil_s (Sep.up3 hs) hqt rfl hT fun H44 h44 => ⟨rfl, ?_⟩
    refine Spoil_s (Sep.up1 h44) hqp (plE_len l).symm (by rw [plE_len]; exact hll) fun H46 h46 => ⟨rfl, ?_⟩
    refine Targets_u (l := l) h46 (fun H' hs => rl H' hs.tail.tail) rfl hll hok fun H48 qn hqn h48 => ⟨_, _, _, rfl, ?_⟩
    exact SameInts_s (s := tT l) (t := tT l) h48 (rdn_gl (by simp) hqn) (rdn_gl (by simp) hqu) rfl rfl hT fun H53 h53 => ⟨_, rfl, cond_yes (by simp) (known h53)⟩

theorem FlowTells_law (H : Heap) (us : List Value) (hG : ∀ p ∈ [(0, gHalf), (1, gAtom)], p.1 < H.next ∧ H.get p.1 = some (.cells false 0 p.2)) (h : shpVs en H 7 T.FlowTells us) : CA en F.crossbarlaw06_FlowTells us H fun v _ => v = .bool true := by
  obtain ⟨v, u, rfl, hA, rfl⟩ := args_FlowTells h
  obtain ⟨a, l, X, rfl, rl, hs, _⟩ := insArg hG (fun c hc => by
    obtain ⟨ap1, bp1, rfl, ⟨np1, rfl, wp1⟩, ap2, bp2, rfl, ⟨np2, rfl, wp2⟩, ap3, bp3, rfl, ⟨np3, rfl, wp3⟩, ap4, bp4, rfl, ⟨np4, rfl, wp4⟩, ap5, bp5, rfl, ⟨np5, rfl, wp5⟩, rfl⟩ := hc
    exact ⟨⟨np1, np2, np3, np4, np5⟩, rfl⟩) (SlArg.one hA)
  exact FlowTells_ok rl rfl hs
end Go.Proofs.YtmgkngdbphkmmaaDoor
