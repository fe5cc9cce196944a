/-
  'crossbarlaw06.FlowPads' returns true.
-/
import Derived.Test.YtmgkngdbphkmmaaDoorFlowPlaces
import Derived.Test.YtmgkngdbphkmmaaDoorVcFD
namespace Go.Proofs.YtmgkngdbphkmmaaDoor
open Go Go.AS Go.RowKit
set_option linter.unusedVariables false
variable {H H' : Heap} {R : Value → Heap → Prop} {L M : List Asr} {a b ta : Option Addr} {l pd : List Ins} {s t ps : List Int} {x : Ins} {v w : Int} {i j k n : Nat}

/-! ### Instructions put ahead -/
def NoBack (l : List Ins) : Prop := ∀ (i : Nat) x, l[i]? = some x → jmp x = true → 0 ≤ (pl l i : Int) + 1 + x.off
def Pad (pd : List Ins) : Prop := ∀ x ∈ pd, x.op = 24 ∨ x.op = 183

theorem Pad.no (h : Pad pd) (hx : x ∈ pd) : ¬ jmp x = true := by
  have := h x hx
  unfold jmp
  simp only [decide_eq_true_eq]
  omega
theorem pl_app (l pd : List Ins) (i : Nat) : pl (pd ++ l) (pd.length + i) = pl pd pd.length + pl l i := by
  unfold pl
  rw [List.take_append, List.take_of_length_le (by omega), show pd.length + i - pd.length = i by omega, List.take_length, List.map_append, List.sum_append]
theorem get_app (l pd : List Ins) (i : Nat) : (pd ++ l)[pd.length + i]? = l[i]? := by
  rw [List.getElem?_append_right (by omega), show pd.length + i - pd.length = i by omega]
theorem fnd_app (w : Int) (hw : 0 ≤ w) : fnd (pd ++ l) ((pl pd pd.length : Int) + w) = (fnd l w).map (pd.length + ·) := by
  cases hf : fnd l w with
  | some k =>
    obtain ⟨h1, h2⟩ := fnd_some hf
    show fnd _ _ = some (pd.length + k)
    refine fnd_of (by rw [List.length_append]; omega) ?_
    rw [pl_app]; omega
  | none =>
    cases hg : fnd (pd ++ l) ((pl pd pd.length : Int) + w) with
    | none => rfl
    | some k =>
      obtain ⟨h1, h2⟩ := fnd_some hg
      rw [List.length_append] at h1
      exfalso
      rcases Nat.lt_or_ge k pd.length with h3 | h3
      · have h4 := pl_lt (l := pd ++ l) h3 (by rw [List.length_append]; omega)
        have h5 := pl_app l pd 0
        rw [Nat.add_zero, pl_zero] at h5
        omega
      · obtain ⟨k', rfl⟩ := Nat.exists_eq_add_of_le h3
        rw [pl_app] at h2
        exact fnd_none hf (k := k') (by omega) (by omega)
theorem tgA_pad (h : Pad pd) (hi : i < pd.length) : tgA (pd ++ l) i = -1 := by
  have hx : (pd ++ l)[i]? = some pd[i] := by rw [List.getElem?_append_left hi, List.getElem?_eq_getElem hi]
  exact tgA_no hx (h.no (List.getElem_mem hi))
theorem tgA_app (hb : NoBack l) (hi : i < l.length) : tgA (pd ++ l) (pd.length + i) = if 0 ≤ tgA l i then tgA l i + pd.length else tgA l i := by
  obtain ⟨x, hx⟩ : ∃ x, l[i]? = some x := ⟨_, List.getElem?_eq_getElem hi⟩
  have hx' : (pd ++ l)[pd.length + i]? = some x := by rw [get_app]; exact hx
  by_cases hj : jmp x = true
  · have h0 := hb i x hx hj
    have hf := fnd_app (l := l) (pd := pd) _ h0
    have e : ((pl pd pd.length : Int) + ((pl l i : Int) + 1 + x.off)) = (pl (pd ++ l) (pd.length + i) : Int) + 1 + x.off := by rw [pl_app]; omega
    rw [e] at hf
    cases hg : fnd l (pl l i + 1 + x.off) with
    | none =>
      rw [hg] at hf
      rw [tgA_none hx hj hg, tgA_none hx' hj hf, if_neg (by omega)]
    | some k =>
      rw [hg] at hf
      have hf : fnd (pd ++ l) _ = some (pd.length + k) := hf
      rw [tgA_some hx hj hg, tgA_some hx' hj hf, if_pos (by omega)]
      omega
  · rw [tgA_no hx hj, tgA_no hx' hj, if_neg (by omega)]
theorem gat_neg (b : Int) : gat [-1, b] = if 0 ≤ b then [b] else [] := by
  rw [gat_two, if_neg (by decide)]
theorem gat_pos {a b : Int} (h : 0 ≤ a) : gat [a, b] = if 0 ≤ b ∧ b ≠ a then [a, b] else [a] := by
  rw [gat_two, if_pos h]
theorem nx_app (hx : l[i]? = some x) (hb : NoBack l) (h2 : tgA l i ≠ -2) : nx x (tgA (pd ++ l) (pd.length + i)) (pd.length + i) = (nx x (tgA l i) i).map (· + (pd.length : Int)) := by
  have hi := (List.getElem?_eq_some_iff.1 hx).1
  rw [tgA_app hb hi]
  unfold nx
  have hlt := tgA_lt l i
  generalize tgA l i = T at *
  by_cases h1 : x.op = 149 ∨ x.op = 5
  · have e1 : beh x i = -1 := if_pos h1
    have e2 : beh x (pd.length + i) = -1 := if_pos h1
    rw [e1, e2, gat_neg, gat_neg]
    by_cases h3 : 0 ≤ T
    · rw [if_pos h3, if_pos (by omega), if_pos h3]; rfl
    · rw [if_neg h3, if_neg h3]; rfl
  · have e1 : beh x i = (i : Int) + 1 := if_neg h1
    have e2 : beh x (pd.length + i) = ((pd.length + i : Nat) : Int) + 1 := if_neg h1
    rw [e1, e2, gat_pos (by omega), gat_pos (by omega)]
    by_cases h3 : 0 ≤ T
    · rw [if_pos h3]
      by_cases h4 : T = (i : Int) + 1
      · rw [if_neg (by omega), if_neg (by omega)]
        simp only [List.map_cons, List.map_nil, List.cons.injEq, and_true]
        omega
      · rw [if_pos (by omega), if_pos (by omega)]
        simp only [List.map_cons, List.map_nil, List.cons.injEq, and_true]
        omega
    · rw [if_neg h3, if_neg (by omega), if_neg (by omega)]
      simp only [List.map_cons, List.map_nil, List.cons.injEq, and_true]
      omega

theorem two_app (hp : Pad pd) (hb : NoBack l) : (-2 : Int) ∈ tgs (pd ++ l) ↔ (-2 : Int) ∈ tgs l := by
  constructor
  · intro h
    obtain ⟨k, hk, e⟩ := List.getElem_of_mem h
    have hk' := hk
    rw [tgs_len, List.length_append] at hk'
    have hg := tgs_get (l := pd ++ l) (i := k) (by rw [List.length_append]; omega)
    rw [List.getElem?_eq_getElem hk, e] at hg
    have hg := (Option.some.inj hg).symm
    rcases Nat.lt_or_ge k pd.length with h3 | h3
    · rw [tgA_pad hp h3] at hg; cases hg
    · obtain ⟨k', rfl⟩ := Nat.exists_eq_add_of_le h3
      rw [tgA_app hb (by omega)] at hg
      split at hg
      · omega
      · rw [← hg]; exact List.mem_of_getElem? (tgs_get (by omega))
  · intro h
    obtain ⟨k, hk, e⟩ := List.getElem_of_mem h
    rw [tgs_len] at hk
    have hg := tgs_get (l := l) (i := k) hk
    rw [List.getElem?_eq_getElem (by rw [tgs_len]; exact hk), e] at hg
    have hg := (Option.some.inj hg).symm
    have := tgs_get (l := pd ++ l) (i := pd.length + k) (by rw [List.length_append]; omega)
    rw [tgA_app hb hk, hg, if_neg (by omega)] at this
    exact List.mem_of_getElem? this
theorem last_app (h : l.length ≠ 0) : lastOk (pd ++ l) ↔ lastOk l := by
  unfold lastOk
  have : (pd ++ l)[(pd ++ l).length - 1]? = l[l.length - 1]? := by
    rw [List.length_append, show pd.length + l.length - 1 = pd.length + (l.length - 1) by omega, get_app]
  rw [this]
theorem nxN_pad (h : Pad pd) (hi : i < pd.length) : nxN (pd ++ l) i = [i + 1] := by
  have hx : (pd ++ l)[i]? = some pd[i] := by rw [List.getElem?_append_left hi, List.getElem?_eq_getElem hi]
  unfold nxN
  rw [hx]
  simp only
  rw [tgA_pad h hi]
  have hop := h pd[i] (List.getElem_mem hi)
  have e : beh pd[i] i = (i : Int) + 1 := if_neg (by omega)
  unfold nx
  rw [gat_two, e, if_pos (by omega), if_neg (by omega)]
  simp only [List.map_cons, List.map_nil, List.cons.injEq, and_true]
  omega
theorem nxN_app (hb : NoBack l) (h2 : (-2 : Int) ∉ tgs l) (hi : i < l.length) : nxN (pd ++ l) (pd.length + i) = (nxN l i).map (pd.length + ·) := by
  obtain ⟨x, hx⟩ : ∃ x, l[i]? = some x := ⟨_, List.getElem?_eq_getElem hi⟩
  have h2' : tgA l i ≠ -2 := fun e => h2 (e ▸ List.mem_of_getElem? (tgs_get hi))
  have hn : nxN l i = (nx x (tgA l i) i).map Int.toNat := by unfold nxN; rw [hx]
  have hm : nxN (pd ++ l) (pd.length + i) = (nx x (tgA (pd ++ l) (pd.length + i)) (pd.length + i)).map Int.toNat := by unfold nxN; rw [get_app, hx]
  rw [hn, hm, nx_app hx hb h2']
  simp only [List.map_map]
  refine List.map_congr_left fun c hc => ?_
  have := (nx_mem hc).1
  simp only [Function.comp_apply]
  omega
theorem rch_pad (h : Pad pd) : ∀ k, k ≤ pd.length → Rch (pd ++ l) k
  | 0, _ => .zero
  | k + 1, hk => .step (rch_pad h k (by omega)) (by rw [nxN_pad h (by omega)]; simp)
theorem rch_app (hp : Pad pd) (hb : NoBack l) (h2 : (-2 : Int) ∉ tgs l) (hl : lastOk l) (h0 : l.length ≠ 0) {k : Nat} (h : Rch l k) : k < l.length ∧ Rch (pd ++ l) (pd.length + k) := by
  induction h with
  | zero => exact ⟨by omega, rch_pad hp _ (by omega)⟩
  | step hi hj ih =>
    refine ⟨nxN_lt hl hj, .step ih.2 ?_⟩
    rw [nxN_app hb h2 ih.1]
    exact List.mem_map_of_mem hj
theorem rch_back (hp : Pad pd) (hb : NoBack l) (h2 : (-2 : Int) ∉ tgs l) (hl : lastOk l) (h0 : l.length ≠ 0) {k : Nat} (h : Rch (pd ++ l) k) : k < pd.length ∨ ∃ c, k = pd.length + c ∧ c < l.length ∧ Rch l c := by
  induction h with
  | zero =>
    rcases Nat.eq_zero_or_pos pd.length with e | e
    · exact .inr ⟨0, by omega, by omega, .zero⟩
    · exact .inl e
  | step hi hj ih =>
    rcases ih with h1 | ⟨c, rfl, hc, hr⟩
    · rw [nxN_pad hp h1] at hj
      simp only [List.mem_singleton] at hj
      subst hj
      rename_i i
      rcases Nat.lt_or_ge (i + 1) pd.length with h3 | h3
      · exact .inl h3
      · exact .inr ⟨0, by omega, by omega, .zero⟩
    · rw [nxN_app hb h2 hc] at hj
      obtain ⟨d, hd, rfl⟩ := List.mem_map.1 hj
      exact .inr ⟨d, rfl, nxN_lt hl hd, .step hr hd⟩
theorem all_app (hp : Pad pd) (hb : NoBack l) (h2 : (-2 : Int) ∉ tgs l) (hl : lastOk l) (h0 : l.length ≠ 0) : allR (pd ++ l) ↔ allR l := by
  constructor
  · intro h k hk
    rcases rch_back hp hb h2 hl h0 (h (pd.length + k) (by rw [List.length_append]; omega)) with h1 | ⟨c, e, _, hr⟩
    · omega
    · obtain rfl : k = c := by omega
      exact hr
  · intro h k hk
    rw [List.length_append] at hk
    rcases Nat.lt_or_ge k pd.length with h3 | h3
    · exact rch_pad hp k (by omega)
    · obtain ⟨k', rfl⟩ := Nat.exists_eq_add_of_le h3
      exact (rch_app hp hb h2 hl h0 (h k' (by omega))).2
theorem fe_app (hp : Pad pd) (hb : NoBack l) (h0 : l.length ≠ 0) (hl : pd.length + l.length ≤ 256) : fe (pd ++ l) = fe l := by
  unfold fe
  rw [List.length_append, if_neg (show ¬ pd.length + l.length > 256 by omega), if_neg (show ¬ pd.length + l.length = 0 by omega), if_neg (show ¬ l.length > 256 by omega), if_neg h0]
  by_cases h2 : (-2 : Int) ∈ tgs l
  · rw [if_pos h2, if_pos ((two_app hp hb).2 h2)]
  · rw [if_neg h2, if_neg (fun h => h2 ((two_app hp hb).1 h))]
    by_cases h3 : lastOk l
    · rw [if_neg (show ¬¬ lastOk (pd ++ l) from fun h => h ((last_app h0).2 h3)), if_neg (show ¬¬ lastOk l from fun h => h h3)]
      by_cases h4 : allR l
      · rw [if_neg (show ¬¬ allR (pd ++ l) from fun h => h ((all_app hp hb h2 h3 h0).2 h4)), if_neg (show ¬¬ allR l from fun h => h h4)]
      · rw [if_pos (show ¬ allR (pd ++ l) from fun h => h4 ((all_app hp hb h2 h3 h0).1 h)), if_pos h4]
    · rw [if_pos (show ¬ lastOk (pd ++ l) from fun h => h3 ((last_app h0).1 h)), if_pos h3]
theorem fe_back (h0 : l.length ≠ 0) (hl : l.length ≤ 256) (hb : ¬ NoBack l) : fe l = 11 := by
  refine fe_jump hl h0 (Classical.byContradiction fun h2 => hb fun i x hx hj => Classical.byContradiction fun hneg => h2 ?_)
  have hi := (List.getElem?_eq_some_iff.1 hx).1
  have hf : fnd l (pl l i + 1 + x.off) = none := by
    cases hf : fnd l (pl l i + 1 + x.off) with
    | none => rfl
    | some k => have := (fnd_some hf).2; omega
  have := tgs_get (l := l) hi
  rw [tgA_none hx hj hf] at this
  exact List.mem_of_getElem? this

/-! ### The walk -/
theorem back_s {n : Nat} (h : Sep H L) (rl : Rds L a l) (hn : n = l.length) (hl : l.length < 1000000) (hok : ∀ x ∈ l, OkI x) (hb : ¬ NoBack l) (hR : ∀ H', Sep H' L → R (.bool true) H') : CA en F.crossbarlaw06_back [.slice a n 0] H R := by
  subst hn
  apply vc_crossbarlaw06_back
  refine Places_s h rl rfl hl fun H2 qp hqp h2 => ⟨_, _, rfl, ?_⟩
  refine use_crossbarlaw06_back_0 (fun k t2 t4 H => ∃ j : Nat, j ≤ l.length ∧ k = l.length - j ∧ t4 = (j : Int) ∧ (∀ (i : Nat) x, i < j → l[i]? = some x → jmp x = true → 0 ≤ (pl l i : Int) + 1 + x.off) ∧ Sep H (gl 1 qp (ints (plE l)) :: L)) l.length ⟨0, by omega, rfl, rfl, fun i x h => absurd h (by omega), h2⟩ ?_
  clear h h2
  rintro k t2 t4 ys H3 ⟨j, hj, rfl, rfl, hall, hs⟩
  refine cond_of (fun h1 => ?_) fun h1 => ?_
  · have hj' : j < l.length := by simp only [decide_eq_true_eq] at h1; omega
    obtain ⟨x, hx⟩ : ∃ x, l[j]? = some x := ⟨_, List.getElem?_eq_getElem hj'⟩
    have hB := hs.bump 19
    have ox := hok x (List.mem_of_getElem? hx)
    have hle := pl_le l j
    obtain ⟨i, hi, _, _, hc⟩ := rl.op hB.tail hx
    have inl : inB (j : Int) l.length := by unfold inB; omega
    have hw1 : IntKind.i64.wrap ((j : Int) + 1) = ((j + 1 : Nat) : Int) := by rw [wrap_i64 (by omega)]; omega
    have nxt : ∀ H' : Heap, (jmp x = true → 0 ≤ (pl l j : Int) + 1 + x.off) → AS.Sep H' (gl 1 qp (ints (plE l)) :: L) → ∃ k, k < l.length - j ∧ ∃ j2 : Nat, j2 ≤ l.length ∧ k = l.length - j2 ∧ IntKind.i64.wrap ((j : Int) + 1) = (j2 : Int) ∧ (∀ (i : Nat) x, i < j2 → l[i]? = some x → jmp x = true → 0 ≤ (pl l i : Int) + 1 + x.off) ∧ AS.Sep H' (gl 1 qp (ints (plE l)) :: L) := by
      intro H' h0 h'
      refine ⟨l.length - (j + 1), by omega, j + 1, by omega, rfl, hw1, fun i y hi' hy => ?_, h'⟩
      rcases Nat.lt_or_ge i j with h3 | h3
      · exact hall i y h3 hy
      · obtain rfl : i = j := by omega
        rw [hx] at hy; cases hy
        exact h0
    rw [hi]
    refine ⟨inl, asRow_in ⟨_, _, _, _, _, hc, Jumps_s (x := x) hB ox fun H9 h9 => ⟨_, rfl, cond_of (fun c => ?_) fun c => ?_⟩⟩⟩
    · have hp : RdN (gl 1 qp (ints (plE l)) :: L) (addr qp) (plE l) := rdn_gl (by simp) hqp
      obtain ⟨bp, hbp, hcp⟩ := hp _ h9 j _ (plE_get hj')
      obtain ⟨i2, hi2, _, hoff, _⟩ := rl.op h9.tail hx
      obtain rfl : i2 = i := by rw [hi] at hi2; cases hi2; rfl
      rw [hbp]
      have := ox.2.2
      refine ⟨inl, asRow_in ⟨_, hcp, inl, asRow_in ⟨_, hoff, ⟨?_, trivial⟩⟩⟩⟩
      rw [wrap_i64 (n := (pl l j : Int) + 1) (by omega), wrap_i64 (by omega)]
      refine cond_of (fun d => asBool_in (hR _ h9.tail)) fun d => nxt _ (fun _ => by simpa using d) h9
    · exact ⟨nxt _ (fun h => by rw [h] at c; cases c) h9, trivial⟩
  · obtain rfl : j = l.length := by simp only [decide_eq_false_iff_not] at h1; omega
    exact absurd (fun i x hx hjm => hall i x (List.getElem?_eq_some_iff.1 hx).1 hx hjm) hb

theorem mix_set {A X : List Int} {p : Nat} {v : Int} (hl : X.length = A.length) (hp : p < A.length) (hv : X[p]? = some v) : (X.take p ++ A.drop p).set p v = X.take (p + 1) ++ A.drop (p + 1) := by
  have h1 : (X.take p).length = p := by rw [List.length_take]; omega
  rw [List.set_append_right _ _ (by omega), h1, Nat.sub_self, take_snoc' hv, List.drop_eq_getElem_cons hp]
  simp only [List.set_cons_zero, List.append_assoc, List.singleton_append]
theorem mix_get {A X : List Int} {p : Nat} (hl : X.length = A.length) (hp : p < A.length) : (X.take p ++ A.drop p)[p]? = A[p]? := by
  have h1 : (X.take p).length = p := by rw [List.length_take]; omega
  rw [List.getElem?_append_right (by omega), h1, Nat.sub_self, List.getElem?_drop, Nat.add_zero]
theorem ints_set (s : List Int) (i : Nat) (v : Int) : (ints s).set i (I v) = ints (s.set i v) := List.map_set.symm

def RdT (L : List Asr) (a : Option Addr) (t : List Bool) : Prop :=
  ∀ H', Sep H' L → ∀ (j : Nat) v, t[j]? = some v → ∃ i, a = some ⟨i, 0, none⟩ ∧ H'.cell i (0 + j * 1) = some (.bool v)
theorem rdt_arg {n : Nat} {t : List Bool} (ha : Arg a n (t.map fun v => [.bool v]) M) (hM : ∀ A ∈ M, A ∈ L) : RdT L a t := by
  intro H' hs j x hx
  have hw : ∀ c ∈ t.map (fun v => [Value.bool v]), c.length = 1 := by intro c hc; obtain ⟨y, _, rfl⟩ := List.mem_map.1 hc; rfl
  obtain ⟨hj, e⟩ := List.getElem?_eq_some_iff.1 hx
  obtain ⟨i, h1, _, h2⟩ := ha.row hs hM hw (j := j) (by simpa using hj)
  refine ⟨i, h1, ?_⟩
  have := h2 0 (by decide)
  rw [List.getElem_map, e] at this
  exact this
theorem bools_of : ∀ (css : List (List Value)), (∀ c ∈ css, ∃ b : Bool, c = [.bool b]) → ∃ l : List Bool, css = l.map fun v => [.bool v]
  | [], _ => ⟨[], rfl⟩
  | c :: css, h => by
    obtain ⟨n, rfl⟩ := h c (by simp)
    obtain ⟨l, rfl⟩ := bools_of css fun c hc => h c (List.mem_cons_of_mem _ hc)
    exact ⟨n :: l, rfl⟩

def padI (b : Bool) : Ins := if b = true then ⟨24, 0, 0, 0, 0⟩ else ⟨183, 0, 0, 0, 0⟩
theorem padI_pad (bs : List Bool) : Pad (bs.map padI) := by
  intro x hx
  obtain ⟨b, _, rfl⟩ := List.mem_map.1 hx
  cases b
  · right; rfl
  · left; rfl
theorem padI_ok (b : Bool) : OkI (padI b) := by cases b <;> decide

theorem FlowPads_ok {n m : Nat} {bs : List Bool} (ha : Arg a n (l.map Ins.cells) M) (hM : ∀ A ∈ M, A ∈ gh :: ga :: L) (rb : RdT (gh :: ga :: L) b bs) (hm : m = bs.length) (h : Sep H (gh :: ga :: L)) :
    CA en F.crossbarlaw06_FlowPads [.slice a n 0, .slice b m 0] H fun r _ => r = .bool true := by
  obtain rfl : n = l.length := by rw [ha.len, List.length_map]
  subst hm
  have rl : Rds (gh :: ga :: L) a l := rds_arg ha hM
  have known : ∀ {H : Heap} {L' : List Asr}, AS.Sep H L' → CA en F.crossbarlaw06_known [] H fun v H' => ∃ b, v = .bool b ∧ Value.bool b = .bool true := fun h => known06_s h fun _ _ => ⟨_, rfl, rfl⟩
  apply vc_crossbarlaw06_FlowPads
  refine Big_s h rl rfl (fun H2 h2 => ⟨_, rfl, cond_yes rfl (known h2)⟩) fun hbig hchk H2 h2 => ⟨_, rfl, cond_no rfl (cond_of (fun _ => known h2) fun c1 => cond_of (fun _ => known h2) fun c2 => cond_of (fun _ => known h2) fun c3 => ?_)⟩
  have c1 : l.length ≠ 0 := by simp only [decide_eq_false_iff_not] at c1; omega
  have c2 : l.length ≤ 200 := by simp only [decide_eq_false_iff_not] at c2; omega
  have c3 : bs.length ≤ 40 := by simp only [decide_eq_false_iff_not] at c3; omega
  have hok : ∀ x ∈ l, OkI x := fun x hx => okI_chk (hchk x hx)
  have wrp : ∀ {n : Int}, -100000 ≤ n ∧ n ≤ 100000 → IntKind.i64.wrap n = n := fun h => wrap_i64 (by omega)
  have hlen : (bs.map padI).length = bs.length := List.length_map _
  refine use_crossbarlaw06_FlowPads_0 (fun k t5 t5l t6 H => ∃ (j : Nat) (q : Option Nat), j ≤ bs.length ∧ k = bs.length - j ∧ t6 = (j : Int) ∧ t5 = addr q ∧ t5l = j ∧ (q = none → j = 0) ∧ Sep H (gl 5 q (flatI ((bs.map padI).take j)) :: gh :: ga :: L)) bs.length ⟨0, none, by omega, rfl, rfl, rfl, rfl, fun _ => rfl, gl_none.2 h2⟩ ?_
  clear h h2
  rintro k t5 t5l t6 ys H3 ⟨j, q, hj, rfl, rfl, rfl, rfl, hq, hs⟩
  refine cond_of (fun h1 => ?_) fun h1 => ?_
  · have hj' : t5l < bs.length := by simp only [decide_eq_true_eq] at h1; omega
    obtain ⟨b0, hb0⟩ : ∃ b, bs[t5l]? = some b := ⟨_, List.getElem?_eq_getElem hj'⟩
    obtain ⟨i, rfl, hc⟩ := rb _ hs.tail t5l b0 hb0
    have hpx : (bs.map padI)[t5l]? = some (padI b0) := by rw [List.getElem?_map, hb0]; rfl
    have fin : ∀ (H' : Heap) (q' : Nat), AS.Sep H' (gl 5 (some q') (flatI ((bs.map padI).take t5l) ++ (padI b0).cells) :: gh :: ga :: L) → ∃ k, k < bs.length - t5l ∧ ∃ (j : Nat) (q : Option Nat), j ≤ bs.length ∧ k = bs.length - j ∧ IntKind.i64.wrap ((t5l : Int) + 1) = (j : Int) ∧ addr (some q') = addr q ∧ t5l + 1 = j ∧ (q = none → j = 0) ∧ AS.Sep H' (gl 5 q (flatI ((bs.map padI).take j)) :: gh :: ga :: L) := by
      intro H' q' h'
      refine ⟨bs.length - (t5l + 1), by omega, t5l + 1, some q', by omega, rfl, ?_, rfl, rfl, (fun h => by cases h), ?_⟩
      · rw [wrp (by omega)]; omega
      · rw [take_snoc' hpx, flatI_snoc]; exact h'
    have hfl : (flatI ((bs.map padI).take t5l)).length = t5l * 5 := by rw [flatI_len, List.length_take, hlen]; omega
    refine ⟨by unfold inB; omega, asRow_in ⟨b0, hc, cond_of (fun e => ?_) fun e => ?_⟩⟩
    · have e : b0 = true := e
      subst e
      refine wide_s hs fun H5 h5 => ⟨_, _, _, _, _, rfl, Sep.nw h5 fun i11 H12 h12 => ⟨(padI true).cells, rowOf_bx (es := 5) (n := 1) (b := i11) (Sep.get0 h12) (by decide) rfl, ?_⟩⟩
      exact apd_gl (b := q) (len := t5l) (n := 1) (cs := flatI ((bs.map padI).take t5l)) (new := (padI true).cells) (Sep.up1 h12) (fun h => by rw [hq h]; rfl) (by decide) hfl (by decide) rfl (by omega) fun H' q' h' => fin H' q' (Sep.rm1 h')
    · have e : b0 = false := e
      subst e
      refine mov_s hs fun H5 h5 => ⟨_, _, _, _, _, rfl, Sep.nw h5 fun i11 H12 h12 => ⟨(padI false).cells, rowOf_bx (es := 5) (n := 1) (b := i11) (Sep.get0 h12) (by decide) rfl, ?_⟩⟩
      exact apd_gl (b := q) (len := t5l) (n := 1) (cs := flatI ((bs.map padI).take t5l)) (new := (padI false).cells) (Sep.up1 h12) (fun h => by rw [hq h]; rfl) (by decide) hfl (by decide) rfl (by omega) fun H' q' h' => fin H' q' (Sep.rm1 h')
  obtain rfl : t5l = bs.length := by simp only [decide_eq_false_iff_not] at h1; omega
  rw [← hlen, List.take_length] at hs
  rw [← hlen] at hq c3
  refine asSl_in ?_
  rw [← hlen]
  have hpad := padI_pad bs
  have hokp : ∀ x ∈ bs.map padI, OkI x := by
    intro x hx
    obtain ⟨b, _, rfl⟩ := List.mem_map.1 hx
    exact padI_ok b
  clear hj h1 rb
  generalize bs.map padI = pd at *
  refine ⟨_, rowOf_arg ha hs (fun A hA => List.mem_cons_of_mem _ (hM A hA)) (by intro c hc; obtain ⟨y, _, rfl⟩ := List.mem_map.1 hc; rfl) (by decide), ?_⟩
  refine apd_any (len := pd.length) (n := l.length) hs (fun e => by rw [List.eq_nil_of_length_eq_zero (hq e)]; rfl) (by decide) (flatI_len pd) (by show (flatI l).length = _; exact flatI_len l) (by omega) fun H23 qm hqm h23 => ?_
  have h23 : Sep H23 (gl 5 qm (flatI (pd ++ l)) :: gh :: ga :: L) := by rw [flatI_append]; exact h23
  have hqm' : qm = none → pd ++ l = [] := fun e => by
    have this : flatI pd ++ flatI l = [] := hqm e
    have h2 := flatI_len (pd ++ l)
    rw [flatI_append, this] at h2
    exact List.eq_nil_of_length_eq_zero (by simp only [List.length_nil] at h2; omega)
  have hml : pd.length + l.length = (pd ++ l).length := List.length_append.symm
  rw [hml]
  have hokm : ∀ x ∈ pd ++ l, OkI x := fun x hx => (List.mem_append.1 hx).elim (hokp x) (hok x)
  have hlm : (pd ++ l).length < 1000000 := by omega
  clear hs
  by_cases hz : fe l = 0
  · obtain ⟨f1, f2, f3, f4, f5⟩ := fe_zero.1 hz
    have hb : NoBack l := Classical.byContradiction fun hb => by rw [fe_back c1 f1 hb] at hz; cases hz
    have hzm : fe (pd ++ l) = 0 := by rw [fe_app hpad hb c1 (by omega)]; exact hz
    refine Targets_s h23 (fun H' hs => rl H' hs.tail) rfl (by omega) hok (fun hne => absurd hz hne) fun _ H25 qt hqt h25 => ⟨_, _, _, rfl, ?_⟩
    refine Targets_s (l := pd ++ l) h25 (rds_gl (by simp) hqm') rfl hlm hokm (fun hne => absurd hzm hne) fun _ H30 qu hqu h30 => ⟨_, _, _, rfl, cond_no rfl (cond_no rfl (cond_no ?_ ?_))⟩
    · rw [wrp (by omega)]; simp; omega
    have two : ∀ i, i < l.length → tgA l i ≠ -2 := fun i hi e => f3 (e ▸ List.mem_of_getElem? (tgs_get hi))
    have ht : RdN (gl 1 qu (ints (tgs (pd ++ l))) :: gl 1 qt (ints (tgs l)) :: gl 5 qm (flatI (pd ++ l)) :: gh :: ga :: L) (addr qt) (tgs l) := rdn_gl (by simp) hqt
    have hu : RdN (gl 1 qu (ints (tgs (pd ++ l))) :: gl 1 qt (ints (tgs l)) :: gl 5 qm (flatI (pd ++ l)) :: gh :: ga :: L) (addr qu) (tgs (pd ++ l)) := rdn_gl (by simp) hqu
    have hrm : Rds (gl 1 qu (ints (tgs (pd ++ l))) :: gl 1 qt (ints (tgs l)) :: gl 5 qm (flatI (pd ++ l)) :: gh :: ga :: L) (addr qm) (pd ++ l) := rds_gl (by simp) hqm'
    have hrl : Rds (gl 1 qu (ints (tgs (pd ++ l))) :: gl 1 qt (ints (tgs l)) :: gl 5 qm (flatI (pd ++ l)) :: gh :: ga :: L) a l := fun H' hs => rl H' hs.tail.tail.tail
    refine use_crossbarlaw06_FlowPads_1 (fun k t4 t12 H => ∃ j : Nat, j ≤ (pd ++ l).length ∧ k = (pd ++ l).length - j ∧ t12 = (j : Int) ∧ H = H30) (pd ++ l).length ⟨0, by omega, rfl, rfl, rfl⟩ ?_
    rintro k t4 t12 ys H3 ⟨j, hj, rfl, rfl, rfl⟩
    refine cond_of (fun h1 => ?_) fun h1 => ?_
    · have hj' : j < (pd ++ l).length := by simp only [decide_eq_true_eq] at h1; omega
      obtain ⟨bu, hbu, hcu⟩ := hu _ h30 j _ (tgs_get hj')
      have nxt : ∃ k, k < (pd ++ l).length - j ∧ ∃ j2 : Nat, j2 ≤ (pd ++ l).length ∧ k = (pd ++ l).length - j2 ∧ IntKind.i64.wrap ((j : Int) + 1) = (j2 : Int) ∧ H3 = H3 :=
        ⟨(pd ++ l).length - (j + 1), by omega, j + 1, by omega, rfl, by rw [wrp (by omega)]; omega, rfl⟩
      rw [hbu]
      refine cond_of (fun d => ?_) fun d => ?_
      · have d : pd.length ≤ j := by simp only [decide_eq_true_eq] at d; omega
        obtain ⟨i, rfl⟩ := Nat.exists_eq_add_of_le d
        have hil : i < l.length := by omega
        have hw : IntKind.i64.wrap (((pd.length + i : Nat) : Int) - (pd.length : Int)) = (i : Int) := by rw [wrp (by omega)]; omega
        rw [hw]
        obtain ⟨bt, hbt, hct⟩ := ht _ h30 i _ (tgs_get hil)
        have e := tgA_app (pd := pd) hb hil
        rw [hbt]
        refine ⟨by unfold inB; omega, asRow_in ⟨_, hct, cond_of (fun g => ?_) fun g => ?_⟩⟩
        · have g : 0 ≤ tgA l i := by simpa using g
          have hlt := tgA_lt l i
          rw [if_pos g] at e
          refine ⟨by unfold inB; omega, asRow_in ⟨_, hct, by unfold inB; omega, asRow_in ⟨_, hcu, cond_no ?_ nxt⟩⟩⟩
          rw [wrp (by omega), e]; simp
        · have g : ¬ 0 ≤ tgA l i := by simpa using g
          rw [if_neg g] at e
          obtain ⟨x, hx⟩ : ∃ x, l[i]? = some x := ⟨_, List.getElem?_eq_getElem hil⟩
          have e2 : tgA l i = -1 := tgA_no hx fun h => g ((tgA_jmp hx (two i hil)).1 h)
          refine ⟨by unfold inB; omega, asRow_in ⟨_, hcu, cond_no ?_ nxt⟩⟩
          rw [e, e2]; rfl
      · have d : j < pd.length := by simp only [decide_eq_false_iff_not] at d; omega
        refine ⟨by unfold inB; omega, asRow_in ⟨_, hcu, cond_no ?_ nxt⟩⟩
        rw [tgA_pad hpad d]; rfl
    · refine asBool_in ?_
      clear h1 hj
      refine use_crossbarlaw06_FlowPads_2 (fun k t4 t14 H => ∃ j : Nat, j ≤ l.length ∧ k = l.length - j ∧ t14 = (j : Int) ∧ Sep H (gl 1 qu (ints (tgs (pd ++ l))) :: gl 1 qt (ints (tgs l)) :: gl 5 qm (flatI (pd ++ l)) :: gh :: ga :: L)) l.length ⟨0, by omega, rfl, rfl, h30⟩ ?_
      clear h30
      rintro k t4 t14 ys H4 ⟨j, hj, rfl, rfl, hs⟩
      refine cond_of (fun h1 => ?_) fun h1 => ?_
      · have hj' : j < l.length := by simp only [decide_eq_true_eq] at h1; omega
        obtain ⟨x, hx⟩ : ∃ x, l[j]? = some x := ⟨_, List.getElem?_eq_getElem hj'⟩
        have hx' : (pd ++ l)[pd.length + j]? = some x := by rw [get_app]; exact hx
        have hw : IntKind.i64.wrap ((j : Int) + (pd.length : Int)) = ((pd.length + j : Nat) : Int) := by rw [wrp (by omega)]; omega
        refine Next_s (l := l) (t := tgs l) (v := tgA l j) hs hrl ht rfl (tgs_len l).symm hx (tgs_get hj') (by omega) fun H2 qa hqa h2 => ⟨_, _, rfl, ?_⟩
        rw [hw]
        refine Next_s (l := pd ++ l) (t := tgs (pd ++ l)) (v := tgA (pd ++ l) (pd.length + j)) h2 (fun H' hs => hrm H' hs.tail) (fun H' hs => hu H' hs.tail) rfl (tgs_len _).symm hx' (tgs_get (by omega)) (by omega) fun H6 qb hqb h6 => ⟨_, _, rfl, ?_⟩
        rw [nx_app hx hb (two j hj')] at h6 hqb ⊢
        have hmem := fun c (hc : c ∈ nx x (tgA l j) j) => nx_lt f4 hx hc
        have hl2 : (nx x (tgA l j) j).length ≤ 2 := gat_len _ _
        generalize nx x (tgA l j) j = A at *
        have hXl : (A.map (· + (pd.length : Int))).length = A.length := List.length_map _
        generalize hX : A.map (· + (pd.length : Int)) = X at *
        refine use_crossbarlaw06_FlowPads_3 (fun k t17 H => ∃ p : Nat, p ≤ A.length ∧ k = A.length - p ∧ t17 = (p : Int) ∧ Sep H (gl 1 qa (ints (X.take p ++ A.drop p)) :: gl 1 qb (ints X) :: gl 1 qu (ints (tgs (pd ++ l))) :: gl 1 qt (ints (tgs l)) :: gl 5 qm (flatI (pd ++ l)) :: gh :: ga :: L)) A.length ⟨0, by omega, rfl, rfl, Sep.up1 h6⟩ ?_
        clear h6 h2 hs
        rintro k t17 ys2 H7 ⟨p, hp, rfl, rfl, h7⟩
        refine cond_of (fun g => ?_) fun g => ?_
        · have hp' : p < A.length := by simp only [decide_eq_true_eq] at g; omega
          cases qa with
          | none => rw [hqa rfl] at hp'; simp at hp'
          | some qa =>
            obtain ⟨c, hc⟩ : ∃ c, A[p]? = some c := ⟨_, List.getElem?_eq_getElem hp'⟩
            have hcl := hmem c (List.mem_of_getElem? hc)
            have hv : X[p]? = some (c + (pd.length : Int)) := by rw [← hX, List.getElem?_map, hc]; rfl
            have inp : inB (p : Int) A.length := by unfold inB; omega
            refine ⟨inp, asRow_in ⟨c, Sep.ld0 (gl_some.1 h7) ?_, inp, asRow_in ?_⟩⟩
            · rw [Nat.zero_add, Int.toNat_natCast, Nat.mul_one, List.getElem?_map, mix_get hXl hp', hc]; rfl
            rw [wrp (by omega)]
            refine Sep.st0 (gl_some.1 h7) ?_ fun H8 h8 => ⟨A.length - (p + 1), by omega, p + 1, by omega, rfl, ?_, gl_some.2 ?_⟩
            · rw [Int.toNat_natCast, List.length_map, List.length_append, List.length_take, List.length_drop]; simp; omega
            · rw [wrp (by omega)]; omega
            · rw [← mix_set hXl hp' hv]
              rw [set_one, Nat.zero_add, Int.toNat_natCast, Nat.mul_one, ints_set] at h8
              exact h8
        · obtain rfl : p = A.length := by simp only [decide_eq_false_iff_not] at g; omega
          have e : X.take A.length ++ A.drop A.length = X := by rw [List.drop_length, List.append_nil, ← hXl, List.take_length]
          rw [e] at h7
          have hqX : ∀ q : Option Nat, (q = none → A = []) → q = none → X = [] := fun q h e => by rw [← hX, h e]; rfl
          refine SameInts_s (s := X) (t := X) h7 (rdn_gl (by simp) (hqX qa hqa)) (rdn_gl (by simp) hqb) hXl.symm rfl (by omega) fun H12 h12 => ⟨_, rfl, cond_no (by simp) ⟨l.length - (j + 1), by omega, j + 1, by omega, rfl, ?_, h12.tail.tail⟩⟩
          rw [wrp (by omega)]; omega
      · exact asBool_in (known hs)
  · refine Targets_s h23 (fun H' hs => rl H' hs.tail) rfl (by omega) hok (fun _ H25 h25 => ⟨_, _, _, rfl, ?_⟩) fun hz' => absurd hz' hz
    have other : ∀ (H30 : Heap) (L' : List Asr), fe l ≠ fe (pd ++ l) → (∀ H', AS.Sep H' L' → AS.Sep H' (gl 5 qm (flatI (pd ++ l)) :: gh :: ga :: L)) → AS.Sep H30 L' → fe l = 11 ∧ CA en F.crossbarlaw06_back [.slice a l.length 0] H30 fun v34 H35 => ∃ b36, v34 = (.bool b36) ∧ bif b36 then (CA en F.crossbarlaw06_known [] H35 fun v37 H38 => ∃ b39, v37 = (.bool b39) ∧ Value.bool b39 = .bool true) else (Value.bool false = .bool true) := by
      intro H30 L' hne hsub h30
      have hb : ¬ NoBack l := fun hb => hne (fe_app hpad hb c1 (by omega)).symm
      refine ⟨fe_back c1 (by omega) hb, back_s (l := l) (hsub _ h30) (fun H' hs => rl H' hs.tail) rfl (by omega) hok hb fun H35 h35 => ⟨_, rfl, cond_yes rfl (known h35)⟩⟩
    refine Targets_s (l := pd ++ l) h25 (rds_gl (by simp) hqm') rfl hlm hokm (fun hzm H30 h30 => ⟨_, _, _, rfl, ?_⟩) fun hzm H30 qu hqu h30 => ⟨_, _, _, rfl, ?_⟩
    · by_cases e : fe l = fe (pd ++ l)
      · exact cond_no (by rw [e]; simp) (cond_yes (by simpa using hz) (cond_yes rfl (cond_yes rfl (known h30))))
      · obtain ⟨e1, e2⟩ := other H30 _ e (fun H' h => h) h30
        refine cond_yes (by simpa using e) (cond_yes (by rw [e1]; rfl) e2)
    · have e : fe l ≠ fe (pd ++ l) := by rw [hzm]; exact hz
      obtain ⟨e1, e2⟩ := other H30 _ e (fun H' h => h.tail) h30
      refine cond_yes (by simpa using hz) (cond_yes (by rw [e1]; rfl) e2)

theorem FlowPads_law (H : Heap) (us : List Value) (hG : ∀ p ∈ [(0, gHalf), (1, gAtom)], p.1 < H.next ∧ H.get p.1 = some (.cells false 0 p.2)) (h : shpVs en H 7 T.FlowPads us) : CA en F.crossbarlaw06_FlowPads us H fun v _ => v = .bool true := by
  obtain ⟨v, u, rfl, hA, v2, u2, rfl, hA2, rfl⟩ := args_FlowPads h
  obtain ⟨a1, n1, css1, M1, X, rfl, ha1, m1, hs, hf, c1⟩ := Arg.moreE (SlArg.one hA) (sepG hG) (by intro A hA; simp only [List.mem_cons, List.not_mem_nil, or_false] at hA; rcases hA with rfl | rfl <;> exact ⟨_, _, rfl⟩)
  obtain ⟨a2, n2, css2, M2, X2, rfl, ha2, m2, hs2, hf2, c2⟩ := Arg.moreE (SlArg.one hA2) hs hf
  obtain ⟨l, rfl⟩ := ins_of css1 fun c hm => by
    obtain ⟨ap1, bp1, rfl, ⟨np1, rfl, wp1⟩, ap2, bp2, rfl, ⟨np2, rfl, wp2⟩, ap3, bp3, rfl, ⟨np3, rfl, wp3⟩, ap4, bp4, rfl, ⟨np4, rfl, wp4⟩, ap5, bp5, rfl, ⟨np5, rfl, wp5⟩, rfl⟩ := c1 c hm
    exact ⟨⟨np1, np2, np3, np4, np5⟩, rfl⟩
  obtain ⟨bs, rfl⟩ := bools_of css2 fun c hm => c2 c hm
  exact FlowPads_ok ha1 (fun A hA => List.mem_append_left X2 (m1 A hA)) (rdt_arg ha2 m2) (by rw [ha2.len, List.length_map]) hs2
end Go.Proofs.YtmgkngdbphkmmaaDoor
