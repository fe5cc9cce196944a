/-
  Whatever agents do, whoever's turn it is: an array's runs agree with the document's model, in the order of their effects.
-/
import Derived.Test.YthnifkjpkepbaaaArrM
import Derived.Test.YthnifkjpkepbaaaArgz
import Derived.Test.YthnifkjpkepbaaaAs45
namespace Go.Proofs.Ythnifkjpkepbaaa
open Go Go.AS Go.RowKit
set_option linter.unusedVariables false
variable {H H' H0 : Heap} {R : Value → Heap → Prop} {L M : List Asr} {c : Int} {p a : Nat}

/-! ### Whose turn it is in the end -/
def vis (n tn i : Nat) : Nat → Nat
  | 0 => 0
  | m + 1 => vis n tn i m + if (tn + m) % n = i then 1 else 0
theorem vis_le (n tn i m : Nat) : ∀ q, vis n tn i m ≤ vis n tn i (m + q)
  | 0 => Nat.le_refl _
  | q + 1 => by
    have := vis_le n tn i m q
    show _ ≤ vis n tn i (m + q) + _
    omega
theorem vis_n {n tn i : Nat} (hn : 1 ≤ n ∧ n ≤ 4) (hi : i < n) (m : Nat) : vis n tn i m + 1 ≤ vis n tn i (m + n) := by
  obtain rfl | rfl | rfl | rfl : n = 1 ∨ n = 2 ∨ n = 3 ∨ n = 4 := by omega
  · simp only [vis]
    split <;> omega
  · simp only [vis]
    split <;> split <;> omega
  · simp only [vis]
    split <;> split <;> split <;> omega
  · simp only [vis]
    split <;> split <;> split <;> split <;> omega
theorem vis_k {n tn i : Nat} (hn : 1 ≤ n ∧ n ≤ 4) (hi : i < n) : ∀ k, k ≤ vis n tn i (k * n)
  | 0 => Nat.zero_le _
  | k + 1 => by
    have h1 := vis_k hn hi k (tn := tn)
    have h2 := vis_n hn hi (k * n) (tn := tn)
    rw [Nat.add_mul, Nat.one_mul]
    omega
theorem vis_end {n tn i : Nat} (hn : 1 ≤ n ∧ n ≤ 4) (hi : i < n) : 12 ≤ vis n tn i 200 := by
  have h1 := vis_k hn hi 12 (tn := tn)
  have h2 := vis_le n tn i (12 * n) (200 - 12 * n)
  rw [show 12 * n + (200 - 12 * n) = 200 by omega] at h2
  omega

/-! ### What was there stays there -/
def Ext (H0 H1 : Heap) : Prop := ∀ i, i < H0.next → i < H1.next ∧ H1.get i = H0.get i
theorem ext_new (H0 : Heap) (o : AS.Obj) : Ext H0 (H0.new o) := fun i h => ⟨by rw [next_new]; omega, by rw [get_new, if_neg (by omega)]⟩
theorem OldS.ext {H1 : Heap} {a : Option Addr} {n : Nat} {css : List (List Value)} (e : Ext H0 H1) (o : OldS H0 a n css) : OldS H1 a n css :=
  ⟨o.1, o.2.imp_right fun ⟨i, h1, h2, h3⟩ => ⟨i, h1, (e i h2).1, by rw [(e i h2).2]; exact h3⟩⟩
theorem DeedsLL.ext {H1 : Heap} {a : Option Addr} {n : Nat} {ll : List (List Deed)} (e : Ext H0 H1) (o : DeedsLL H0 a n ll) : DeedsLL H1 a n ll := by
  obtain ⟨css, h1, h2, h3⟩ := o.ex
  refine ⟨o.len, css, OldS.ext e h1, h2, fun k l hk => ?_⟩
  obtain ⟨c, h4, a', n', rfl, h5⟩ := h3 k l hk
  obtain ⟨css', h6, h7, h8⟩ := h5.ex
  refine ⟨_, h4, a', n', rfl, h5.len, css', OldS.ext e h6, h7, fun j x hx => ?_⟩
  obtain ⟨c, h9, a2, n2, rfl, h10⟩ := h8 j x hx
  exact ⟨_, h9, a2, n2, rfl, OldS.ext e h10⟩

theorem over_s {s : Pl} {g : Cst} {E z ln : Nat} {ll : List (List Deed)} {ats : List Int} {la : Option Addr} {t : Int} (w : TS H0 p g E ll H s z ats c) (ha : a < s.n) (ht : ats[a]? = some t) (hR : R (.bool (decide (t ≥ (ln : Int)))) H) : CA en F.crossbarlaw13_play_over [P p, I a, .slice la ln 0] H R := by
  apply vc_crossbarlaw13_play_over
  obtain ⟨ops, sts, has, els, S, qs, ws, o1, hl, hq, h2, h6, h3, h4, h5, he, h⟩ := w.ex
  have hin : inB (a : Int) s.n := ⟨by omega, by omega⟩
  have hnone : (List.replicate s.n (Value.pointer none))[0 + a * 1]? = some (.pointer none) := by
    rw [Nat.zero_add, Nat.mul_one, List.getElem?_replicate, if_pos ha]
  refine asAddr_in ⟨_, _, Sep.ld0 h rfl, hin, asRow_in ⟨none, ?_⟩⟩
  rw [Int.toNat_natCast]
  exact ⟨Sep.ld3 h hnone, cond_yes rfl (asAddr_in ⟨_, _, Sep.ld0 h rfl, hin, asRow_in ⟨_, Sep.ld5 h (ats_get ht), hR⟩⟩)⟩

set_option maxHeartbeats 1000000 in
theorem ArrayAgrees_ok {wh e cp : Int} {la ta : Option Addr} {n tn : Nat} {ll : List (List Deed)} {ts : List Int} (o0 : DeedsLL H0 la n ll) (hp0 : OldS H0 ta tn (ts.map fun v => [I v])) :
    CA en F.crossbarlaw13_ArrayAgrees [.agg #[I wh, I e, I cp, .slice la n 0, .slice ta tn 0]] H0 fun v _ => v = .bool true := by
  apply vc_crossbarlaw13_ArrayAgrees
  refine Sep.nwx' (Sep.start H0) fun h2 => ?_
  have ex := ext_new H0 (.cells true 0 [I wh, I e, I cp, .slice la n 0, .slice ta tn 0])
  have o := o0.ext ex
  have hp := OldS.ext ex hp0
  have g1 : (H0.new (.cells true 0 [I wh, I e, I cp, .slice la n 0, .slice ta tn 0])).get H0.next = some (.cells true 0 [I wh, I e, I cp, .slice la n 0, .slice ta tn 0]) := Sep.get0 h2
  have n1 : H0.next < (H0.new (.cells true 0 [I wh, I e, I cp, .slice la n 0, .slice ta tn 0])).next := by rw [next_new]; omega
  generalize (H0.new (.cells true 0 [I wh, I e, I cp, .slice la n 0, .slice ta tn 0])) = H1 at *
  generalize H0.next = i1 at *
  have hs := Sep.start H1
  clear h2 ex o0 hp0
  have rd : ∀ {H' : Heap} {L : List Asr}, Sep H' L → old H1 ∈ L → H'.get i1 = some (.cells true 0 [I wh, I e, I cp, .slice la n 0, .slice ta tn 0]) := fun h hm => old_get h hm n1 g1
  have hln := o.len
  refine ⟨_, _, (cell_of g1 3).trans rfl, _, _, (cell_of g1 4).trans rfl, great13_s hs (by simp) o (fun H8 h8 => ⟨_, rfl, cond_yes rfl (CA_truth (by kernel_rfl) ⟨_, rfl, rfl⟩)⟩) fun hn htn hbig H8 h8 => ⟨_, rfl, cond_no rfl ?_⟩⟩
  refine ⟨_, _, _, _, _, _, _, (cellsAt_of (rd h8 (by simp)) (o := 0) (n := 5)).trans rfl, begun_s (ll := ll) h8 hn hln fun H21 p s g E z hAs w => ⟨_, rfl, cond_no rfl ?_⟩⟩
  have rd' : ∀ {H' : Heap} {s z ats c}, TS H1 p g E ll H' s z ats c → H'.get i1 = some (.cells true 0 [I wh, I e, I cp, .slice la n 0, .slice ta tn 0]) := fun w => by
    obtain ⟨ops, sts, has, els, S, qs, ws, o1, hl, hq, h2, h6, h3, h4, h5, he, h⟩ := w.ex
    exact rd h (by simp)
  refine ⟨_, _, (cell_of (rd' w) 3).trans rfl, ?_⟩
  obtain ⟨T, hT⟩ : ∃ T, T = tn + 200 := ⟨_, rfl⟩
  have hin0 : ∀ i, vis n tn i (0 - tn) = 0 := fun i => by rw [Nat.zero_sub]; rfl
  have hmem : ∀ {l : List Deed} {i : Nat}, ll[i]? = some l → l.length ≤ 12 ∧ ∀ x ∈ l, x.o.val.length ≤ 8 := fun h => hbig _ (List.mem_of_getElem? h)
  refine use_crossbarlaw13_ArrayAgrees_0 (fun k' t2 t5 H' => ∃ (j : Nat) (s : Pl) (ats : List Int) (c' : Int), j ≤ T ∧ k' = T - j ∧ t5 = (j : Int) ∧ c' ≤ j ∧ s.As.length ≤ j ∧ TS H1 p g E ll H' s z ats c' ∧ ∀ (i : Nat) t l, ats[i]? = some t → ll[i]? = some l → 0 ≤ t ∧ ((l.length : Int) ≤ t ∨ (vis n tn i (j - tn) : Int) ≤ t)) (T) ⟨0, s, _, 0, Nat.zero_le _, rfl, rfl, by omega, by rw [hAs]; exact Nat.le_refl 0, w, fun i t l h1 h2 => ?_⟩ ?_
  · obtain ⟨_, rfl⟩ := List.mem_replicate.1 (List.mem_of_getElem? h1)
    exact ⟨Int.le_refl _, .inr (by rw [hin0]; exact Int.le_refl _)⟩
  clear w hAs
  rintro k' t2 t5 ys H3 ⟨j, s, ats, c', hj, rfl, rfl, hc', hA, w, far⟩
  have hw200 : IntKind.i64.wrap ((tn : Int) + 200) = ((T : Nat) : Int) := by rw [wrap_i64 (by omega)]; omega
  refine ⟨_, _, (cell_of (rd' w) 4).trans rfl, ?_⟩
  rw [hw200]
  have hsn : s.n = n := by rw [w.hn, ← hln]
  refine cond_of (fun hlt => ?_) fun hlt => ?_
  · have hlt : j < T := by have := of_decide_eq_true hlt; omega
    obtain ⟨L, hL, hm⟩ : ∃ L, Sep H3 L ∧ old H1 ∈ L := by
      obtain ⟨ops, sts, has, els, S, qs, ws, o1, hl, hq, h2, h6, h3, h4, h5, he, h⟩ := w.ex
      exact ⟨_, h, by simp⟩
    refine ⟨_, _, (cell_of (rd' w) 4).trans rfl, turn13_s hL hm hp hn fun b hb hbt => ⟨_, rfl, _, _, (cell_of (rd' w) 3).trans rfl, ⟨by omega, by omega⟩, ?_⟩⟩
    obtain ⟨l, hll⟩ : ∃ l, ll[b]? = some l := ⟨_, List.getElem?_eq_getElem (by omega)⟩
    obtain ⟨i, a', n', rfl, e1, o'⟩ := o.at' hL hm hll
    have hla := w.la
    obtain ⟨t, ht⟩ : ∃ t, ats[b]? = some t := ⟨_, List.getElem?_eq_getElem (by omega)⟩
    have hgd : ats.getD b 0 = t := by rw [List.getD_eq_getElem?_getD, ht]; rfl
    refine asRow_in ⟨_, _, e1, ?_⟩
    refine aturn_s w (by omega) o' (hmem hll).1 (hmem hll).2 (fun t ht => (far b t l ht hll).1) (by omega) (by omega) fun H' s' c2 hc2 hs' hA' w' => ⟨_, rfl, cond_no rfl ⟨T - (j + 1), by omega, j + 1, s', _, c2, by omega, rfl, by rw [wrap_i64 (by omega)]; omega, by omega, by omega, w', fun i2 t2 l2 g1 g2 => ?_⟩⟩
    have hv : vis n tn i2 (j + 1 - tn) ≤ vis n tn i2 (j - tn) + if i2 = b then 1 else 0 := by
      by_cases hjt : tn ≤ j
      · rw [show j + 1 - tn = (j - tn) + 1 by omega]
        show vis n tn i2 (j - tn) + (if (tn + (j - tn)) % n = i2 then 1 else 0) ≤ _
        rw [show tn + (j - tn) = j by omega, ← hbt hjt]
        by_cases e : i2 = b
        · rw [if_pos e]; split <;> omega
        · rw [if_neg e, if_neg (fun h => e h.symm)]; omega
      · rw [show j + 1 - tn = 0 by omega]; exact Nat.zero_le _
    unfold upd at g1
    rw [hgd] at g1
    by_cases e : i2 = b
    · subst e
      rw [hll] at g2; obtain rfl := Option.some.inj g2
      obtain ⟨f1, f2⟩ := far i2 t l ht hll
      rw [if_pos rfl] at hv
      split at g1
      · rw [List.getElem?_set_self (by omega)] at g1
        obtain rfl := Option.some.inj g1
        refine ⟨by omega, ?_⟩
        rcases f2 with f2 | f2
        · left; omega
        · right; omega
      · rw [ht] at g1
        obtain rfl := Option.some.inj g1
        exact ⟨f1, .inl (by omega)⟩
    · have g1' : ats[i2]? = some t2 := by
        split at g1
        · rw [List.getElem?_set_ne (fun h => e h.symm)] at g1; exact g1
        · exact g1
      obtain ⟨f1, f2⟩ := far i2 t2 l2 g1' g2
      rw [if_neg e] at hv
      refine ⟨f1, f2.imp_right fun f2 => ?_⟩
      omega
  · have hj2 : j = T := by have := of_decide_eq_false hlt; omega
    refine asBool_in ?_
    refine use_crossbarlaw13_ArrayAgrees_1 (fun k' t2 t7 H' => ∃ q : Nat, q ≤ n ∧ k' = n - q ∧ t7 = (q : Int) ∧ TS H1 p g E ll H' s z ats c') n ⟨0, Nat.zero_le _, rfl, rfl, w⟩ ?_
    clear w
    rintro k' t2' t7 ys' H4 ⟨q, hq, rfl, rfl, w⟩
    refine cond_of (fun hlt => ?_) fun hlt => ?_
    · have hqn : q < n := by have := of_decide_eq_true hlt; omega
      obtain ⟨L, hL, hm⟩ : ∃ L, Sep H4 L ∧ old H1 ∈ L := by
        obtain ⟨ops, sts, has, els, S, qs, ws, o1, hl, hq, h2, h6, h3, h4, h5, he, h⟩ := w.ex
        exact ⟨_, h, by simp⟩
      obtain ⟨l, hll⟩ : ∃ l, ll[q]? = some l := ⟨_, List.getElem?_eq_getElem (by omega)⟩
      obtain ⟨i, a', n', rfl, e1, o'⟩ := o.at' hL hm hll
      have hla := w.la
      obtain ⟨t, ht⟩ : ∃ t, ats[q]? = some t := ⟨_, List.getElem?_eq_getElem (by omega)⟩
      refine ⟨_, _, (cell_of (rd' w) 3).trans rfl, ⟨by omega, by omega⟩, asRow_in ⟨_, _, e1, over_s w (by omega) ht ⟨_, rfl, cond_no ?_ ⟨n - (q + 1), by omega, q + 1, by omega, rfl, by rw [wrap_i64 (by omega)]; omega, w⟩⟩⟩⟩
      have h1 := (far q t l ht hll).2
      have h2 := vis_end (tn := tn) hn hqn
      have h3 := (hmem hll).1
      rw [show j - tn = 200 by omega] at h1
      have h4 := o'.len
      have : t ≥ ((n' : Nat) : Int) := by omega
      rw [decide_eq_true this]; rfl
    · obtain ⟨ops, sts, has, els, S, qs, ws, o1, hl, hq, h2, h6, h3, h4, h5, he, h⟩ := w.ex
      refine asBool_in (asAddr_in ⟨_, Sep.ld0 h rfl, bad_s (Sep.up11 h) ⟨_, rfl, cond_yes ?_ (CA_truth (by kernel_rfl) ⟨_, rfl, rfl⟩)⟩⟩)
      rw [o1.bads]; rfl
/-! ### The arguments -/
abbrev Bz : Nat := 140737488355328
def OldZ (H0 : Heap) (P : List Value → Prop) (c : List Value) : Prop :=
  c = [.slice none 0 0] ∨ ∃ (i : Nat) (cs : List (List Value)), c = [.slice (some ⟨i, 0, none⟩) cs.length 0] ∧ i < H0.next ∧ H0.get i = some (AS.Obj.cells false 0 cs.flatten) ∧ (∀ d ∈ cs, P d) ∧ cs.length ≤ 140737488355328
theorem OldZ.of {P : List Value → Prop} {c : List Value} (h : OldZ H0 P c) : ∃ a n css, c = [.slice a n 0] ∧ OldS H0 a n css ∧ (∀ d ∈ css, P d) ∧ css.length ≤ Bz := by
  rcases h with rfl | ⟨i, cs, rfl, h1, h2, h3, h4⟩
  · exact ⟨none, 0, [], rfl, ⟨rfl, .inl ⟨rfl, rfl⟩⟩, by simp, by simp⟩
  · exact ⟨_, _, cs, rfl, ⟨rfl, .inr ⟨i, rfl, h1, h2⟩⟩, h3, h4⟩
def OpZ (H0 : Heap) (c : List Value) : Prop :=
  ∃ (a18 b19 : List Value), c = a18 ++ b19 ∧ (∃ n : Int, a18 = [.int .i64 n] ∧ (Lit.int .i64 n).wf = true) ∧ (∃ (a20 b21 : List Value), b19 = a20 ++ b21 ∧ (∃ n : Int, a20 = [.int .u64 n] ∧ (Lit.int .u64 n).wf = true) ∧ (∃ (a22 b23 : List Value), b21 = a22 ++ b23 ∧ OldZ H0 (fun d => ∃ n : Int, d = [.int .u64 n] ∧ (Lit.int .u64 n).wf = true) a22 ∧ (∃ (a25 b26 : List Value), b23 = a25 ++ b26 ∧ (∃ n : Int, a25 = [.int .i64 n] ∧ (Lit.int .i64 n).wf = true) ∧ (∃ (a27 b28 : List Value), b26 = a27 ++ b28 ∧ (∃ n : Int, a27 = [.int .i64 n] ∧ (Lit.int .i64 n).wf = true) ∧ b28 = []))))
theorem OpZ.of {c : List Value} (h : OpZ H0 c) : ∃ o : Op, OpC H0 o c ∧ o.val.length ≤ Bz := by
  obtain ⟨_, _, rfl, ⟨k, rfl, _⟩, _, _, rfl, ⟨key, rfl, hk⟩, _, _, rfl, hv, _, _, rfl, ⟨f, rfl, _⟩, _, _, rfl, ⟨cp, rfl, _⟩, rfl⟩ := h
  obtain ⟨a, n, css, rfl, ho, hc, hl⟩ := hv.of
  obtain ⟨l, rfl⟩ := words_of css hc
  obtain ⟨w, rfl⟩ := word_of hk
  rw [List.length_map] at hl
  exact ⟨⟨k, w, l, f, cp⟩, ⟨a, n, rfl, ho⟩, hl⟩

def DeedZ (H0 : Heap) (c : List Value) : Prop :=
  ∃ (a14 b15 : List Value), c = a14 ++ b15 ∧ (∃ n : Int, a14 = [.int .i64 n] ∧ (Lit.int .i64 n).wf = true) ∧ (∃ (a16 b17 : List Value), b15 = a16 ++ b17 ∧ OpZ H0 a16 ∧ (∃ (a29 b30 : List Value), b17 = a29 ++ b30 ∧ (∃ n : Int, a29 = [.int .u64 n] ∧ (Lit.int .u64 n).wf = true) ∧ b30 = []))
theorem DeedZ.of {c : List Value} (h : DeedZ H0 c) : ∃ d : Deed, DeedC H0 d c := by
  obtain ⟨_, _, rfl, ⟨k, rfl, _⟩, _, _, rfl, ho, _, _, rfl, ⟨v, rfl, hv⟩, rfl⟩ := h
  obtain ⟨o, ⟨a, n, rfl, ho2⟩, _⟩ := ho.of
  obtain ⟨w, rfl⟩ := word_of hv
  exact ⟨⟨k, o, w⟩, a, n, rfl, ho2⟩
theorem deedc_len {o : Deed} {c : List Value} (h : DeedC H0 o c) : c.length = 7 := by obtain ⟨a, n, rfl, _⟩ := h; rfl
theorem deedsC_of {c : List Value} (h : OldZ H0 (DeedZ H0) c) : ∃ l : List Deed, DeedsC H0 l c := by
  obtain ⟨a, n, css, rfl, ho, hc, hl⟩ := h.of
  obtain ⟨l, h1, h2⟩ := pick_of (P := fun (o : Deed) c => DeedC H0 o c) css fun c hm => (hc c hm).of
  refine ⟨l, a, n, rfl, by rw [h1]; exact ho.len, css, ho, fun c hm => ?_, h2⟩
  obtain ⟨o, h3⟩ := (hc c hm).of
  exact deedc_len h3
theorem deedsLL_of {c : List Value} (h : OldZ H0 (OldZ H0 (DeedZ H0)) c) : ∃ (ll : List (List Deed)) (a : Option Addr) (n : Nat), c = [.slice a n 0] ∧ DeedsLL H0 a n ll := by
  obtain ⟨a, n, css, rfl, ho, hc, hl⟩ := h.of
  obtain ⟨ll, h1, h2⟩ := pick_of (P := fun (l : List Deed) c => DeedsC H0 l c) css fun c hm => deedsC_of (hc c hm)
  refine ⟨ll, a, n, rfl, by rw [h1]; exact ho.len, css, ho, fun c hm => ?_, h2⟩
  obtain ⟨l, a, n, rfl, _⟩ := deedsC_of (hc c hm); rfl

theorem ArrayAgrees_law (H : Heap) (us : List Value) (h : shzVs en H 7 T.ArrayAgrees us) : CA en F.crossbarlaw13_ArrayAgrees us H fun v _ => v = .bool true := by
  obtain ⟨_, _, rfl, ⟨l3, rfl, _, _, rfl, ⟨n1, rfl, _⟩, _, _, rfl, ⟨n2, rfl, _⟩, _, _, rfl, ⟨n3, rfl, _⟩, a10, _, rfl, hA, a31, _, rfl, hB, rfl⟩, rfl⟩ := args_ArrayAgrees h
  obtain ⟨ll, la, n, rfl, o⟩ := deedsLL_of (H0 := H) hA
  obtain ⟨pa, pn, css, rfl, hp, hc, _⟩ := OldZ.of (H0 := H) (P := fun c => ∃ n : Int, c = [.int .i64 n] ∧ (Lit.int .i64 n).wf = true) hB
  obtain ⟨l, rfl⟩ := numbers_of css hc
  exact ArrayAgrees_ok o hp
end Go.Proofs.Ythnifkjpkepbaaa
