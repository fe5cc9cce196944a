/-
  Values are popped whole, in the order of a queue, or a stack.
-/
import Derived.Test.YtgpacebjbdhphaaRingM
import Derived.Test.YtgpacebjbdhphaaArgs
import Derived.Test.YtgpacebjbdhphaaAs45
namespace Go.Proofs.Ytgpacebjbdhphaa
open Go Go.AS Go.RowKit
set_option linter.unusedVariables false
variable {H H' : Heap} {R : Value → Heap → Prop} {L M : List Asr} {m x i8 : Nat} {S : Sm} {cf : Cf} {ws vs : Ws}

/-- What is kept: a slice somewhere in its block. -/
inductive KP : Option Addr → Ws → List Value → Asr → Prop where
  | none : KP none [] [] (many [])
  | some (kb : Nat) (pre post : List Value) (kept : Ws) : KP (some ⟨kb, pre.length, none⟩) kept post (bx kb (.cells true 1 (pre ++ (wdR kept ++ post))))

theorem kp_append {kp : Option Addr} {kept : Ws} {A : Asr} {v : BitVec 64} {F : Option Addr → Nat → Heap → Prop} (hk : KP kp kept [] A) (h : Sep H (A :: L)) (hl : kept.length ≤ 1000)
    (k : ∀ H' q A', KP q (kept ++ [v]) [] A' → Sep H' (A' :: L) → F q (kept.length + 1) H') : apd H 8 1 kp kept.length 1 [W v] F := by
  cases hk with
  | none =>
    refine apd_first (by decide) (by decide) fun j H2 ej e2 => ?_
    have h7 := (Sep.many_iff.1 h).new (.cells true 1 [W v])
    rw [← e2, ← ej] at h7
    exact k H2 _ _ (.some j [] [] [v]) h7
  | some kb pre kept =>
    have h1 : Sep H (bx kb (.cells true 1 (pre ++ wdR kept)) :: L) := by have := h; rwa [List.append_nil] at this
    refine apd_off (new := [W v]) h1 (by decide) (by simp) (by decide) rfl (by omega) fun H2 q h2 => ?_
    refine k H2 _ _ (.some q [] [] (kept ++ [v])) ?_
    have e : wdR (kept ++ [v]) = wdR kept ++ [W v] := by simp
    rw [e, List.append_nil]; exact h2

/-- Where a loop of pushes is. -/
structure WI (m x i8 : Nat) (cf : Cf) (M : List Asr) (post : List Value) (c : Int) (kept : Ws) (kp : Option Addr) (H : Heap) : Prop where
  fit : kept.length ≤ cf.en
  ex : ∃ S ws e A c', One S ws c' ∧ c' ≤ c ∧ RI cf e ws (kept.map fun v => valW v cf.wd) ∧ ws.getD 0 0 = ws.getD 1 0 ∧ KP kp kept post A ∧ Sep H (A :: xG m x (rkind cf) cf.en cf.wd :: mem m S :: bx i8 (.cells true 0 [I (rkind cf), I cf.en, I cf.wd, I 0, I 0]) :: M)

abbrev vals (cf : Cf) (kept : Ws) : List Ws := kept.map fun v => valW v cf.wd

theorem whole_put (ok : cf.Ok) {kept : Ws} {kp : Option Addr} {c : Int} {v : BitVec 64} {fl no : Int} {ov : Option Nat} (w : WI m x i8 cf (gl 1 ov (wdR (valW v cf.wd)) :: M) [] c kept kp H) (ho : ov = none → valW v cf.wd = []) (hc : c < 4611686018427380000) (hno : (if kept.length = cf.en then (if fl = 0 then (4 : Int) else 0) else 0) = no)
    (hR : ∀ H' S' ws' c' e' A, One S' ws' c' → c' ≤ c + 100 → RI cf e' ws' (if kept.length = cf.en then (if fl = 0 then vals cf kept else (vals cf kept).tail ++ [valW v cf.wd]) else vals cf kept ++ [valW v cf.wd]) → ws'.getD 0 0 = ws'.getD 1 0 → KP kp kept [] A →
      Sep H' (A :: xG m x (rkind cf) cf.en cf.wd :: mem m S' :: bx i8 (.cells true 0 [I (rkind cf), I cf.en, I cf.wd, I 0, I 0]) :: M) → R (.bool true) H') :
    CA en F.crossbarlaw17_gives [P x, .agg #[I 6, .int .u64 0, .slice (addr ov) cf.wd 0, I fl, I 0], I no, .slice none 0 0] H R := by
  obtain ⟨S, ws, e, A, c', o, hcc, ri, hs, hk, h⟩ := w.ex
  have hw := ok.w2
  have hr : rdo cf 6 fl (valW v cf.wd) (vals cf kept) = if kept.length = cf.en then (if fl = 0 then (4, [], vals cf kept) else (0, [], (vals cf kept).tail ++ [valW v cf.wd])) else (0, [], vals cf kept ++ [valW v cf.wd]) := by
    unfold rdo
    rw [if_pos rfl, List.length_map]
  have key := gives_s (R := R) (ov := ov) (kind := 6) (key := 0) (fl := fl) (el := 0) (no := no) (val := []) (a := none) (vs := valW v cf.wd) (L := A :: bx i8 (.cells true 0 [I (rkind cf), I cf.en, I cf.wd, I 0, I 0]) :: M) (H := H) (Sep.pick h 5 [4, 1, 2, 0, 3] (by decide)) ho (by rw [valW_len]; omega) o ri hs (fun _ => valW_len _ _) (by omega) hw
  rw [valW_len] at key
  refine key ?_ ?_ (.inl rfl) fun H' S' ws' c2 e' o' hc2 ri' hs' h' => ?_
  · rw [hr, ← hno]; split <;> (try split) <;> rfl
  · rw [hr]; split <;> (try split) <;> rfl
  · refine hR H' S' ws' c2 e' A o' (by omega) ?_ hs' hk (Sep.pick h' 5 [3, 1, 2, 4] (by decide))
    rw [hr] at ri'
    revert ri'
    split <;> (try split) <;> exact id

/-- A peek, or a pop, when there is a value, or none. -/
theorem whole_take {kept : Ws} {kp : Option Addr} {post : List Value} {c kind no : Int} {val : Ws} {ov : Option Nat} (ok : cf.Ok) (w : WI m x i8 cf (gl 1 ov (wdR val) :: M) post c kept kp H) (hc : c < 4611686018427380000) (hk6 : kind ≠ 6) (ho : ov = none → val = [])
    (hno : (rdo cf kind 0 [] (vals cf kept)).1 = no) (hval : (rdo cf kind 0 [] (vals cf kept)).2.1 = val) {a : Option Addr} (ha : a = addr ov)
    (hR : ∀ H' S' ws' c' e' A, One S' ws' c' → c' ≤ c + 100 → RI cf e' ws' (rdo cf kind 0 [] (vals cf kept)).2.2 → ws'.getD 0 0 = ws'.getD 1 0 → KP kp kept post A →
      Sep H' (A :: xG m x (rkind cf) cf.en cf.wd :: mem m S' :: bx i8 (.cells true 0 [I (rkind cf), I cf.en, I cf.wd, I 0, I 0]) :: gl 1 ov (wdR val) :: M) → R (.bool true) H') :
    CA en F.crossbarlaw17_gives [P x, .agg #[I kind, .int .u64 0, .slice none 0 0, I 0, I 0], I no, .slice a val.length 0] H R := by
  obtain ⟨S, ws, e, A, c', o, hcc, ri, hs, hk, h⟩ := w.ex
  have hw := ok.w2
  have h0 : Sep H (gl 1 none (wdR []) :: _) := gl_none.2 h
  refine gives_s (ov := none) (vs := []) (L := A :: bx i8 (.cells true 0 [I (rkind cf), I cf.en, I cf.wd, I 0, I 0]) :: gl 1 ov (wdR val) :: M) (Sep.pick h0 4 [0, 2, 3, 1] (by decide)) (fun _ => rfl) (by simp) o ri hs (fun z => absurd z hk6) (by omega) hw hno hval (.inr ⟨ov, 2, ha, rfl, ho⟩) fun H' S' ws' c2 e' o' hc2 ri' hs' h' => ?_
  exact hR H' S' ws' c2 e' A o' (by omega) ri' hs' hk (Sep.pick h' 4 [3, 1, 2] (by decide))

/-- The rows of a slice, or of its first ones. -/
def Rd (M : List Asr) (a : Option Addr) (l : Ws) : Prop := ∀ (H : Heap) (L : List Asr), Sep H L → (∀ A ∈ M, A ∈ L) → ∀ j, j < l.length → ∀ K : Nat → Nat → Prop, (∀ i, H.cell i (0 + j * 1) = some (W (l.getD j 0)) → K i 0) → asRow a K

theorem rd_of {a : Option Addr} {n : Nat} {l : Ws} (ha : Arg a n (l.map fun v => [W v]) M) : Rd M a l := by
  intro H L h hM j hj K hK
  refine ha.word h hM hj fun i hi => hK i (hi _ ?_)
  rw [List.getD_eq_getElem?_getD, List.getElem?_eq_getElem hj]; rfl
theorem Rd.take {a : Option Addr} {l : Ws} (h : Rd M a l) (n : Nat) : Rd M a (l.take n) := by
  intro H L hs hM j hj K hK
  rw [List.length_take] at hj
  refine h H L hs hM j (by omega) K fun i hi => hK i ?_
  have e : (l.take n).getD j 0 = l.getD j 0 := by rw [List.getD_eq_getElem?_getD, List.getElem?_take_of_lt (by omega), ← List.getD_eq_getElem?_getD]
  rw [e]; exact hi

theorem kp_len {kp : Option Addr} {kept : Ws} {post : List Value} {A : Asr} (hk : KP kp kept post A) (h0 : 0 < kept.length) : ∃ kb pre, kp = some ⟨kb, pre.length, none⟩ ∧ A = bx kb (.cells true 1 (pre ++ (wdR kept ++ post))) := by
  cases hk with
  | none => simp at h0
  | some kb pre post kept => exact ⟨kb, pre, rfl, rfl⟩

theorem asSlice_of {a : Option Addr} {l : Nat} {K : Option Addr → Nat → Prop} (h : K a l) : AS.asSlice (.slice a l 0) K := h

theorem rdo_stack (hs : cf.stack = true) {k0 : Ws} {v : BitVec 64} {kind : Int} (hk : kind ≠ 6) : rdo cf kind 0 [] (vals cf (k0 ++ [v])) = (0, valW v cf.wd, if kind = 7 then vals cf k0 else vals cf (k0 ++ [v])) := by
  unfold rdo
  rw [if_neg hk, if_neg (by simp), hs]
  simp
theorem rdo_queue (hs : cf.stack = false) {k0 : Ws} {v : BitVec 64} {kind : Int} (hk : kind ≠ 6) : rdo cf kind 0 [] (vals cf (v :: k0)) = (0, valW v cf.wd, if kind = 7 then vals cf k0 else vals cf (v :: k0)) := by
  unfold rdo
  rw [if_neg hk, if_neg (by simp), hs]
  simp

theorem kp_init {kb o : Nat} {k0 : Ws} {v : BitVec 64} {post : List Value} {A : Asr} (h : KP (some ⟨kb, o, none⟩) (k0 ++ [v]) post A) : KP (some ⟨kb, o + 0 * 1, none⟩) k0 (W v :: post) A := by
  obtain ⟨kb', pre, e, rfl⟩ := kp_len h (by simp)
  cases e
  have := KP.some kb pre (W v :: post) k0
  have e : pre ++ (wdR k0 ++ W v :: post) = pre ++ (wdR (k0 ++ [v]) ++ post) := by simp
  rw [e] at this
  exact this
theorem kp_tail {kb o : Nat} {k0 : Ws} {v : BitVec 64} {post : List Value} {A : Asr} (h : KP (some ⟨kb, o, none⟩) (v :: k0) post A) : KP (some ⟨kb, o + 1 * 1, none⟩) k0 post A := by
  obtain ⟨kb', pre, e, rfl⟩ := kp_len h (by simp)
  cases e
  have := KP.some kb (pre ++ [W v]) post k0
  have e : (pre ++ [W v]) ++ (wdR k0 ++ post) = pre ++ (wdR (v :: k0) ++ post) := by simp
  rw [e] at this
  have el : (pre ++ [W v]).length = pre.length + 1 * 1 := by simp
  rw [el] at this
  exact this

theorem arg_first {a : Option Addr} {n : Nat} {css : List (List Value)} (ha : Arg a n css M) (h0 : 0 < n) : ∃ i, a = some ⟨i, 0, none⟩ ∧ bx i (.cells false 0 css.flatten) ∈ M := by
  cases ha with
  | none => omega
  | some i css => exact ⟨i, rfl, by simp⟩

set_option maxHeartbeats 4000000 in
theorem RingWhole_ok {x0 x1 : Bool} {x2 x3 : Int} {a0 : Option Addr} {n : Nat} {l : Ws} (ha : Arg a0 n (l.map fun v => [W v]) M) (hs : Sep H M) : CA en F.crossbarlaw17_RingWhole [.bool x0, .bool x1, I x2, I x3, .slice a0 n 0] H fun v _ => v = .bool true := by
  have en0 := ha.len
  rw [List.length_map] at en0
  subst en0
  apply vc_crossbarlaw17_RingWhole
  refine rgdecl_s hs fun H2 cf ok hst h2 => ⟨_, _, _, _, _, rfl, Sep.nw h2 fun i8 H9 h9 => Sep.st0 h9 (Nat.le_of_ble_eq_true rfl) fun H10 h10 => ⟨_, _, _, _, _, Sep.lds0 h10 rfl, ?_⟩⟩
  refine rgmade_s ok h10 fun H17 m x S o h17 => ⟨_, rfl, cond_no rfl ?_⟩
  subst hst
  have w0 : WI m x i8 cf M [] 0 [] none H17 := by
    refine ⟨Nat.zero_le _, S, _, 0, many [], 0, o, Int.le_refl _, ri_new ok, ?_, .none, Sep.many_iff.2 h17⟩
    have hz : ∀ i, i < 4 → (List.replicate (4 + cf.en * cf.wd) (0 : BitVec 64)).getD i 0 = 0 := fun i hi => by
      rw [List.getD_eq_getElem?_getD, List.getElem?_replicate, if_pos (by omega)]; rfl
    rw [hz 0 (by omega), hz 1 (by omega)]
  have hrd := rd_of ha
  have e1 := ok.e1
  have e2 := ok.e2
  have ew2 := ok.w2
  have hcut : 100 < l.length → ∃ i, a0 = some ⟨i, 0, none⟩ ∧ H17.get i = some (.cells false 0 (l.map fun v => [W v]).flatten) ∧ Rd M (some ⟨i, 0 + 0 * 1, none⟩) (l.take 100) := fun hlen => by
    obtain ⟨i, hi, hm⟩ := arg_first ha (by omega)
    exact ⟨i, hi, h17.all _ (List.mem_cons_of_mem _ (List.mem_cons_of_mem _ (List.mem_cons_of_mem _ hm))), by have := hrd.take 100; rw [hi] at this; exact this⟩
  cases x1
  · refine cond_no rfl ?_
    refine cond_of (fun hlen => ⟨⟨by decide, by simp only [decide_eq_true_eq] at hlen; omega⟩, ?_⟩) fun hlen => ?_
    · have hlen : 100 < l.length := by simp only [decide_eq_true_eq] at hlen; omega
      obtain ⟨i, rfl, hg, hr⟩ := hcut hlen
      refine ⟨⟨_, _, _, hg, .inl rfl⟩, ?_⟩
      obtain ⟨l', hl', hN⟩ : ∃ l' : Ws, l' = l.take 100 ∧ l'.length = 100 := ⟨_, rfl, by simp; omega⟩
      rw [← hl'] at hr
      clear hrd hcut ha hg hl'
      refine use_crossbarlaw17_RingWhole_0 (fun k t10 kp kl t15 H' => ∃ (j : Nat) (kept : Ws), j ≤ l'.length ∧ k = l'.length - j ∧ t15 = (j : Int) ∧ kept.length = kl ∧ WI m x i8 cf M [] (100 * j) kept kp H') l'.length ⟨0, [], Nat.zero_le _, rfl, rfl, rfl, by simpa using w0⟩ ?_
      rintro k t10 kp kl t15 ys H3 ⟨j, kept, hj, rfl, rfl, rfl, w⟩
      obtain ⟨S1, ws1, e1, A1, c1, o1, hc1, ri1, hs1, hk1, h1⟩ := w.ex
      have hM : ∀ (A B C D : Asr), ∀ X ∈ M, X ∈ A :: B :: C :: D :: M := fun A B C D X hX => by simp [hX]
      refine asSlice_of (cond_of (fun hc => ?_) fun hc => ?_)
      · have hj1 : j < l'.length := by simp only [decide_eq_true_eq] at hc; omega
        refine ⟨_, Sep.ld3 h1 rfl, ?_⟩
        have hB := h1.bump 13
        have wB : WI m x i8 cf M [] (100 * j) kept kp (H3.bump 13) := ⟨w.fit, S1, ws1, e1, A1, c1, o1, hc1, ri1, hs1, hk1, hB⟩
        refine cond_of (fun hf => ?_) fun hf => ?_
        · have hf : kept.length = cf.en := by simp at hf; omega
          refine cond_yes rfl (asSlice_of ⟨by unfold inB; omega, hr _ _ hB (hM _ _ _ _) j hj1 _ fun i hi => ⟨_, hi, _, Sep.ld3 hB rfl, ?_⟩⟩)
          refine value_s (by omega) hB fun H33 ov ho h33 => ⟨_, _, rfl, push_s' h33 fun H34 h34 => ⟨_, _, _, _, _, _, rfl, ?_⟩⟩
          have wP : WI m x i8 cf (gl 1 ov (wdR (valW (l'.getD j 0) cf.wd)) :: M) [] (100 * j) kept kp H34 := ⟨w.fit, S1, ws1, e1, A1, c1, o1, hc1, ri1, hs1, hk1, Sep.pick h34 5 [1, 2, 3, 4, 0] (by decide)⟩
          refine whole_put ok wP ho (by omega) (by rw [if_pos hf, if_pos rfl]) fun H4 S' ws' c' e' A' o' hc' ri' hs' hk' h' => ⟨_, rfl, cond_no rfl ⟨l'.length - (j + 1), by omega, j + 1, kept, by omega, rfl, by rw [wrap_i64 (by omega)]; omega, rfl, ?_⟩, trivial⟩
          refine ⟨w.fit, S', ws', e', A', c', o', by omega, ?_, hs', hk', h'⟩
          rw [if_pos hf, if_pos rfl] at ri'
          exact ri'
        · have hf : ¬ kept.length = cf.en := by simp at hf; omega
          have hfit := w.fit
          refine asSlice_of ⟨by unfold inB; omega, hr _ _ hB (hM _ _ _ _) j hj1 _ fun i hi => ⟨_, hi, _, Sep.ld3 hB rfl, ?_⟩⟩
          refine value_s (by omega) hB fun H33 ov ho h33 => ⟨_, _, rfl, push_s' h33 fun H34 h34 => ⟨_, _, _, _, _, _, rfl, ?_⟩⟩
          have wP : WI m x i8 cf (gl 1 ov (wdR (valW (l'.getD j 0) cf.wd)) :: M) [] (100 * j) kept kp H34 := ⟨w.fit, S1, ws1, e1, A1, c1, o1, hc1, ri1, hs1, hk1, Sep.pick h34 5 [1, 2, 3, 4, 0] (by decide)⟩
          refine whole_put ok wP ho (by omega) (by rw [if_neg hf]) fun H4 S' ws' c' e' A' o' hc' ri' hs' hk' h' => ⟨_, rfl, cond_no rfl ⟨_, Sep.ld3 h' rfl, cond_no (by simp; omega) ?_⟩, trivial⟩
          refine asSlice_of ⟨by unfold inB; omega, hr _ _ h' (hM _ _ _ _) j hj1 _ fun i hi => ⟨_, hi, Sep.nw h' fun i54 H55 h55 => ⟨[W (l'.getD j 0)], rowOf_bx (es := 1) (n := 1) (b := i54) (Sep.get0 h55) (by decide) rfl, ?_⟩⟩⟩
          refine kp_append hk' (Sep.up1 h55) (by omega) fun H6 q A6 hk6 h6 => ⟨l'.length - (j + 1), by omega, j + 1, kept ++ [l'.getD j 0], by omega, rfl, by rw [wrap_i64 (by omega)]; omega, by simp, ?_⟩
          refine ⟨by simp; omega, S', ws', e', A6, c', o', by omega, ?_, hs', hk6, h6.rm1⟩
          rw [if_neg hf] at ri'
          simpa [vals] using ri'
      · have hj1 : j = l'.length := by simp only [decide_eq_false_iff_not] at hc; omega
        have hfit := w.fit
        refine asBool_in (asSl_in ?_)
        refine use_crossbarlaw17_RingWhole_1 (fun k t10 kp kl H' => ∃ (kept : Ws) (post : List Value), kept.length = k ∧ kept.length = kl ∧ WI m x i8 cf M post (30000 - 200 * kept.length) kept kp H') kept.length ⟨kept, [], rfl, rfl, w.fit, S1, ws1, e1, A1, c1, o1, by omega, ri1, hs1, hk1, h1⟩ ?_
        rintro k t10 kp kl ys H5 ⟨kept, post, rfl, rfl, w⟩
        clear hc hfit
        obtain ⟨S1, ws1, e1, A1, c1, o1, hc1, ri1, hs1, hk1, h1⟩ := w.ex
        have hfit := w.fit
        refine cond_of (fun hc => ?_) fun hc => ?_
        · have h0 : 0 < kept.length := by simp only [decide_eq_true_eq] at hc; omega
          obtain ⟨kb, pre, ekp, eA⟩ := kp_len hk1 h0
          subst ekp eA
          refine ⟨⟨by decide, by omega⟩, ⟨⟨_, _, _, Sep.get0 h1, .inr rfl⟩, ?_⟩⟩
          have hB := h1.bump 8
          have wB : WI m x i8 cf M post (30000 - 200 * kept.length) kept (some ⟨kb, pre.length, none⟩) (H5.bump 8) := ⟨w.fit, S1, ws1, e1, _, c1, o1, hc1, ri1, hs1, hk1, hB⟩
          refine cond_of (fun hst => ?_) fun hst => ?_
          · obtain ⟨k0, v, rfl⟩ : ∃ k0 v, kept = k0 ++ [v] := ⟨kept.dropLast, kept.getLast (by rintro rfl; simp at h0), (List.dropLast_concat_getLast _).symm⟩
            have el : (k0 ++ [v]).length = k0.length + 1 := by simp
            have ew : IntKind.i64.wrap (((k0 ++ [v]).length : Nat) - 1 : Int) = (k0.length : Int) := by rw [el, wrap_i64 (by omega)]; omega
            rw [ew, Int.toNat_natCast]
            refine ⟨⟨by omega, by rw [el]; omega⟩, ⟨⟨_, _, _, Sep.get0 h1, .inr rfl⟩, ⟨⟨by omega, by rw [el]; omega⟩, asRow_in ⟨v.toNat, Sep.ld0 hB ?_, _, Sep.ld3 hB rfl, ?_⟩⟩⟩⟩
            · rw [Nat.mul_one, List.getElem?_append_right (Nat.le_add_right _ _), Nat.add_sub_cancel_left]
              simp
            · refine value_s (by omega) hB fun H6 ov ho h6 => ⟨_, _, rfl, ?_, trivial⟩
              refine peek_s h6 fun H7 h7 => ⟨_, _, _, _, _, _, rfl, ?_⟩
              have w1 : WI m x i8 cf (gl 1 ov (wdR (valW v cf.wd)) :: M) post (30000 - 200 * (k0 ++ [v]).length) (k0 ++ [v]) (some ⟨kb, pre.length, none⟩) H7 := ⟨w.fit, S1, ws1, e1, _, c1, o1, hc1, ri1, hs1, hk1, Sep.pick h7 5 [1, 2, 3, 4, 0] (by decide)⟩
              have key := fun R a ha hR => whole_take (R := R) (kind := 8) (no := 0) (val := valW v cf.wd) (a := a) ok w1 (by omega) (by decide) ho (by rw [rdo_stack hst (by decide)]) (by rw [rdo_stack hst (by decide)]) ha hR
              simp only [valW_len] at key
              refine key _ _ rfl fun H8 S3 ws3 c3 e3 A3 o3 hc3 ri3 hs3 hk3 h3 => ⟨_, rfl, cond_no rfl ?_⟩
              rw [rdo_stack hst (by decide)] at ri3
              refine pop_s h3 fun H9 h9 => ⟨_, _, _, _, _, _, rfl, ?_⟩
              have w2 : WI m x i8 cf (gl 1 ov (wdR (valW v cf.wd)) :: M) post (30000 - 200 * (k0 ++ [v]).length + 100) (k0 ++ [v]) (some ⟨kb, pre.length, none⟩) H9 := ⟨w.fit, S3, ws3, e3, A3, c3, o3, hc3, ri3, hs3, hk3, h9⟩
              have key := fun R a ha hR => whole_take (R := R) (kind := 7) (no := 0) (val := valW v cf.wd) (a := a) ok w2 (by omega) (by decide) ho (by rw [rdo_stack hst (by decide)]) (by rw [rdo_stack hst (by decide)]) ha hR
              simp only [valW_len] at key
              refine key _ _ rfl fun H' S' ws' c' e' A' o' hc' ri' hs' hk' h' => ⟨_, rfl, cond_no rfl ⟨k0.length, by rw [el]; omega, asSl_in ⟨k0, W v :: post, rfl, rfl, by rw [el] at hfit; omega, S', ws', e', A', c', o', by rw [el] at hc'; omega, by rw [rdo_stack hst (by decide)] at ri'; exact ri', hs', ?_, Sep.pick h' 5 [0, 1, 2, 3] (by decide)⟩⟩⟩
              exact kp_init hk'
          · obtain ⟨v, k0, rfl⟩ : ∃ v k0, kept = v :: k0 := List.exists_cons_of_ne_nil (by rintro rfl; simp at h0)
            have el : (v :: k0).length = k0.length + 1 := rfl
            refine ⟨⟨by decide, by omega⟩, asRow_in ⟨v.toNat, Sep.ld0 hB ?_, _, Sep.ld3 hB rfl, ?_⟩⟩
            · rw [List.getElem?_append_right (Nat.le_refl _), Nat.sub_self]; rfl
            · refine value_s (by omega) hB fun H6 ov ho h6 => ⟨_, _, rfl, ?_, trivial⟩
              refine peek_s h6 fun H7 h7 => ⟨_, _, _, _, _, _, rfl, ?_⟩
              have w1 : WI m x i8 cf (gl 1 ov (wdR (valW v cf.wd)) :: M) post (30000 - 200 * (v :: k0).length) (v :: k0) (some ⟨kb, pre.length, none⟩) H7 := ⟨w.fit, S1, ws1, e1, _, c1, o1, hc1, ri1, hs1, hk1, Sep.pick h7 5 [1, 2, 3, 4, 0] (by decide)⟩
              have key := fun R a ha hR => whole_take (R := R) (kind := 8) (no := 0) (val := valW v cf.wd) (a := a) ok w1 (by omega) (by decide) ho (by rw [rdo_queue hst (by decide)]) (by rw [rdo_queue hst (by decide)]) ha hR
              simp only [valW_len] at key
              refine key _ _ rfl fun H8 S3 ws3 c3 e3 A3 o3 hc3 ri3 hs3 hk3 h3 => ⟨_, rfl, cond_no rfl ?_⟩
              rw [rdo_queue hst (by decide)] at ri3
              refine pop_s h3 fun H9 h9 => ⟨_, _, _, _, _, _, rfl, ?_⟩
              have w2 : WI m x i8 cf (gl 1 ov (wdR (valW v cf.wd)) :: M) post (30000 - 200 * (v :: k0).length + 100) (v :: k0) (some ⟨kb, pre.length, none⟩) H9 := ⟨w.fit, S3, ws3, e3, A3, c3, o3, hc3, ri3, hs3, hk3, h9⟩
              have key := fun R a ha hR => whole_take (R := R) (kind := 7) (no := 0) (val := valW v cf.wd) (a := a) ok w2 (by omega) (by decide) ho (by rw [rdo_queue hst (by decide)]) (by rw [rdo_queue hst (by decide)]) ha hR
              simp only [valW_len] at key
              refine key _ _ rfl fun H' S' ws' c' e' A' o' hc' ri' hs' hk' h' => ⟨_, rfl, cond_no rfl ⟨k0.length, by rw [el]; omega, asSl_in ⟨k0, post, rfl, rfl, by rw [el] at hfit; omega, S', ws', e', A', c', o', by rw [el] at hc'; omega, by rw [rdo_queue hst (by decide)] at ri'; exact ri', hs', ?_, Sep.pick h' 5 [0, 1, 2, 3] (by decide)⟩⟩⟩
              exact kp_tail hk'
        · have h0 : kept.length = 0 := by simp only [decide_eq_false_iff_not] at hc; omega
          obtain rfl := List.eq_nil_of_length_eq_zero h0
          refine asBool_in (peek_s h1 fun H6 h6 => ⟨_, _, _, _, _, _, rfl, ?_⟩)
          have w6 : WI m x i8 cf (gl 1 none (wdR []) :: M) post 30000 [] kp H6 := ⟨Nat.zero_le _, S1, ws1, e1, A1, c1, o1, by simpa using hc1, ri1, hs1, hk1, Sep.pick (gl_none.2 h6) 5 [1, 2, 3, 4, 0] (by decide)⟩
          refine whole_take (val := []) (ov := none) ok w6 (by omega) (by decide) (fun _ => rfl) rfl rfl rfl fun H7 S' ws' c' e' A' o' hc' ri' hs' hk' h' => ⟨_, rfl, cond_yes rfl (CA_truth (by kernel_rfl) ⟨_, rfl, rfl⟩)⟩
    · have hlen : l.length ≤ 100 := by simp only [decide_eq_false_iff_not] at hlen; omega
      obtain ⟨l', hl', hN, hr⟩ : ∃ l' : Ws, l' = l ∧ l'.length = l.length ∧ Rd M a0 l' := ⟨_, rfl, rfl, hrd⟩
      clear hrd hcut ha hl'
      refine use_crossbarlaw17_RingWhole_0 (fun k t10 kp kl t15 H' => ∃ (j : Nat) (kept : Ws), j ≤ l'.length ∧ k = l'.length - j ∧ t15 = (j : Int) ∧ kept.length = kl ∧ WI m x i8 cf M [] (100 * j) kept kp H') l'.length ⟨0, [], Nat.zero_le _, rfl, rfl, rfl, by simpa using w0⟩ ?_
      rintro k t10 kp kl t15 ys H3 ⟨j, kept, hj, rfl, rfl, rfl, w⟩
      obtain ⟨S1, ws1, e1, A1, c1, o1, hc1, ri1, hs1, hk1, h1⟩ := w.ex
      have hM : ∀ (A B C D : Asr), ∀ X ∈ M, X ∈ A :: B :: C :: D :: M := fun A B C D X hX => by simp [hX]
      refine asSlice_of (cond_of (fun hc => ?_) fun hc => ?_)
      · have hj1 : j < l'.length := by simp only [decide_eq_true_eq] at hc; omega
        refine ⟨_, Sep.ld3 h1 rfl, ?_⟩
        have hB := h1.bump 13
        have wB : WI m x i8 cf M [] (100 * j) kept kp (H3.bump 13) := ⟨w.fit, S1, ws1, e1, A1, c1, o1, hc1, ri1, hs1, hk1, hB⟩
        refine cond_of (fun hf => ?_) fun hf => ?_
        · have hf : kept.length = cf.en := by simp at hf; omega
          refine cond_yes rfl (asSlice_of ⟨by unfold inB; omega, hr _ _ hB (hM _ _ _ _) j hj1 _ fun i hi => ⟨_, hi, _, Sep.ld3 hB rfl, ?_⟩⟩)
          refine value_s (by omega) hB fun H33 ov ho h33 => ⟨_, _, rfl, push_s' h33 fun H34 h34 => ⟨_, _, _, _, _, _, rfl, ?_⟩⟩
          have wP : WI m x i8 cf (gl 1 ov (wdR (valW (l'.getD j 0) cf.wd)) :: M) [] (100 * j) kept kp H34 := ⟨w.fit, S1, ws1, e1, A1, c1, o1, hc1, ri1, hs1, hk1, Sep.pick h34 5 [1, 2, 3, 4, 0] (by decide)⟩
          refine whole_put ok wP ho (by omega) (by rw [if_pos hf, if_pos rfl]) fun H4 S' ws' c' e' A' o' hc' ri' hs' hk' h' => ⟨_, rfl, cond_no rfl ⟨l'.length - (j + 1), by omega, j + 1, kept, by omega, rfl, by rw [wrap_i64 (by omega)]; omega, rfl, ?_⟩, trivial⟩
          refine ⟨w.fit, S', ws', e', A', c', o', by omega, ?_, hs', hk', h'⟩
          rw [if_pos hf, if_pos rfl] at ri'
          exact ri'
        · have hf : ¬ kept.length = cf.en := by simp at hf; omega
          have hfit := w.fit
          refine asSlice_of ⟨by unfold inB; omega, hr _ _ hB (hM _ _ _ _) j hj1 _ fun i hi => ⟨_, hi, _, Sep.ld3 hB rfl, ?_⟩⟩
          refine value_s (by omega) hB fun H33 ov ho h33 => ⟨_, _, rfl, push_s' h33 fun H34 h34 => ⟨_, _, _, _, _, _, rfl, ?_⟩⟩
          have wP : WI m x i8 cf (gl 1 ov (wdR (valW (l'.getD j 0) cf.wd)) :: M) [] (100 * j) kept kp H34 := ⟨w.fit, S1, ws1, e1, A1, c1, o1, hc1, ri1, hs1, hk1, Sep.pick h34 5 [1, 2, 3, 4, 0] (by decide)⟩
          refine whole_put ok wP ho (by omega) (by rw [if_neg hf]) fun H4 S' ws' c' e' A' o' hc' ri' hs' hk' h' => ⟨_, rfl, cond_no rfl ⟨_, Sep.ld3 h' rfl, cond_no (by simp; omega) ?_⟩, trivial⟩
          refine asSlice_of ⟨by unfold inB; omega, hr _ _ h' (hM _ _ _ _) j hj1 _ fun i hi => ⟨_, hi, Sep.nw h' fun i54 H55 h55 => ⟨[W (l'.getD j 0)], rowOf_bx (es := 1) (n := 1) (b := i54) (Sep.get0 h55) (by decide) rfl, ?_⟩⟩⟩
          refine kp_append hk' (Sep.up1 h55) (by omega) fun H6 q A6 hk6 h6 => ⟨l'.length - (j + 1), by omega, j + 1, kept ++ [l'.getD j 0], by omega, rfl, by rw [wrap_i64 (by omega)]; omega, by simp, ?_⟩
          refine ⟨by simp; omega, S', ws', e', A6, c', o', by omega, ?_, hs', hk6, h6.rm1⟩
          rw [if_neg hf] at ri'
          simpa [vals] using ri'
      · have hj1 : j = l'.length := by simp only [decide_eq_false_iff_not] at hc; omega
        have hfit := w.fit
        refine asBool_in (asSl_in ?_)
        refine use_crossbarlaw17_RingWhole_1 (fun k t10 kp kl H' => ∃ (kept : Ws) (post : List Value), kept.length = k ∧ kept.length = kl ∧ WI m x i8 cf M post (30000 - 200 * kept.length) kept kp H') kept.length ⟨kept, [], rfl, rfl, w.fit, S1, ws1, e1, A1, c1, o1, by omega, ri1, hs1, hk1, h1⟩ ?_
        rintro k t10 kp kl ys H5 ⟨kept, post, rfl, rfl, w⟩
        clear hc hfit
        obtain ⟨S1, ws1, e1, A1, c1, o1, hc1, ri1, hs1, hk1, h1⟩ := w.ex
        have hfit := w.fit
        refine cond_of (fun hc => ?_) fun hc => ?_
        · have h0 : 0 < kept.length := by simp only [decide_eq_true_eq] at hc; omega
          obtain ⟨kb, pre, ekp, eA⟩ := kp_len hk1 h0
          subst ekp eA
          refine ⟨⟨by decide, by omega⟩, ⟨⟨_, _, _, Sep.get0 h1, .inr rfl⟩, ?_⟩⟩
          have hB := h1.bump 8
          have wB : WI m x i8 cf M post (30000 - 200 * kept.length) kept (some ⟨kb, pre.length, none⟩) (H5.bump 8) := ⟨w.fit, S1, ws1, e1, _, c1, o1, hc1, ri1, hs1, hk1, hB⟩
          refine cond_of (fun hst => ?_) fun hst => ?_
          · obtain ⟨k0, v, rfl⟩ : ∃ k0 v, kept = k0 ++ [v] := ⟨kept.dropLast, kept.getLast (by rintro rfl; simp at h0), (List.dropLast_concat_getLast _).symm⟩
            have el : (k0 ++ [v]).length = k0.length + 1 := by simp
            have ew : IntKind.i64.wrap (((k0 ++ [v]).length : Nat) - 1 : Int) = (k0.length : Int) := by rw [el, wrap_i64 (by omega)]; omega
            rw [ew, Int.toNat_natCast]
            refine ⟨⟨by omega, by rw [el]; omega⟩, ⟨⟨_, _, _, Sep.get0 h1, .inr rfl⟩, ⟨⟨by omega, by rw [el]; omega⟩, asRow_in ⟨v.toNat, Sep.ld0 hB ?_, _, Sep.ld3 hB rfl, ?_⟩⟩⟩⟩
            · rw [Nat.mul_one, List.getElem?_append_right (Nat.le_add_right _ _), Nat.add_sub_cancel_left]
              simp
            · refine value_s (by omega) hB fun H6 ov ho h6 => ⟨_, _, rfl, ?_, trivial⟩
              refine peek_s h6 fun H7 h7 => ⟨_, _, _, _, _, _, rfl, ?_⟩
              have w1 : WI m x i8 cf (gl 1 ov (wdR (valW v cf.wd)) :: M) post (30000 - 200 * (k0 ++ [v]).length) (k0 ++ [v]) (some ⟨kb, pre.length, none⟩) H7 := ⟨w.fit, S1, ws1, e1, _, c1, o1, hc1, ri1, hs1, hk1, Sep.pick h7 5 [1, 2, 3, 4, 0] (by decide)⟩
              have key := fun R a ha hR => whole_take (R := R) (kind := 8) (no := 0) (val := valW v cf.wd) (a := a) ok w1 (by omega) (by decide) ho (by rw [rdo_stack hst (by decide)]) (by rw [rdo_stack hst (by decide)]) ha hR
              simp only [valW_len] at key
              refine key _ _ rfl fun H8 S3 ws3 c3 e3 A3 o3 hc3 ri3 hs3 hk3 h3 => ⟨_, rfl, cond_no rfl ?_⟩
              rw [rdo_stack hst (by decide)] at ri3
              refine pop_s h3 fun H9 h9 => ⟨_, _, _, _, _, _, rfl, ?_⟩
              have w2 : WI m x i8 cf (gl 1 ov (wdR (valW v cf.wd)) :: M) post (30000 - 200 * (k0 ++ [v]).length + 100) (k0 ++ [v]) (some ⟨kb, pre.length, none⟩) H9 := ⟨w.fit, S3, ws3, e3, A3, c3, o3, hc3, ri3, hs3, hk3, h9⟩
              have key := fun R a ha hR => whole_take (R := R) (kind := 7) (no := 0) (val := valW v cf.wd) (a := a) ok w2 (by omega) (by decide) ho (by rw [rdo_stack hst (by decide)]) (by rw [rdo_stack hst (by decide)]) ha hR
              simp only [valW_len] at key
              refine key _ _ rfl fun H' S' ws' c' e' A' o' hc' ri' hs' hk' h' => ⟨_, rfl, cond_no rfl ⟨k0.length, by rw [el]; omega, asSl_in ⟨k0, W v :: post, rfl, rfl, by rw [el] at hfit; omega, S', ws', e', A', c', o', by rw [el] at hc'; omega, by rw [rdo_stack hst (by decide)] at ri'; exact ri', hs', ?_, Sep.pick h' 5 [0, 1, 2, 3] (by decide)⟩⟩⟩
              exact kp_init hk'
          · obtain ⟨v, k0, rfl⟩ : ∃ v k0, kept = v :: k0 := List.exists_cons_of_ne_nil (by rintro rfl; simp at h0)
            have el : (v :: k0).length = k0.length + 1 := rfl
            refine ⟨⟨by decide, by omega⟩, asRow_in ⟨v.toNat, Sep.ld0 hB ?_, _, Sep.ld3 hB rfl, ?_⟩⟩
            · rw [List.getElem?_append_right (Nat.le_refl _), Nat.sub_self]; rfl
            · refine value_s (by omega) hB fun H6 ov ho h6 => ⟨_, _, rfl, ?_, trivial⟩
              refine peek_s h6 fun H7 h7 => ⟨_, _, _, _, _, _, rfl, ?_⟩
              have w1 : WI m x i8 cf (gl 1 ov (wdR (valW v cf.wd)) :: M) post (30000 - 200 * (v :: k0).length) (v :: k0) (some ⟨kb, pre.length, none⟩) H7 := ⟨w.fit, S1, ws1, e1, _, c1, o1, hc1, ri1, hs1, hk1, Sep.pick h7 5 [1, 2, 3, 4, 0] (by decide)⟩
              have key := fun R a ha hR => whole_take (R := R) (kind := 8) (no := 0) (val := valW v cf.wd) (a := a) ok w1 (by omega) (by decide) ho (by rw [rdo_queue hst (by decide)]) (by rw [rdo_queue hst (by decide)]) ha hR
              simp only [valW_len] at key
              refine key _ _ rfl fun H8 S3 ws3 c3 e3 A3 o3 hc3 ri3 hs3 hk3 h3 => ⟨_, rfl, cond_no rfl ?_⟩
              rw [rdo_queue hst (by decide)] at ri3
              refine pop_s h3 fun H9 h9 => ⟨_, _, _, _, _, _, rfl, ?_⟩
              have w2 : WI m x i8 cf (gl 1 ov (wdR (valW v cf.wd)) :: M) post (30000 - 200 * (v :: k0).length + 100) (v :: k0) (some ⟨kb, pre.length, none⟩) H9 := ⟨w.fit, S3, ws3, e3, A3, c3, o3, hc3, ri3, hs3, hk3, h9⟩
              have key := fun R a ha hR => whole_take (R := R) (kind := 7) (no := 0) (val := valW v cf.wd) (a := a) ok w2 (by omega) (by decide) ho (by rw [rdo_queue hst (by decide)]) (by rw [rdo_queue hst (by decide)]) ha hR
              simp only [valW_len] at key
              refine key _ _ rfl fun H' S' ws' c' e' A' o' hc' ri' hs' hk' h' => ⟨_, rfl, cond_no rfl ⟨k0.length, by rw [el]; omega, asSl_in ⟨k0, post, rfl, rfl, by rw [el] at hfit; omega, S', ws', e', A', c', o', by rw [el] at hc'; omega, by rw [rdo_queue hst (by decide)] at ri'; exact ri', hs', ?_, Sep.pick h' 5 [0, 1, 2, 3] (by decide)⟩⟩⟩
              exact kp_tail hk'
        · have h0 : kept.length = 0 := by simp only [decide_eq_false_iff_not] at hc; omega
          obtain rfl := List.eq_nil_of_length_eq_zero h0
          refine asBool_in (peek_s h1 fun H6 h6 => ⟨_, _, _, _, _, _, rfl, ?_⟩)
          have w6 : WI m x i8 cf (gl 1 none (wdR []) :: M) post 30000 [] kp H6 := ⟨Nat.zero_le _, S1, ws1, e1, A1, c1, o1, by simpa using hc1, ri1, hs1, hk1, Sep.pick (gl_none.2 h6) 5 [1, 2, 3, 4, 0] (by decide)⟩
          refine whole_take (val := []) (ov := none) ok w6 (by omega) (by decide) (fun _ => rfl) rfl rfl rfl fun H7 S' ws' c' e' A' o' hc' ri' hs' hk' h' => ⟨_, rfl, cond_yes rfl (CA_truth (by kernel_rfl) ⟨_, rfl, rfl⟩)⟩
  · refine cond_yes rfl ?_
    refine cond_of (fun hlen => ⟨⟨by decide, by simp only [decide_eq_true_eq] at hlen; omega⟩, ?_⟩) fun hlen => ?_
    · have hlen : 100 < l.length := by simp only [decide_eq_true_eq] at hlen; omega
      obtain ⟨i, rfl, hg, hr⟩ := hcut hlen
      refine ⟨⟨_, _, _, hg, .inl rfl⟩, ?_⟩
      obtain ⟨l', hl', hN⟩ : ∃ l' : Ws, l' = l.take 100 ∧ l'.length = 100 := ⟨_, rfl, by simp; omega⟩
      rw [← hl'] at hr
      clear hrd hcut ha hg hl'
      refine use_crossbarlaw17_RingWhole_0 (fun k t10 kp kl t15 H' => ∃ (j : Nat) (kept : Ws), j ≤ l'.length ∧ k = l'.length - j ∧ t15 = (j : Int) ∧ kept.length = kl ∧ WI m x i8 cf M [] (100 * j) kept kp H') l'.length ⟨0, [], Nat.zero_le _, rfl, rfl, rfl, by simpa using w0⟩ ?_
      rintro k t10 kp kl t15 ys H3 ⟨j, kept, hj, rfl, rfl, rfl, w⟩
      obtain ⟨S1, ws1, e1, A1, c1, o1, hc1, ri1, hs1, hk1, h1⟩ := w.ex
      have hM : ∀ (A B C D : Asr), ∀ X ∈ M, X ∈ A :: B :: C :: D :: M := fun A B C D X hX => by simp [hX]
      refine asSlice_of (cond_of (fun hc => ?_) fun hc => ?_)
      · have hj1 : j < l'.length := by simp only [decide_eq_true_eq] at hc; omega
        refine ⟨_, Sep.ld3 h1 rfl, ?_⟩
        have hB := h1.bump 13
        have wB : WI m x i8 cf M [] (100 * j) kept kp (H3.bump 13) := ⟨w.fit, S1, ws1, e1, A1, c1, o1, hc1, ri1, hs1, hk1, hB⟩
        refine cond_of (fun hf => ?_) fun hf => ?_
        · have hf : kept.length = cf.en := by simp at hf; omega
          refine cond_no rfl (asSlice_of ⟨by unfold inB; omega, hr _ _ hB (hM _ _ _ _) j hj1 _ fun i hi => ⟨_, hi, _, Sep.ld3 hB rfl, ?_⟩⟩)
          refine value_s (by omega) hB fun H33 ov ho h33 => ⟨_, _, rfl, push_s' h33 fun H34 h34 => ⟨_, _, _, _, _, _, rfl, ?_⟩⟩
          have wP : WI m x i8 cf (gl 1 ov (wdR (valW (l'.getD j 0) cf.wd)) :: M) [] (100 * j) kept kp H34 := ⟨w.fit, S1, ws1, e1, A1, c1, o1, hc1, ri1, hs1, hk1, Sep.pick h34 5 [1, 2, 3, 4, 0] (by decide)⟩
          refine whole_put ok wP ho (by omega) (by rw [if_pos hf, if_neg (by decide)]) fun H4 S' ws' c' e' A' o' hc' ri' hs' hk' h' => ⟨_, rfl, cond_no rfl ⟨_, Sep.ld3 h' rfl, cond_yes (by simp; omega) ?_⟩, trivial⟩
          obtain ⟨kb, pre, ekp, eA⟩ := kp_len hk' (by omega)
          subst ekp eA
          refine ⟨⟨by decide, by omega⟩, ⟨⟨_, _, _, Sep.get0 h', .inr rfl⟩, ?_⟩⟩
          obtain ⟨k0, rest, rfl⟩ : ∃ k0 rest, kept = k0 :: rest := List.exists_cons_of_ne_nil (by rintro rfl; simp at hf; omega)
          refine asSlice_of ⟨by unfold inB; omega, hr _ _ h' (hM _ _ _ _) j hj1 _ fun i hi => ⟨_, hi, Sep.nw h' fun i54 H55 h55 => asSlice_of ⟨[W (l'.getD j 0)], rowOf_bx (es := 1) (n := 1) (b := i54) (Sep.get0 h55) (by decide) rfl, ?_⟩⟩⟩
          have eA : pre ++ (wdR (k0 :: rest) ++ []) = (pre ++ [W k0]) ++ (wdR rest ++ []) := by simp
          have h56 := Sep.up1 h55
          rw [eA] at h56
          have hk2 := KP.some kb (pre ++ [W k0]) [] rest
          have el : (pre ++ [W k0]).length = pre.length + 1 * 1 := by simp
          rw [el] at hk2
          refine kp_append hk2 h56 (by simp at hf; omega) fun H6 q A6 hk6 h6 => ⟨l'.length - (j + 1), by omega, j + 1, rest ++ [l'.getD j 0], by omega, rfl, by rw [wrap_i64 (by omega)]; omega, by simp, ?_⟩
          refine ⟨by simp at hf ⊢; omega, S', ws', e', A6, c', o', by omega, ?_, hs', hk6, h6.rm1⟩
          rw [if_pos hf, if_neg (by decide)] at ri'
          simpa [vals] using ri'
        · have hf : ¬ kept.length = cf.en := by simp at hf; omega
          have hfit := w.fit
          refine asSlice_of ⟨by unfold inB; omega, hr _ _ hB (hM _ _ _ _) j hj1 _ fun i hi => ⟨_, hi, _, Sep.ld3 hB rfl, ?_⟩⟩
          refine value_s (by omega) hB fun H33 ov ho h33 => ⟨_, _, rfl, push_s' h33 fun H34 h34 => ⟨_, _, _, _, _, _, rfl, ?_⟩⟩
          have wP : WI m x i8 cf (gl 1 ov (wdR (valW (l'.getD j 0) cf.wd)) :: M) [] (100 * j) kept kp H34 := ⟨w.fit, S1, ws1, e1, A1, c1, o1, hc1, ri1, hs1, hk1, Sep.pick h34 5 [1, 2, 3, 4, 0] (by decide)⟩
          refine whole_put ok wP ho (by omega) (by rw [if_neg hf]) fun H4 S' ws' c' e' A' o' hc' ri' hs' hk' h' => ⟨_, rfl, cond_no rfl ⟨_, Sep.ld3 h' rfl, cond_no (by simp; omega) ?_⟩, trivial⟩
          refine asSlice_of ⟨by unfold inB; omega, hr _ _ h' (hM _ _ _ _) j hj1 _ fun i hi => ⟨_, hi, Sep.nw h' fun i54 H55 h55 => ⟨[W (l'.getD j 0)], rowOf_bx (es := 1) (n := 1) (b := i54) (Sep.get0 h55) (by decide) rfl, ?_⟩⟩⟩
          refine kp_append hk' (Sep.up1 h55) (by omega) fun H6 q A6 hk6 h6 => ⟨l'.length - (j + 1), by omega, j + 1, kept ++ [l'.getD j 0], by omega, rfl, by rw [wrap_i64 (by omega)]; omega, by simp, ?_⟩
          refine ⟨by simp; omega, S', ws', e', A6, c', o', by omega, ?_, hs', hk6, h6.rm1⟩
          rw [if_neg hf] at ri'
          simpa [vals] using ri'
      · have hj1 : j = l'.length := by simp only [decide_eq_false_iff_not] at hc; omega
        have hfit := w.fit
        refine asBool_in (asSl_in ?_)
        refine use_crossbarlaw17_RingWhole_1 (fun k t10 kp kl H' => ∃ (kept : Ws) (post : List Value), kept.length = k ∧ kept.length = kl ∧ WI m x i8 cf M post (30000 - 200 * kept.length) kept kp H') kept.length ⟨kept, [], rfl, rfl, w.fit, S1, ws1, e1, A1, c1, o1, by omega, ri1, hs1, hk1, h1⟩ ?_
        rintro k t10 kp kl ys H5 ⟨kept, post, rfl, rfl, w⟩
        clear hc hfit
        obtain ⟨S1, ws1, e1, A1, c1, o1, hc1, ri1, hs1, hk1, h1⟩ := w.ex
        have hfit := w.fit
        refine cond_of (fun hc => ?_) fun hc => ?_
        · have h0 : 0 < kept.length := by simp only [decide_eq_true_eq] at hc; omega
          obtain ⟨kb, pre, ekp, eA⟩ := kp_len hk1 h0
          subst ekp eA
          refine ⟨⟨by decide, by omega⟩, ⟨⟨_, _, _, Sep.get0 h1, .inr rfl⟩, ?_⟩⟩
          have hB := h1.bump 8
          have wB : WI m x i8 cf M post (30000 - 200 * kept.length) kept (some ⟨kb, pre.length, none⟩) (H5.bump 8) := ⟨w.fit, S1, ws1, e1, _, c1, o1, hc1, ri1, hs1, hk1, hB⟩
          refine cond_of (fun hst => ?_) fun hst => ?_
          · obtain ⟨k0, v, rfl⟩ : ∃ k0 v, kept = k0 ++ [v] := ⟨kept.dropLast, kept.getLast (by rintro rfl; simp at h0), (List.dropLast_concat_getLast _).symm⟩
            have el : (k0 ++ [v]).length = k0.length + 1 := by simp
            have ew : IntKind.i64.wrap (((k0 ++ [v]).length : Nat) - 1 : Int) = (k0.length : Int) := by rw [el, wrap_i64 (by omega)]; omega
            rw [ew, Int.toNat_natCast]
            refine ⟨⟨by omega, by rw [el]; omega⟩, ⟨⟨_, _, _, Sep.get0 h1, .inr rfl⟩, ⟨⟨by omega, by rw [el]; omega⟩, asRow_in ⟨v.toNat, Sep.ld0 hB ?_, _, Sep.ld3 hB rfl, ?_⟩⟩⟩⟩
            · rw [Nat.mul_one, List.getElem?_append_right (Nat.le_add_right _ _), Nat.add_sub_cancel_left]
              simp
            · refine value_s (by omega) hB fun H6 ov ho h6 => ⟨_, _, rfl, ?_, trivial⟩
              refine peek_s h6 fun H7 h7 => ⟨_, _, _, _, _, _, rfl, ?_⟩
              have w1 : WI m x i8 cf (gl 1 ov (wdR (valW v cf.wd)) :: M) post (30000 - 200 * (k0 ++ [v]).length) (k0 ++ [v]) (some ⟨kb, pre.length, none⟩) H7 := ⟨w.fit, S1, ws1, e1, _, c1, o1, hc1, ri1, hs1, hk1, Sep.pick h7 5 [1, 2, 3, 4, 0] (by decide)⟩
              have key := fun R a ha hR => whole_take (R := R) (kind := 8) (no := 0) (val := valW v cf.wd) (a := a) ok w1 (by omega) (by decide) ho (by rw [rdo_stack hst (by decide)]) (by rw [rdo_stack hst (by decide)]) ha hR
              simp only [valW_len] at key
              refine key _ _ rfl fun H8 S3 ws3 c3 e3 A3 o3 hc3 ri3 hs3 hk3 h3 => ⟨_, rfl, cond_no rfl ?_⟩
              rw [rdo_stack hst (by decide)] at ri3
              refine pop_s h3 fun H9 h9 => ⟨_, _, _, _, _, _, rfl, ?_⟩
              have w2 : WI m x i8 cf (gl 1 ov (wdR (valW v cf.wd)) :: M) post (30000 - 200 * (k0 ++ [v]).length + 100) (k0 ++ [v]) (some ⟨kb, pre.length, none⟩) H9 := ⟨w.fit, S3, ws3, e3, A3, c3, o3, hc3, ri3, hs3, hk3, h9⟩
              have key := fun R a ha hR => whole_take (R := R) (kind := 7) (no := 0) (val := valW v cf.wd) (a := a) ok w2 (by omega) (by decide) ho (by rw [rdo_stack hst (by decide)]) (by rw [rdo_stack hst (by decide)]) ha hR
              simp only [valW_len] at key
              refine key _ _ rfl fun H' S' ws' c' e' A' o' hc' ri' hs' hk' h' => ⟨_, rfl, cond_no rfl ⟨k0.length, by rw [el]; omega, asSl_in ⟨k0, W v :: post, rfl, rfl, by rw [el] at hfit; omega, S', ws', e', A', c', o', by rw [el] at hc'; omega, by rw [rdo_stack hst (by decide)] at ri'; exact ri', hs', ?_, Sep.pick h' 5 [0, 1, 2, 3] (by decide)⟩⟩⟩
              exact kp_init hk'
          · obtain ⟨v, k0, rfl⟩ : ∃ v k0, kept = v :: k0 := List.exists_cons_of_ne_nil (by rintro rfl; simp at h0)
            have el : (v :: k0).length = k0.length + 1 := rfl
            refine ⟨⟨by decide, by omega⟩, asRow_in ⟨v.toNat, Sep.ld0 hB ?_, _, Sep.ld3 hB rfl, ?_⟩⟩
            · rw [List.getElem?_append_right (Nat.le_refl _), Nat.sub_self]; rfl
            · refine value_s (by omega) hB fun H6 ov ho h6 => ⟨_, _, rfl, ?_, trivial⟩
              refine peek_s h6 fun H7 h7 => ⟨_, _, _, _, _, _, rfl, ?_⟩
              have w1 : WI m x i8 cf (gl 1 ov (wdR (valW v cf.wd)) :: M) post (30000 - 200 * (v :: k0).length) (v :: k0) (some ⟨kb, pre.length, none⟩) H7 := ⟨w.fit, S1, ws1, e1, _, c1, o1, hc1, ri1, hs1, hk1, Sep.pick h7 5 [1, 2, 3, 4, 0] (by decide)⟩
              have key := fun R a ha hR => whole_take (R := R) (kind := 8) (no := 0) (val := valW v cf.wd) (a := a) ok w1 (by omega) (by decide) ho (by rw [rdo_queue hst (by decide)]) (by rw [rdo_queue hst (by decide)]) ha hR
              simp only [valW_len] at key
              refine key _ _ rfl fun H8 S3 ws3 c3 e3 A3 o3 hc3 ri3 hs3 hk3 h3 => ⟨_, rfl, cond_no rfl ?_⟩
              rw [rdo_queue hst (by decide)] at ri3
              refine pop_s h3 fun H9 h9 => ⟨_, _, _, _, _, _, rfl, ?_⟩
              have w2 : WI m x i8 cf (gl 1 ov (wdR (valW v cf.wd)) :: M) post (30000 - 200 * (v :: k0).length + 100) (v :: k0) (some ⟨kb, pre.length, none⟩) H9 := ⟨w.fit, S3, ws3, e3, A3, c3, o3, hc3, ri3, hs3, hk3, h9⟩
              have key := fun R a ha hR => whole_take (R := R) (kind := 7) (no := 0) (val := valW v cf.wd) (a := a) ok w2 (by omega) (by decide) ho (by rw [rdo_queue hst (by decide)]) (by rw [rdo_queue hst (by decide)]) ha hR
              simp only [valW_len] at key
              refine key _ _ rfl fun H' S' ws' c' e' A' o' hc' ri' hs' hk' h' => ⟨_, rfl, cond_no rfl ⟨k0.length, by rw [el]; omega, asSl_in ⟨k0, post, rfl, rfl, by rw [el] at hfit; omega, S', ws', e', A', c', o', by rw [el] at hc'; omega, by rw [rdo_queue hst (by decide)] at ri'; exact ri', hs', ?_, Sep.pick h' 5 [0, 1, 2, 3] (by decide)⟩⟩⟩
              exact kp_tail hk'
        · have h0 : kept.length = 0 := by simp only [decide_eq_false_iff_not] at hc; omega
          obtain rfl := List.eq_nil_of_length_eq_zero h0
          refine asBool_in (peek_s h1 fun H6 h6 => ⟨_, _, _, _, _, _, rfl, ?_⟩)
          have w6 : WI m x i8 cf (gl 1 none (wdR []) :: M) post 30000 [] kp H6 := ⟨Nat.zero_le _, S1, ws1, e1, A1, c1, o1, by simpa using hc1, ri1, hs1, hk1, Sep.pick (gl_none.2 h6) 5 [1, 2, 3, 4, 0] (by decide)⟩
          refine whole_take (val := []) (ov := none) ok w6 (by omega) (by decide) (fun _ => rfl) rfl rfl rfl fun H7 S' ws' c' e' A' o' hc' ri' hs' hk' h' => ⟨_, rfl, cond_yes rfl (CA_truth (by kernel_rfl) ⟨_, rfl, rfl⟩)⟩
    · have hlen : l.length ≤ 100 := by simp only [decide_eq_false_iff_not] at hlen; omega
      obtain ⟨l', hl', hN, hr⟩ : ∃ l' : Ws, l' = l ∧ l'.length = l.length ∧ Rd M a0 l' := ⟨_, rfl, rfl, hrd⟩
      clear hrd hcut ha hl'
      refine use_crossbarlaw17_RingWhole_0 (fun k t10 kp kl t15 H' => ∃ (j : Nat) (kept : Ws), j ≤ l'.length ∧ k = l'.length - j ∧ t15 = (j : Int) ∧ kept.length = kl ∧ WI m x i8 cf M [] (100 * j) kept kp H') l'.length ⟨0, [], Nat.zero_le _, rfl, rfl, rfl, by simpa using w0⟩ ?_
      rintro k t10 kp kl t15 ys H3 ⟨j, kept, hj, rfl, rfl, rfl, w⟩
      obtain ⟨S1, ws1, e1, A1, c1, o1, hc1, ri1, hs1, hk1, h1⟩ := w.ex
      have hM : ∀ (A B C D : Asr), ∀ X ∈ M, X ∈ A :: B :: C :: D :: M := fun A B C D X hX => by simp [hX]
      refine asSlice_of (cond_of (fun hc => ?_) fun hc => ?_)
      · have hj1 : j < l'.length := by simp only [decide_eq_true_eq] at hc; omega
        refine ⟨_, Sep.ld3 h1 rfl, ?_⟩
        have hB := h1.bump 13
        have wB : WI m x i8 cf M [] (100 * j) kept kp (H3.bump 13) := ⟨w.fit, S1, ws1, e1, A1, c1, o1, hc1, ri1, hs1, hk1, hB⟩
        refine cond_of (fun hf => ?_) fun hf => ?_
        · have hf : kept.length = cf.en := by simp at hf; omega
          refine cond_no rfl (asSlice_of ⟨by unfold inB; omega, hr _ _ hB (hM _ _ _ _) j hj1 _ fun i hi => ⟨_, hi, _, Sep.ld3 hB rfl, ?_⟩⟩)
          refine value_s (by omega) hB fun H33 ov ho h33 => ⟨_, _, rfl, push_s' h33 fun H34 h34 => ⟨_, _, _, _, _, _, rfl, ?_⟩⟩
          have wP : WI m x i8 cf (gl 1 ov (wdR (valW (l'.getD j 0) cf.wd)) :: M) [] (100 * j) kept kp H34 := ⟨w.fit, S1, ws1, e1, A1, c1, o1, hc1, ri1, hs1, hk1, Sep.pick h34 5 [1, 2, 3, 4, 0] (by decide)⟩
          refine whole_put ok wP ho (by omega) (by rw [if_pos hf, if_neg (by decide)]) fun H4 S' ws' c' e' A' o' hc' ri' hs' hk' h' => ⟨_, rfl, cond_no rfl ⟨_, Sep.ld3 h' rfl, cond_yes (by simp; omega) ?_⟩, trivial⟩
          obtain ⟨kb, pre, ekp, eA⟩ := kp_len hk' (by omega)
          subst ekp eA
          refine ⟨⟨by decide, by omega⟩, ⟨⟨_, _, _, Sep.get0 h', .inr rfl⟩, ?_⟩⟩
          obtain ⟨k0, rest, rfl⟩ : ∃ k0 rest, kept = k0 :: rest := List.exists_cons_of_ne_nil (by rintro rfl; simp at hf; omega)
          refine asSlice_of ⟨by unfold inB; omega, hr _ _ h' (hM _ _ _ _) j hj1 _ fun i hi => ⟨_, hi, Sep.nw h' fun i54 H55 h55 => asSlice_of ⟨[W (l'.getD j 0)], rowOf_bx (es := 1) (n := 1) (b := i54) (Sep.get0 h55) (by decide) rfl, ?_⟩⟩⟩
          have eA : pre ++ (wdR (k0 :: rest) ++ []) = (pre ++ [W k0]) ++ (wdR rest ++ []) := by simp
          have h56 := Sep.up1 h55
          rw [eA] at h56
          have hk2 := KP.some kb (pre ++ [W k0]) [] rest
          have el : (pre ++ [W k0]).length = pre.length + 1 * 1 := by simp
          rw [el] at hk2
          refine kp_append hk2 h56 (by simp at hf; omega) fun H6 q A6 hk6 h6 => ⟨l'.length - (j + 1), by omega, j + 1, rest ++ [l'.getD j 0], by omega, rfl, by rw [wrap_i64 (by omega)]; omega, by simp, ?_⟩
          refine ⟨by simp at hf ⊢; omega, S', ws', e', A6, c', o', by omega, ?_, hs', hk6, h6.rm1⟩
          rw [if_pos hf, if_neg (by decide)] at ri'
          simpa [vals] using ri'
        · have hf : ¬ kept.length = cf.en := by simp at hf; omega
          have hfit := w.fit
          refine asSlice_of ⟨by unfold inB; omega, hr _ _ hB (hM _ _ _ _) j hj1 _ fun i hi => ⟨_, hi, _, Sep.ld3 hB rfl, ?_⟩⟩
          refine value_s (by omega) hB fun H33 ov ho h33 => ⟨_, _, rfl, push_s' h33 fun H34 h34 => ⟨_, _, _, _, _, _, rfl, ?_⟩⟩
          have wP : WI m x i8 cf (gl 1 ov (wdR (valW (l'.getD j 0) cf.wd)) :: M) [] (100 * j) kept kp H34 := ⟨w.fit, S1, ws1, e1, A1, c1, o1, hc1, ri1, hs1, hk1, Sep.pick h34 5 [1, 2, 3, 4, 0] (by decide)⟩
          refine whole_put ok wP ho (by omega) (by rw [if_neg hf]) fun H4 S' ws' c' e' A' o' hc' ri' hs' hk' h' => ⟨_, rfl, cond_no rfl ⟨_, Sep.ld3 h' rfl, cond_no (by simp; omega) ?_⟩, trivial⟩
          refine asSlice_of ⟨by unfold inB; omega, hr _ _ h' (hM _ _ _ _) j hj1 _ fun i hi => ⟨_, hi, Sep.nw h' fun i54 H55 h55 => ⟨[W (l'.getD j 0)], rowOf_bx (es := 1) (n := 1) (b := i54) (Sep.get0 h55) (by decide) rfl, ?_⟩⟩⟩
          refine kp_append hk' (Sep.up1 h55) (by omega) fun H6 q A6 hk6 h6 => ⟨l'.length - (j + 1), by omega, j + 1, kept ++ [l'.getD j 0], by omega, rfl, by rw [wrap_i64 (by omega)]; omega, by simp, ?_⟩
          refine ⟨by simp; omega, S', ws', e', A6, c', o', by omega, ?_, hs', hk6, h6.rm1⟩
          rw [if_neg hf] at ri'
          simpa [vals] using ri'
      · have hj1 : j = l'.length := by simp only [decide_eq_false_iff_not] at hc; omega
        have hfit := w.fit
        refine asBool_in (asSl_in ?_)
        refine use_crossbarlaw17_RingWhole_1 (fun k t10 kp kl H' => ∃ (kept : Ws) (post : List Value), kept.length = k ∧ kept.length = kl ∧ WI m x i8 cf M post (30000 - 200 * kept.length) kept kp H') kept.length ⟨kept, [], rfl, rfl, w.fit, S1, ws1, e1, A1, c1, o1, by omega, ri1, hs1, hk1, h1⟩ ?_
        rintro k t10 kp kl ys H5 ⟨kept, post, rfl, rfl, w⟩
        clear hc hfit
        obtain ⟨S1, ws1, e1, A1, c1, o1, hc1, ri1, hs1, hk1, h1⟩ := w.ex
        have hfit := w.fit
        refine cond_of (fun hc => ?_) fun hc => ?_
        · have h0 : 0 < kept.length := by simp only [decide_eq_true_eq] at hc; omega
          obtain ⟨kb, pre, ekp, eA⟩ := kp_len hk1 h0
          subst ekp eA
          refine ⟨⟨by decide, by omega⟩, ⟨⟨_, _, _, Sep.get0 h1, .inr rfl⟩, ?_⟩⟩
          have hB := h1.bump 8
          have wB : WI m x i8 cf M post (30000 - 200 * kept.length) kept (some ⟨kb, pre.length, none⟩) (H5.bump 8) := ⟨w.fit, S1, ws1, e1, _, c1, o1, hc1, ri1, hs1, hk1, hB⟩
          refine cond_of (fun hst => ?_) fun hst => ?_
          · obtain ⟨k0, v, rfl⟩ : ∃ k0 v, kept = k0 ++ [v] := ⟨kept.dropLast, kept.getLast (by rintro rfl; simp at h0), (List.dropLast_concat_getLast _).symm⟩
            have el : (k0 ++ [v]).length = k0.length + 1 := by simp
            have ew : IntKind.i64.wrap (((k0 ++ [v]).length : Nat) - 1 : Int) = (k0.length : Int) := by rw [el, wrap_i64 (by omega)]; omega
            rw [ew, Int.toNat_natCast]
            refine ⟨⟨by omega, by rw [el]; omega⟩, ⟨⟨_, _, _, Sep.get0 h1, .inr rfl⟩, ⟨⟨by omega, by rw [el]; omega⟩, asRow_in ⟨v.toNat, Sep.ld0 hB ?_, _, Sep.ld3 hB rfl, ?_⟩⟩⟩⟩
            · rw [Nat.mul_one, List.getElem?_append_right (Nat.le_add_right _ _), Nat.add_sub_cancel_left]
              simp
            · refine value_s (by omega) hB fun H6 ov ho h6 => ⟨_, _, rfl, ?_, trivial⟩
              refine peek_s h6 fun H7 h7 => ⟨_, _, _, _, _, _, rfl, ?_⟩
              have w1 : WI m x i8 cf (gl 1 ov (wdR (valW v cf.wd)) :: M) post (30000 - 200 * (k0 ++ [v]).length) (k0 ++ [v]) (some ⟨kb, pre.length, none⟩) H7 := ⟨w.fit, S1, ws1, e1, _, c1, o1, hc1, ri1, hs1, hk1, Sep.pick h7 5 [1, 2, 3, 4, 0] (by decide)⟩
              have key := fun R a ha hR => whole_take (R := R) (kind := 8) (no := 0) (val := valW v cf.wd) (a := a) ok w1 (by omega) (by decide) ho (by rw [rdo_stack hst (by decide)]) (by rw [rdo_stack hst (by decide)]) ha hR
              simp only [valW_len] at key
              refine key _ _ rfl fun H8 S3 ws3 c3 e3 A3 o3 hc3 ri3 hs3 hk3 h3 => ⟨_, rfl, cond_no rfl ?_⟩
              rw [rdo_stack hst (by decide)] at ri3
              refine pop_s h3 fun H9 h9 => ⟨_, _, _, _, _, _, rfl, ?_⟩
              have w2 : WI m x i8 cf (gl 1 ov (wdR (valW v cf.wd)) :: M) post (30000 - 200 * (k0 ++ [v]).length + 100) (k0 ++ [v]) (some ⟨kb, pre.length, none⟩) H9 := ⟨w.fit, S3, ws3, e3, A3, c3, o3, hc3, ri3, hs3, hk3, h9⟩
              have key := fun R a ha hR => whole_take (R := R) (kind := 7) (no := 0) (val := valW v cf.wd) (a := a) ok w2 (by omega) (by decide) ho (by rw [rdo_stack hst (by decide)]) (by rw [rdo_stack hst (by decide)]) ha hR
              simp only [valW_len] at key
              refine key _ _ rfl fun H' S' ws' c' e' A' o' hc' ri' hs' hk' h' => ⟨_, rfl, cond_no rfl ⟨k0.length, by rw [el]; omega, asSl_in ⟨k0, W v :: post, rfl, rfl, by rw [el] at hfit; omega, S', ws', e', A', c', o', by rw [el] at hc'; omega, by rw [rdo_stack hst (by decide)] at ri'; exact ri', hs', ?_, Sep.pick h' 5 [0, 1, 2, 3] (by decide)⟩⟩⟩
              exact kp_init hk'
          · obtain ⟨v, k0, rfl⟩ : ∃ v k0, kept = v :: k0 := List.exists_cons_of_ne_nil (by rintro rfl; simp at h0)
            have el : (v :: k0).length = k0.length + 1 := rfl
            refine ⟨⟨by decide, by omega⟩, asRow_in ⟨v.toNat, Sep.ld0 hB ?_, _, Sep.ld3 hB rfl, ?_⟩⟩
            · rw [List.getElem?_append_right (Nat.le_refl _), Nat.sub_self]; rfl
            · refine value_s (by omega) hB fun H6 ov ho h6 => ⟨_, _, rfl, ?_, trivial⟩
              refine peek_s h6 fun H7 h7 => ⟨_, _, _, _, _, _, rfl, ?_⟩
              have w1 : WI m x i8 cf (gl 1 ov (wdR (valW v cf.wd)) :: M) post (30000 - 200 * (v :: k0).length) (v :: k0) (some ⟨kb, pre.length, none⟩) H7 := ⟨w.fit, S1, ws1, e1, _, c1, o1, hc1, ri1, hs1, hk1, Sep.pick h7 5 [1, 2, 3, 4, 0] (by decide)⟩
              have key := fun R a ha hR => whole_take (R := R) (kind := 8) (no := 0) (val := valW v cf.wd) (a := a) ok w1 (by omega) (by decide) ho (by rw [rdo_queue hst (by decide)]) (by rw [rdo_queue hst (by decide)]) ha hR
              simp only [valW_len] at key
              refine key _ _ rfl fun H8 S3 ws3 c3 e3 A3 o3 hc3 ri3 hs3 hk3 h3 => ⟨_, rfl, cond_no rfl ?_⟩
              rw [rdo_queue hst (by decide)] at ri3
              refine pop_s h3 fun H9 h9 => ⟨_, _, _, _, _, _, rfl, ?_⟩
              have w2 : WI m x i8 cf (gl 1 ov (wdR (valW v cf.wd)) :: M) post (30000 - 200 * (v :: k0).length + 100) (v :: k0) (some ⟨kb, pre.length, none⟩) H9 := ⟨w.fit, S3, ws3, e3, A3, c3, o3, hc3, ri3, hs3, hk3, h9⟩
              have key := fun R a ha hR => whole_take (R := R) (kind := 7) (no := 0) (val := valW v cf.wd) (a := a) ok w2 (by omega) (by decide) ho (by rw [rdo_queue hst (by decide)]) (by rw [rdo_queue hst (by decide)]) ha hR
              simp only [valW_len] at key
              refine key _ _ rfl fun H' S' ws' c' e' A' o' hc' ri' hs' hk' h' => ⟨_, rfl, cond_no rfl ⟨k0.length, by rw [el]; omega, asSl_in ⟨k0, post, rfl, rfl, by rw [el] at hfit; omega, S', ws', e', A', c', o', by rw [el] at hc'; omega, by rw [rdo_queue hst (by decide)] at ri'; exact ri', hs', ?_, Sep.pick h' 5 [0, 1, 2, 3] (by decide)⟩⟩⟩
              exact kp_tail hk'
        · have h0 : kept.length = 0 := by simp only [decide_eq_false_iff_not] at hc; omega
          obtain rfl := List.eq_nil_of_length_eq_zero h0
          refine asBool_in (peek_s h1 fun H6 h6 => ⟨_, _, _, _, _, _, rfl, ?_⟩)
          have w6 : WI m x i8 cf (gl 1 none (wdR []) :: M) post 30000 [] kp H6 := ⟨Nat.zero_le _, S1, ws1, e1, A1, c1, o1, by simpa using hc1, ri1, hs1, hk1, Sep.pick (gl_none.2 h6) 5 [1, 2, 3, 4, 0] (by decide)⟩
          refine whole_take (val := []) (ov := none) ok w6 (by omega) (by decide) (fun _ => rfl) rfl rfl rfl fun H7 S' ws' c' e' A' o' hc' ri' hs' hk' h' => ⟨_, rfl, cond_yes rfl (CA_truth (by kernel_rfl) ⟨_, rfl, rfl⟩)⟩

theorem RingWhole_law (H : Heap) (us : List Value) (h : shpVs en H 7 T.RingWhole us) : CA en F.crossbarlaw17_RingWhole us H fun v _ => v = .bool true := by
  obtain ⟨v, u, rfl, ⟨b1, hb1⟩, v2, u2, rfl, ⟨b2, hb2⟩, v3, u3, rfl, ⟨n3, hn3, _⟩, v4, u4, rfl, ⟨n4, hn4, _⟩, v5, u5, rfl, hA, rfl⟩ := args_RingWhole h
  obtain rfl := (List.cons.inj hb1).1
  obtain rfl := (List.cons.inj hb2).1
  obtain rfl := (List.cons.inj hn3).1
  obtain rfl := (List.cons.inj hn4).1
  obtain ⟨a, n, css, M, rfl, ha, hs, hc⟩ := Arg.of (SlArg.one hA)
  obtain ⟨l, rfl⟩ := words_of css hc
  exact RingWhole_ok ha hs
end Go.Proofs.Ytgpacebjbdhphaa
