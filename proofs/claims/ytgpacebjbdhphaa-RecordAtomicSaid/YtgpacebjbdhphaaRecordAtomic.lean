/-
  No reader tells an elder number than was whole when it began.
-/
import Derived.Test.YtgpacebjbdhphaaRecordM
import Derived.Test.YtgpacebjbdhphaaVcRa
import Derived.Test.YtgpacebjbdhphaaArgs
namespace Go.Proofs.Ytgpacebjbdhphaa
open Go Go.AS Go.RowKit
set_option linter.unusedVariables false
variable {H H' : Heap} {m x : Nat} {S S' : Sm} {R : Value → Heap → Prop} {L M : List Asr} {Wd : List (BitVec 64)} {N dr sv st cur num k j Wr : Nat} {As : Ags} {a : RG} {c : Int}

abbrev ocell : Option RG → Value
  | none => .pointer none
  | some a => P a.r
theorem ocell_set {a' : RG} (hk : At As k a) (h : a'.r = a.r) : (As.set k (some a')).map ocell = As.map ocell := by
  rw [List.map_set]
  have e : (As.map ocell)[k]? = some (ocell (some a')) := by
    rw [List.getElem?_map, hk]; show some (P a.r) = some (P a'.r); rw [h]
  exact set_same e
theorem wrap_num {n : Nat} (h : n < 10000) : IntKind.u64.wrap ((n : Int) + 1) = ((n + 1 : Nat) : Int) := by
  rw [wrap_u64]
  have e : ((n : Int) + 1) = ((n + 1 : Nat) : Int) := by omega
  rw [e, BitVec.ofInt_natCast, BitVec.toNat_ofNat, Nat.mod_eq_of_lt (by omega)]
theorem U_num {n : Nat} (h : n < 10000) : Value.int .u64 (n : Int) = W (Bn n) := by
  show Value.int .u64 (n : Int) = .int .u64 (((Bn n).toNat : Nat) : Int)
  rw [Bn_nat h]
theorem cell_at {i : Nat} {w : Bool} {z : Nat} {cs : List Value} {v : Value} (h : Sep H (bx i (.cells w z cs) :: L)) {k : Nat} (hk : cs[k]? = some v) : H.cell i (0 + k * 1) = some v := Sep.ld0 h (by rw [Nat.zero_add, Nat.mul_one]; exact hk)

structure Cl (As : Ags) (C : List Value) (K cur num : Nat) : Prop where
  len : C.length = 3 * K
  run : ∀ i o, As[i]? = some o → C[3 * i]? = some (ocell o)
  num : ∀ i, i < K → ∃ v le : Nat, C[3 * i + 1]? = some (.int .u64 (v : Int)) ∧ C[3 * i + 2]? = some (.int .u64 (le : Int)) ∧ le ≤ cur ∧ (i = 0 → ∀ a, At As 0 a → v = num ∧ a.v = num)
variable {C : List Value} {K : Nat}
theorem Cl.mono (h : Cl As C K cur num) {cur' : Nat} (hc : cur ≤ cur') : Cl As C K cur' num :=
  ⟨h.len, h.run, fun i hi => by obtain ⟨v, le, h1, h2, h3, h4⟩ := h.num i hi; exact ⟨v, le, h1, h2, by omega, h4⟩⟩
theorem Cl.go (h : Cl As C K cur num) (hk : At As k a) {a' : RG} (hr : a'.r = a.r) (hv : a'.v = a.v) : Cl (As.set k (some a')) C K cur num := by
  have hkl : k < As.length := (List.getElem?_eq_some_iff.1 hk).1
  refine ⟨h.len, fun i o ho => ?_, fun i hi => ?_⟩
  · by_cases e : k = i
    · subst e
      rw [List.getElem?_set_self hkl] at ho
      cases ho
      rw [h.run k _ hk]; show some (P a.r) = some (P a'.r); rw [hr]
    · rw [List.getElem?_set_ne e] at ho; exact h.run i o ho
  · obtain ⟨v, le, h1, h2, h3, h4⟩ := h.num i hi
    refine ⟨v, le, h1, h2, h3, fun e b hb => ?_⟩
    rcases hb.set with ⟨e1, e2⟩ | ⟨_, hb⟩
    · cases e2; subst e1; rw [hv]; exact h4 e a hk
    · exact h4 e b hb
theorem Cl.none (h : Cl As C K cur num) (hk : k < As.length) (hK : As.length = K) : Cl (As.set k none) (C.set (3 * k) (.pointer none)) K cur num := by
  have hl := h.len
  refine ⟨by rw [List.length_set]; exact h.len, fun i o ho => ?_, fun i hi => ?_⟩
  · by_cases e : k = i
    · subst e
      rw [List.getElem?_set_self hk] at ho
      cases ho
      rw [List.getElem?_set_self (by omega)]
    · rw [List.getElem?_set_ne e] at ho
      rw [List.getElem?_set_ne (by omega)]; exact h.run i o ho
  · obtain ⟨v, le, h1, h2, h3, h4⟩ := h.num i hi
    refine ⟨v, le, by rw [List.getElem?_set_ne (by omega)]; exact h1, by rw [List.getElem?_set_ne (by omega)]; exact h2, h3, fun e b hb => ?_⟩
    rcases hb.set with ⟨e1, e2⟩ | ⟨_, hb⟩
    · cases e2
    · exact h4 e b hb
theorem Cl.fresh (h : Cl As C K cur num) (hk : k < As.length) (hK : As.length = K) {num' : Nat} (h0 : k = 0 → a.v = num') (h1 : k ≠ 0 → num' = num) : Cl (As.set k (some a)) (((C.set (3 * k + 1) (.int .u64 (num' : Int))).set (3 * k + 2) (.int .u64 (cur : Int))).set (3 * k) (P a.r)) K cur num' := by
  have hl := h.len
  refine ⟨by rw [List.length_set, List.length_set, List.length_set]; exact h.len, fun i o ho => ?_, fun i hi => ?_⟩
  · by_cases e : k = i
    · subst e
      rw [List.getElem?_set_self hk] at ho
      cases ho
      rw [List.getElem?_set_self (by rw [List.length_set, List.length_set]; omega)]
    · rw [List.getElem?_set_ne e] at ho
      rw [List.getElem?_set_ne (by omega), List.getElem?_set_ne (by omega), List.getElem?_set_ne (by omega)]; exact h.run i o ho
  · by_cases e : k = i
    · subst e
      refine ⟨num', cur, ?_, ?_, Nat.le_refl _, fun e b hb => ?_⟩
      · rw [List.getElem?_set_ne (by omega), List.getElem?_set_ne (by omega), List.getElem?_set_self (by omega)]
      · rw [List.getElem?_set_ne (by omega), List.getElem?_set_self (by rw [List.length_set]; omega)]
      · rcases hb.set with ⟨e1, e2⟩ | ⟨e1, _⟩
        · cases e2; exact ⟨rfl, h0 e⟩
        · omega
    · obtain ⟨v, le, h2, h3, h4, h5⟩ := h.num i hi
      refine ⟨v, le, by rw [List.getElem?_set_ne (by omega), List.getElem?_set_ne (by omega), List.getElem?_set_ne (by omega)]; exact h2, by rw [List.getElem?_set_ne (by omega), List.getElem?_set_ne (by omega), List.getElem?_set_ne (by omega)]; exact h3, h4, fun e2 b hb => ?_⟩
      rcases hb.set with ⟨e1, e2⟩ | ⟨_, hb⟩
      · omega
      · rw [h1 (by omega)]; exact h5 e2 b hb

structure WA (m x N K arr i7 : Nat) (M : List Asr) (H : Heap) (As : Ags) (num cur j : Nat) : Prop where
  la : As.length = K
  ex : ∃ S dr sv st Wd c C, Cl As C K cur num ∧ WS0 m x N 1 H As S dr sv st cur num Wd c j (bx arr (.cells true 3 C) :: bx i7 (.cells true 0 [I 3, I 1, I N, I 0, I 0]) :: M)
theorem cell3 {i d : Nat} {w : Bool} {z : Nat} {cs : List Value} {v : Value} (h : Sep H (bx i (.cells w z cs) :: L)) {k : Nat} (hk : cs[3 * k + d]? = some v) : H.cell i (0 + k * 3 + d) = some v := Sep.ld0 h (by rw [show 0 + k * 3 + d = 3 * k + d by omega]; exact hk)
theorem clear3 {arr : Nat} {F : Heap → Prop} (hl : C.length = 3 * K) (hk : k < K) {A B D : Asr} (h : Sep H (A :: B :: D :: bx arr (.cells true 3 C) :: L)) (hF : ∀ H', Sep H' (A :: B :: D :: bx arr (.cells true 3 (C.set (3 * k) (.pointer none))) :: L) → F H') : stc H arr (0 + k * 3) [.pointer none] F := by
  refine Sep.st3 h (by simp only [List.length_cons, List.length_nil]; omega) fun H' h' => hF H' ?_
  have e : C.set (3 * k) (.pointer none) = setAt C (0 + k * 3) [.pointer none] := by
    rw [show 0 + k * 3 = 3 * k by omega]; rfl
  rw [e]; exact h'

set_option maxHeartbeats 1000000 in
theorem RecordAtomic_ok {x0 x1 : Int} {a0 : Option Addr} {n : Nat} {l : List Int} (ha : Arg a0 n (l.map fun v => [I v]) M) (hs : Sep H M) : CA en F.crossbarlaw14_RecordAtomic [I x0, I x1, .slice a0 n 0] H fun v _ => v = .bool true := by
  obtain rfl := ha.len
  rw [List.length_map]
  apply vc_crossbarlaw14_RecordAtomic
  refine cond_of (fun h1 => CA_truth (by kernel_rfl) ⟨_, rfl, rfl⟩) fun h1 => ?_
  have hlen : l.length ≤ 1500 := by simp only [decide_eq_false_iff_not] at h1; omega
  refine Pick_ok (by decide) (by decide) ⟨_, rfl, ?_⟩
  obtain ⟨N, hN, hN2⟩ : ∃ N : Nat, IntKind.i64.wrap (1 + x0 % 4) = (N : Int) ∧ 1 ≤ N ∧ N ≤ 4 := ⟨(1 + x0 % 4).toNat, by rw [wrap_i64 (by omega)]; omega, by omega⟩
  rw [hN]
  refine Sep.nw hs fun i7 H8 h8 => Sep.st0 h8 (Nat.le_of_ble_eq_true rfl) fun H9 h9 => ⟨_, _, _, _, _, Sep.lds0 h9 rfl, ?_⟩
  refine rmade_s h9 hN2 fun H16 m x S o h16 => ⟨_, _, rfl, cond_no rfl (cond_no rfl (Pick_ok (by decide) (by decide) ⟨_, rfl, ?_⟩))⟩
  obtain ⟨K, hK, hK2⟩ : ∃ K : Nat, IntKind.i64.wrap (2 + x1 % 4) = (K : Int) ∧ 1 ≤ K ∧ K ≤ 6 := ⟨(2 + x1 % 4).toNat, by rw [wrap_i64 (by omega)]; omega, by omega⟩
  rw [hK, Int.toNat_natCast]
  refine ⟨⟨by omega, Int.le_refl _, by omega⟩, Sep.nw h16 fun arr H26 h26 => ?_⟩
  have c0 : ∀ K, Cl (List.replicate K (none : Option RG)) (reps K [.pointer none, .int .u64 0, .int .u64 0]) K 0 0 := by
    intro K
    have hr : ∀ K i, i < K → (reps K [.pointer none, .int .u64 0, .int .u64 0])[3 * i]? = some (Value.pointer none) ∧ (reps K [.pointer none, .int .u64 0, .int .u64 0])[3 * i + 1]? = some (Value.int .u64 0) ∧ (reps K [.pointer none, .int .u64 0, .int .u64 0])[3 * i + 2]? = some (Value.int .u64 0) := by
      intro K
      induction K with
      | zero => intro i hi; omega
      | succ K ih =>
        intro i hi
        cases i with
        | zero => exact ⟨rfl, rfl, rfl⟩
        | succ i =>
          have := ih i (by omega)
          have e : 3 * (i + 1) = 3 * i + 1 + 1 + 1 := by omega
          rw [e]; exact this
    refine ⟨?_, fun i o ho => ?_, fun i hi => ⟨0, 0, (hr K i hi).2.1, (hr K i hi).2.2, Nat.le_refl _, fun e a h => ?_⟩⟩
    · clear hr
      induction K with
      | zero => rfl
      | succ K ih => show (reps K _).length + 1 + 1 + 1 = _; rw [ih]; omega
    · rw [List.getElem?_replicate] at ho
      split at ho <;> cases ho
      exact (hr K i ‹_›).1
    · unfold At at h
      rw [List.getElem?_replicate] at h
      split at h <;> cases h
  have noAt : ∀ i a, ¬ At (List.replicate K (none : Option RG)) i a := fun i a h => by
    unfold At at h
    rw [List.getElem?_replicate] at h
    split at h <;> cases h
  have w0 : WA m x N K arr i7 M H26 (List.replicate K none) 0 0 0 := by
    refine ⟨List.length_replicate .., S, 0, 0, 0, List.replicate N 0, 0, _, c0 K, fun i a h => (noAt i a h).elim, fun i a h => (noAt i a h).elim, ⟨by simp, Nat.le_refl _, fun i a h => (noAt i a h).elim, fun i _ a _ h => (noAt i a h).elim, fun i a h => (noAt i a h).elim, fun _ => ⟨rfl, rfl⟩, fun i a h => (noAt i a h).elim, fun i a h => (noAt i a h).elim, fun i a h => (noAt i a h).elim, Nat.le_refl _, fun i a h => (noAt i a h).elim⟩, ?_, ⟨by omega, by omega, by omega, by omega⟩, ?_⟩
    · rw [Nat.add_comm, List.replicate_succ, List.replicate_succ, List.replicate_succ] at o
      exact o
    · have e : (List.replicate K (none : Option RG)).flatMap (oblk m x N) = [] := by
        rw [List.flatMap_eq_nil_iff]
        intro y hy
        rw [(List.mem_replicate.1 hy).2]; rfl
      rw [e]
      have h27 := Sep.many0 h26
      exact Sep.pick h27 5 [2, 3, 0, 1, 4] (by decide)
  clear h8 h9 h16 h26 hs o noAt c0
  refine use_crossbarlaw14_RecordAtomic_0 (fun k t8 t14 t12 t15 H => ∃ (j num cur : Nat) (As : Ags), j ≤ l.length ∧ k = l.length - j ∧ t15 = (j : Int) ∧ t14 = (num : Int) ∧ t12 = (cur : Int) ∧ WA m x N K arr i7 M H As num cur (2 * j)) l.length ⟨0, 0, 0, _, by omega, rfl, rfl, rfl, rfl, w0⟩ ?_
  clear w0
  rintro k0 t8 t14 t12 t15 ys H3 ⟨j, num, cur, As, hj, rfl, rfl, rfl, rfl, w⟩
  obtain ⟨la, S, dr, sv, st, Wd, c, C, hC, w⟩ := w
  obtain ⟨bd1, bd2, bd3, bd4⟩ := w.bd
  refine cond_of (fun h2 => ?_) fun h2 => ?_
  · have hj' : j < l.length := by simp only [decide_eq_true_eq] at h2; omega
    have hjn : IntKind.i64.wrap ((j : Int) + 1) = ((j + 1 : Nat) : Int) := by rw [wrap_i64 (by omega)]; omega
    obtain ⟨q, rfl, _, hq⟩ := ha.row (w := 1) w.sep (fun A hA => by simp [hA]) (by intro c hc; obtain ⟨v, _, rfl⟩ := List.mem_map.1 hc; rfl) (j := j) (by simpa using hj')
    refine ⟨by unfold inB; omega, asRow_in ⟨l[j], ?_, ?_⟩⟩
    · have := hq 0 (by decide)
      rw [Nat.add_zero] at this
      exact this.trans (by simp)
    refine Pick_ok (by omega) (by omega) ⟨_, rfl, ?_⟩
    have hkb : 0 ≤ l[j] % (K : Int) ∧ l[j] % (K : Int) < K := ⟨Int.emod_nonneg _ (by omega), Int.emod_lt_of_pos _ (by omega)⟩
    obtain ⟨k, hk⟩ := Int.eq_ofNat_of_zero_le hkb.1
    rw [hk]
    have hkK : k < K := by omega
    have hib : inB (k : Int) K := by unfold inB; omega
    have hkl : k < As.length := by omega
    rw [Int.toNat_natCast]
    obtain ⟨oa, hoa⟩ : ∃ oa, As[k]? = some oa := ⟨_, List.getElem?_eq_getElem hkl⟩
    -- it is under way
    refine ⟨hib, fun vs H' => ∃ (num' : Nat) (As' : Ags) (a : RG), vs = [.int .u64 (num' : Int), .bool t8] ∧ num' ≤ 2 * j + 1 ∧ At As' k a ∧ WA m x N K arr i7 M H' As' num' cur (2 * j + 1), ?_, ?_⟩
    · refine ⟨(ocell oa |> fun v => match v with | .pointer p => p | _ => none), ?_, ?_⟩
      · have h4 := cell3 (d := 0) (Sep.up3 w.sep) (k := k) (hC.run k _ hoa)
        rw [Nat.add_zero] at h4
        rw [h4]
        cases oa <;> rfl
      cases oa with
      | some a =>
        refine cond_no rfl ⟨num, As, a, rfl, by omega, hoa, la, S, dr, sv, st, Wd, c, C, hC, w.side, w.own, w.inv, w.one, by omega, w.sep⟩
      | none =>
        refine cond_yes rfl (Sep.nw w.sep fun i9 H10 h10 => Sep.st0 h10 (Nat.le_of_ble_eq_true rfl) fun H11 h11 => ?_)
        have s0 : ∀ (C : List Value) (v : Value), setAt C (0 + k * 3) [v] = C.set (3 * k) v := fun C v => by rw [show 0 + k * 3 = 3 * k by omega]; rfl
        have s1 : ∀ (C : List Value) (v : Value), setAt C (0 + k * 3 + 1) [v] = C.set (3 * k + 1) v := fun C v => by rw [show 0 + k * 3 + 1 = 3 * k + 1 by omega]; rfl
        have s2 : ∀ (C : List Value) (v : Value), setAt C (0 + k * 3 + 2) [v] = C.set (3 * k + 2) v := fun C v => by rw [show 0 + k * 3 + 2 = 3 * k + 2 by omega]; rfl
        have hCl := hC.len
        by_cases hkw : k < 1
        · -- the writer
          have hkw' : ((k : Int) == 0) = true := by simpa using hkw
          rw [hkw', wrap_num (by omega)]
          refine ⟨fun vs H' => ∃ g, vs = [.int .u64 ((num + 1 : Nat) : Int)] ∧ Sep H' (bx i9 (.cells true 0 [I 2, .int .u64 0, .slice (addr (some g)) (List.replicate N (Bn (num + 1))).length 0, I 0, I 0]) :: gl 1 (some g) (wds (List.replicate N (Bn (num + 1)))) :: mA m x (dN N) :: mem m S :: many (As.flatMap (oblk m x N)) :: bx arr (.cells true 3 C) :: bx i7 (.cells true 0 [I 3, I 1, I N, I 0, I 0]) :: M), ?_, ?_⟩
          · refine cond_yes rfl (Sep.st0 h11 (Nat.le_of_ble_eq_true rfl) fun H13 h13 => ?_)
            have h14 : Sep H13 (gl 1 none (wds (List.replicate 0 (Bn (num + 1)))) :: bx i9 (.cells true 0 [I 2, .int .u64 0, .slice (addr none) 0 0, I 0, I 0]) :: mA m x (dN N) :: mem m S :: many (As.flatMap (oblk m x N)) :: bx arr (.cells true 3 C) :: bx i7 (.cells true 0 [I 3, I 1, I N, I 0, I 0]) :: M) := gl_none.2 h13
            refine use_crossbarlaw14_RecordAtomic_1 (fun kk t18 H => ∃ (p : Nat) (g : Option Nat), p ≤ N ∧ kk = N - p ∧ t18 = (p : Int) ∧ (g = none → p = 0) ∧ Sep H (gl 1 g (wds (List.replicate p (Bn (num + 1)))) :: bx i9 (.cells true 0 [I 2, .int .u64 0, .slice (addr g) p 0, I 0, I 0]) :: mA m x (dN N) :: mem m S :: many (As.flatMap (oblk m x N)) :: bx arr (.cells true 3 C) :: bx i7 (.cells true 0 [I 3, I 1, I N, I 0, I 0]) :: M)) N ⟨0, none, by omega, rfl, rfl, fun _ => rfl, h14⟩ ?_
            clear h14 h13 h11 h10
            rintro k1 t18 ys1 H5 ⟨p, g, hp, rfl, rfl, hg, h5⟩
            refine ⟨_, Sep.ld6 h5 rfl, cond_of (fun h6 => ?_) fun h6 => ?_⟩
            · have hp' : p < N := by simp only [decide_eq_true_eq] at h6; omega
              rw [U_num (by omega)]
              refine ⟨_, _, Sep.ld1 h5 rfl, Sep.nw h5 fun i4 H6 h6 => ⟨[W (Bn (num + 1))], rowOf_bx (es := 1) (n := 1) (b := i4) (Sep.get0 h6) (by decide) rfl, ?_⟩⟩
              refine apd_gl (b := g) (cs := wds (List.replicate p (Bn (num + 1)))) (new := [W (Bn (num + 1))]) (Sep.up1 h6) (fun e => by rw [hg e]; rfl) (by decide) (by simp) (by decide) rfl (by omega) fun H7 g' h7 => ?_
              refine Sep.st2 h7 (Nat.le_of_ble_eq_true rfl) fun H8 h8 => ⟨N - (p + 1), by omega, p + 1, some g', by omega, rfl, by rw [wrap_i64 (by omega)]; omega, (fun h => by cases h), ?_⟩
              have e : wds (List.replicate (p + 1) (Bn (num + 1))) = wds (List.replicate p (Bn (num + 1))) ++ [W (Bn (num + 1))] := by rw [List.replicate_succ']; simp
              rw [e]
              exact Sep.rm1 h8
            · obtain rfl : p = N := by simp only [decide_eq_false_iff_not] at h6; omega
              cases g with
              | none => have := hg rfl; omega
              | some g =>
                refine ⟨g, rfl, ?_⟩
                rw [List.length_replicate]
                exact Sep.up1 h5
          · rintro ys16 H17 n18 ⟨g, e, h17⟩
            simp only [List.cons.injEq, Value.int.injEq, true_and, and_true] at e
            subst e
            refine Sep.st5 h17 (by simp only [List.length_cons, List.length_nil]; omega) fun H19 h19 => ?_
            rw [s1] at h19
            refine Sep.st5 h19 (by simp only [List.length_cons, List.length_nil, List.length_set]; omega) fun H20 h20 => ?_
            rw [s2] at h20
            refine ⟨_, _, _, _, _, _, Sep.lds0 h20 rfl, ?_⟩
            have hvl : (List.replicate N (Bn (num + 1))).length = N := List.length_replicate ..
            refine rbegW_s (N := N) (vs := List.replicate N (Bn (num + 1))) (g := g) (Sep.pick h20 3 [1, 2, 0] (by decide)) hN2.2 (by rw [hvl]; omega) fun H26 r b g' h26 => ⟨_, rfl, ?_⟩
            rw [hvl] at h26
            refine Sep.st7 h26 (by simp only [List.length_cons, List.length_nil, List.length_set]; omega) fun H28 h28 => ?_
            rw [s0] at h28
            have cl := hC.fresh (a := ⟨true, 0, 0, 0, num + 1, 0, [], r, b, some g', none, 0⟩) hkl la (num' := num + 1) (fun _ => rfl) (fun e => by omega)
            refine ⟨some ⟨r, 0, none⟩, ?_, cond_no rfl ⟨num + 1, As.set k (some ⟨true, 0, 0, 0, num + 1, 0, [], r, b, some g', none, 0⟩), ⟨true, 0, 0, 0, num + 1, 0, [], r, b, some g', none, 0⟩, rfl, by omega, ?_, ?_⟩⟩
            · refine Sep.ld7 h28 ?_
              rw [show 0 + k * 3 = 3 * k by omega]
              exact List.getElem?_set_self (by rw [List.length_set, List.length_set]; omega)
            · unfold At; rw [List.getElem?_set_self hkl]
            · refine ⟨by rw [List.length_set]; exact la, S, dr, sv, st, Wd, c, _, cl, ?_, ?_, w.inv.fresh hoa rfl (num + 1) (by omega) (Nat.le_refl _), w.one, by omega, ?_⟩
              · intro i b hb
                rcases hb.set with ⟨e, e2⟩ | ⟨_, hb⟩
                · cases e2; rw [e]; exact (decide_eq_true hkw).symm
                · exact w.side i b hb
              · exact own_set w.own ⟨fun _ => ⟨(fun h => by cases h), fun _ => rfl⟩, fun _ => rfl⟩
              · have e4 : As.flatMap (oblk m x N) = (As.take k).flatMap (oblk m x N) ++ (As.drop (k + 1)).flatMap (oblk m x N) := by rw [flatMap_split (f := oblk m x N) hoa]; rfl
                rw [e4] at h28
                refine blk_in (o := some ⟨true, 0, 0, 0, num + 1, 0, [], r, b, some g', none, 0⟩) hkl ?_
                refine many3.2 ?_
                exact Sep.pick h28 9 [0, 1, 2, 3, 5, 6, 7, 8] (by decide)
        · -- a reader
          have hkw' : ((k : Int) == 0) = false := by rw [beq_eq_false_iff_ne]; omega
          rw [hkw']
          refine ⟨fun vs H' => vs = [.int .u64 (num : Int)] ∧ Sep H' (bx i9 (.cells true 0 [I 1, .int .u64 0, .slice none 0 0, I 0, I 0]) :: mA m x (dN N) :: mem m S :: many (As.flatMap (oblk m x N)) :: bx arr (.cells true 3 C) :: bx i7 (.cells true 0 [I 3, I 1, I N, I 0, I 0]) :: M), cond_no rfl ⟨rfl, h11⟩, ?_⟩
          rintro ys16 H17 n18 ⟨e, h17⟩
          simp only [List.cons.injEq, Value.int.injEq, true_and, and_true] at e
          subst e
          refine Sep.st4 h17 (by simp only [List.length_cons, List.length_nil]; omega) fun H19 h19 => ?_
          rw [s1] at h19
          refine Sep.st4 h19 (by simp only [List.length_cons, List.length_nil, List.length_set]; omega) fun H20 h20 => ?_
          rw [s2] at h20
          refine ⟨_, _, _, _, _, _, Sep.lds0 h20 rfl, ?_⟩
          refine rbegR_s (N := N) (Sep.up1 h20) hN2.2 fun H26 r h26 => ⟨_, rfl, ?_⟩
          refine Sep.st5 h26 (by simp only [List.length_cons, List.length_nil, List.length_set]; omega) fun H28 h28 => ?_
          rw [s0] at h28
          have cl := hC.fresh (a := ⟨false, 0, 0, 0, 0, 0, [], r, 0, none, none, 0⟩) hkl la (num' := num) (fun e => by omega) (fun _ => rfl)
          refine ⟨some ⟨r, 0, none⟩, ?_, cond_no rfl ⟨num, As.set k (some ⟨false, 0, 0, 0, 0, 0, [], r, 0, none, none, 0⟩), ⟨false, 0, 0, 0, 0, 0, [], r, 0, none, none, 0⟩, rfl, by omega, ?_, ?_⟩⟩
          · refine Sep.ld5 h28 ?_
            rw [show 0 + k * 3 = 3 * k by omega]
            exact List.getElem?_set_self (by rw [List.length_set, List.length_set]; omega)
          · unfold At; rw [List.getElem?_set_self hkl]
          · refine ⟨by rw [List.length_set]; exact la, S, dr, sv, st, Wd, c, _, cl, ?_, ?_, w.inv.fresh hoa rfl num (Nat.le_refl _) (Nat.zero_le _), w.one, by omega, ?_⟩
            · intro i b hb
              rcases hb.set with ⟨e, e2⟩ | ⟨_, hb⟩
              · cases e2; rw [e]; exact (decide_eq_false hkw).symm
              · exact w.side i b hb
            · exact own_set w.own ⟨(fun h => by cases h), fun _ => rfl⟩
            · have e4 : As.flatMap (oblk m x N) = (As.take k).flatMap (oblk m x N) ++ (As.drop (k + 1)).flatMap (oblk m x N) := by rw [flatMap_split (f := oblk m x N) hoa]; rfl
              rw [e4] at h28
              refine blk_in (o := some ⟨false, 0, 0, 0, 0, 0, [], r, 0, none, none, 0⟩) hkl ?_
              refine many2.2 ?_
              have h29 : Sep H28 (gl 1 none (wds []) :: _) := gl_none.2 h28
              exact Sep.pick h29 8 [1, 0, 2, 4, 5, 6, 7] (by decide)
    · clear w la bd1 bd2 bd3 bd4 hoa hkl hC
      rintro ys30 H31 n32 b33 ⟨num', As', a, e, hn', hka, la, S, dr, sv, st, Wd, c, C, hC, w⟩
      simp only [List.cons.injEq, Value.int.injEq, Value.bool.injEq, true_and, and_true] at e
      obtain ⟨rfl, rfl⟩ := e
      have hkl : k < As'.length := by omega
      have hCl := hC.len
      have sd := w.side k a hka
      have hcn0 := w.inv.cn
      obtain ⟨bd1, bd2, bd3, bd4⟩ := w.bd
      obtain ⟨vk, le, hv1, hv2, hv3, hv4⟩ := hC.num k hkK
      have hrun := hC.run k _ hka
      refine ⟨some ⟨a.r, 0, none⟩, ?_, ?_⟩
      · have h4 := cell3 (d := 0) (Sep.up3 w.sep) (k := k) hrun
        rw [Nat.add_zero] at h4
        exact h4
      refine agent_s hN2 w (by omega) hka ?_ ?_ ?_
      · -- goes on
        intro H' e a' S' dr' sv' st' cur' Wd' c' er ev e1 e2 w'
        have gofin : ∀ {H H' : Heap} {cu : Nat}, WA m x N K arr i7 M H (As'.set k (some a')) num' cu (2 * j + 2) → ∃ k71, k71 < l.length - j ∧ ∃ (j_1 num cur : Nat) (As : Ags), j_1 ≤ l.length ∧ k71 = l.length - j_1 ∧ IntKind.i64.wrap ((j : Int) + 1) = (j_1 : Int) ∧ (num' : Int) = (num : Int) ∧ (cu : Int) = (cur : Int) ∧ WA m x N K arr i7 M H As num cur (2 * j_1) := fun {H H' cu} w => ⟨l.length - (j + 1), by omega, j + 1, num', cu, _, by omega, rfl, hjn, rfl, rfl, w⟩
        cases e with
        | false =>
          obtain rfl := e2 rfl
          refine ⟨false, false, rfl, fun vs H => vs = [.int .u64 (cur' : Int)] ∧ H = H', cond_no rfl ⟨rfl, rfl⟩, ?_⟩
          rintro ys43 H44 n45 ⟨e, rfl⟩
          simp only [List.cons.injEq, Value.int.injEq, true_and, and_true] at e
          subst e
          refine ⟨fun vs H => H = H44, cond_no rfl rfl, ?_⟩
          rintro ys66 H67 b68 rfl
          exact cond_no rfl (gofin (H' := H67) ⟨by rw [List.length_set]; exact la, S', dr', sv', st', Wd', c', C, hC.go hka er ev, w'⟩)
        | true =>
          obtain ⟨wt, rfl⟩ := e1 rfl
          rw [sd, decide_eq_true_eq] at wt
          have k0 : k = 0 := by omega
          obtain ⟨rfl, en⟩ := hv4 k0 a (by rw [← k0]; exact hka)
          refine ⟨true, false, rfl, fun vs H => vs = [.int .u64 (a.v : Int)] ∧ H = H', cond_yes rfl (cond_yes (by rw [k0]; rfl) ⟨_, cell3 (d := 1) (Sep.up3 w'.sep) hv1, ?_, rfl⟩), ?_⟩
          · rw [en]
            have : (if (vk : Int) > (cur : Int) then (vk : Int) else (cur : Int)) = (vk : Int) := by split <;> omega
            rw [this]
          rintro ys43 H44 n45 ⟨e, rfl⟩
          simp only [List.cons.injEq, Value.int.injEq, true_and, and_true] at e
          subst e
          refine ⟨fun vs H => H = H44, cond_yes rfl (cond_no (by rw [k0]; rfl) rfl), ?_⟩
          rintro ys66 H67 b68 rfl
          exact cond_no rfl (gofin (H' := H67) ⟨by rw [List.length_set]; exact la, S', dr', sv', st', Wd', c', C, (hC.go hka er ev).mono (by omega), w'⟩)
      · -- the writer lets go
        intro H' S' dr' sv' st' Wd' c' wt w'
        refine ⟨false, true, rfl, fun vs H => vs = [.int .u64 (cur : Int)] ∧ H = H', cond_no rfl ⟨rfl, rfl⟩, ?_⟩
        rintro ys43 H44 n45 ⟨e, rfl⟩
        simp only [List.cons.injEq, Value.int.injEq, true_and, and_true] at e
        subst e
        refine ⟨fun vs H => H = H44, cond_no rfl rfl, ?_⟩
        rintro ys66 H67 b68 rfl
        exact cond_yes rfl (clear3 hCl hkK w'.sep fun H61 h61 => ⟨l.length - (j + 1), by omega, j + 1, num', cur, _, by omega, rfl, hjn, rfl, rfl, by rw [List.length_set]; exact la, S', dr', sv', st', Wd', c', _, hC.none hkl la, w'.side, w'.own, w'.inv, w'.one, w'.bd, h61⟩)
      · -- a reader is done
        intro H' S' q c' wf ql qv w'
        rw [sd, decide_eq_false_iff_not] at wf
        have hl : (List.replicate N (Bn cur)).length = N := List.length_replicate ..
        refine ⟨true, true, rfl, fun vs H => vs = [.int .u64 (cur : Int)] ∧ H = H', cond_yes rfl (cond_no (by rw [beq_eq_false_iff_ne]; omega) ⟨rfl, rfl⟩), ?_⟩
        rintro ys43 H44 n45 ⟨e, rfl⟩
        simp only [List.cons.injEq, Value.int.injEq, true_and, and_true] at e
        subst e
        refine ⟨fun vs H' => WS0 m x N 1 H' (As'.set k none) S' dr sv st cur num' Wd c' (2 * j + 2) (bx arr (.cells true 3 C) :: bx i7 (.cells true 0 [I 3, I 1, I N, I 0, I 0]) :: M), cond_yes rfl (cond_yes (by rw [decide_eq_true_eq]; omega) ⟨some ⟨a.r, 0, none⟩, ?_, ?_⟩), ?_⟩
        · have h4 := cell3 (d := 0) (Sep.up5 w'.sep) (k := k) hrun
          rw [Nat.add_zero] at h4
          exact h4
        · refine rresult_s (q := q) (vs := List.replicate N (Bn cur)) (Sep.pick w'.sep 5 [3, 4, 0, 1, 2] (by decide)) (by rw [ql, hl]) (by rw [hl]; omega) (fun e => absurd e qv) fun H42 g h42 => ?_
          have h42 : Sep H42 (gl 1 (some g) (wds (List.replicate N (Bn cur))) :: rA a.r x q :: gl 1 q.rv (wds (List.replicate N (Bn cur))) :: mA m x (dN N) :: mem m S' :: many ((As'.set k none).flatMap (oblk m x N)) :: bx arr (.cells true 3 C) :: bx i7 (.cells true 0 [I 3, I 1, I N, I 0, I 0]) :: M) := h42
          have hB := h42.bump 29
          have hc0 : (wds (List.replicate N (Bn cur)))[0]? = some (.int .u64 (cur : Int)) := by
            rw [List.getElem?_map, List.getElem?_replicate, if_pos (by omega), U_num (by omega)]; rfl
          have i0 : inB 0 (List.replicate N (Bn cur)).length := by unfold inB; rw [hl]; omega
          refine ⟨_, _, _, _, _, rfl, _, Sep.ld7 hB rfl, cond_no (by rw [hl]; simp) ⟨i0, asRow_in ⟨_, Sep.ld0 (gl_some.1 hB) hc0, _, cell3 (d := 2) (Sep.up6 hB) hv2, cond_no (by simp; omega) ⟨i0, asRow_in ⟨_, Sep.ld0 (gl_some.1 hB) hc0, cond_no (by simp; omega) ⟨i0, asRow_in ⟨_, Sep.ld0 (gl_some.1 hB) hc0, cond_no (by simp) ⟨w'.side, w'.own, w'.inv, w'.one, w'.bd, Sep.pick hB 8 [3, 4, 5, 6, 7] (by decide)⟩, trivial⟩⟩⟩⟩⟩⟩⟩
        · intro ys58 H59 b60 w'
          exact cond_yes rfl (clear3 hCl hkK w'.sep fun H61 h61 => ⟨l.length - (j + 1), by omega, j + 1, num', cur, _, by omega, rfl, hjn, rfl, rfl, by rw [List.length_set]; exact la, S', dr, sv, st, Wd, c', _, hC.none hkl la, w'.side, w'.own, w'.inv, w'.one, w'.bd, h61⟩)
  · refine asBool_in (bad_s (Sep.up1 w.sep) ⟨_, rfl, cond_yes ?_ (CA_truth (by kernel_rfl) ⟨_, rfl, rfl⟩)⟩)
    rw [w.one.bads]; rfl

theorem ints_of : ∀ (css : List (List Value)), (∀ c ∈ css, ∃ n : Int, c = [I n]) → ∃ l : List Int, css = l.map fun v => [I v]
  | [], _ => ⟨[], rfl⟩
  | c :: css, h => by
    obtain ⟨n, rfl⟩ := h c (by simp)
    obtain ⟨l, rfl⟩ := ints_of css fun c hc => h c (List.mem_cons_of_mem _ hc)
    exact ⟨n :: l, rfl⟩

theorem ints_arg {H : Heap} {v : Value} (hA : [v] = [.slice none 0 0] ∨ ∃ (i : Nat) (cs : List (List Value)), [v] = [.slice (some ⟨i, 0, none⟩) cs.length 0] ∧ i < H.next ∧ H.get i = some (AS.Obj.cells false 0 cs.flatten) ∧ ∀ c ∈ cs, (∃ n : Int, c = [.int .i64 n] ∧ (Lit.int .i64 n).wf = true)) :
    ∃ (a : Option Addr) (n : Nat) (l : List Int) (M : List Asr), v = .slice a n 0 ∧ Arg a n (l.map fun v => [I v]) M ∧ Sep H M := by
  obtain ⟨a, n2, css, M, rfl, ha, hs, hc⟩ := Arg.of (P := fun c => ∃ n : Int, c = [I n]) (H := H) (v := v) (by
    rcases hA with hA | ⟨i, cs, hA, hi, hg, hc⟩
    · exact .inl (List.cons.inj hA).1
    · exact .inr ⟨i, cs, (List.cons.inj hA).1, hi, hg, fun c hm => by obtain ⟨n, e, _⟩ := hc c hm; exact ⟨n, e⟩⟩)
  obtain ⟨l, rfl⟩ := ints_of css hc
  exact ⟨_, _, l, M, rfl, ha, hs⟩

theorem RecordAtomic_law (H : Heap) (us : List Value) (h : shpVs en H 7 T.RecordAtomic us) : CA en F.crossbarlaw14_RecordAtomic us H fun v _ => v = .bool true := by
  obtain ⟨v, u, rfl, ⟨n, hn, wn⟩, v2, u2, rfl, ⟨n2, hn2, wn2⟩, v3, u3, rfl, hA, rfl⟩ := args_RecordAtomic h
  obtain rfl := (List.cons.inj hn).1
  obtain rfl := (List.cons.inj hn2).1
  clear h hn hn2
  obtain ⟨a, n3, l, M, rfl, ha, hs⟩ := ints_arg hA
  exact RecordAtomic_ok ha hs
end Go.Proofs.Ytgpacebjbdhphaa
