/-
  'crossbarlaw16.LruAge' returns true: the keys that were used last are there.
-/
import Derived.Test.YtjggeoghlicmdaaGreatLruM
import Derived.Test.YtjggeoghlicmdaaGreatVcLb
import Derived.Test.YtjggeoghlicmdaaGreatArgs
import Derived.Test.YtjggeoghlicmdaaGreatAs45
namespace Go.Proofs.YtjggeoghlicmdaaGreat
open Go Go.AS Go.RowKit
set_option linter.unusedVariables false
variable {H H' : Heap} {R : Value → Heap → Prop} {L M : List Asr} {x m g i7 i20 i n : Nat} {N n0 : Int} {l vs : List Wd} {kp a : Option Addr} {ord : List Nat} {A : Asr}

structure Age (x m g i7 i20 : Nat) (N : Int) (l : List Wd) (M : List Asr) (i : Nat) (kp : Option Addr) (ord : List Nat) (H : Heap) : Prop where
  ex : ∃ la w vs A X, vs.length = l.length ∧ KP kp ord A ∧ Idle (lcOf x m g N 1996) w (1 + 2000 * i) X.G la ∧ X.G.ins = [] ∧ Says l vs ord X.G.S la ∧ (∀ j ∈ ord, j < i) ∧ (ord.length : Int) ≤ N ∧
    Sep H (xA (lcOf x m g N 1996) :: grA g m X :: A :: bx i20 (.cells true 1 (vs.map W)) :: bx i7 (.cells true 0 [P m, P g, P x]) :: M)

/-- Where a key is among those that are there: what was found so far. -/
def Seen (l : List Wd) (ord : List Nat) (i j : Nat) (t : Int) : Prop :=
  (t = -1 ∧ ∀ k, k < j → l.getD (ord.getD k 0) 0 ≠ l.getD i 0) ∨ ∃ p, p < j ∧ t = (p : Int) ∧ l.getD (ord.getD p 0) 0 = l.getD i 0

theorem getD_of {α : Type} {l : List α} {d : α} {j : Nat} (h : j < l.length) : l.getD j d = l[j] := by
  rw [List.getD_eq_getElem?_getD, List.getElem?_eq_getElem h]; rfl

theorem tail_s {Q : Nat → Option Addr → Nat → Heap → Prop} {K0 : Nat} (hk : KP kp ord A) (hl : ord.length ≤ 1000) (hi : i < 1000) (h : Sep H (A :: L)) (hN : 1 ≤ N)
    (h1 : ¬ (ord.length : Int) + 1 > N → ∀ H' q A', KP q (ord ++ [i]) A' → Sep H' (A' :: L) → ∃ k, k < K0 ∧ Q k q (ord.length + 1) H')
    (h2 : (ord.length : Int) + 1 > N → ∀ H' q A', KP q ((ord ++ [i]).drop 1) A' → Sep H' (A' :: L) → ∃ k, k < K0 ∧ Q k q ord.length H') :
    nwH H (.cells true 1 [.int .u64 (IntKind.u64.wrap (i : Int))]) fun i125 H126 => ∃ l127, rowOf H126 1 (some ⟨i125, 0, none⟩) 1 = some l127 ∧ apd H126 8 1 kp ord.length 1 l127 fun a n H130 =>
      bif decide ((n : Int) > N) then (inS 1 n ∧ slK H130 a 1 1 (n - 1) fun v => ∃ k, k < K0 ∧ asSl v fun a' n' => Q k a' n' H130) else (∃ k, k < K0 ∧ Q k a n H130) := by
  have e : IntKind.u64.wrap (i : Int) = (i : Int) := by
    have h1 : IntKind.u64.wrap (i : Int) = (i : Int) % 18446744073709551616 := rfl
    rw [h1]; omega
  rw [e]
  refine Sep.nw h fun i1 H2 hs2 => ⟨[.int .u64 (i : Int)], rowOf_bx (es := 1) (n := 1) (Sep.get0 hs2) (by decide) rfl, ?_⟩
  refine hk.app (Sep.rm0 hs2) hl fun H3 q A' hk' h3 => ?_
  refine cond_of (fun e => ?_) fun e => ?_
  · have e : (ord.length : Int) + 1 > N := by have := of_decide_eq_true e; omega
    refine ⟨by unfold inS; omega, hk'.cut (p := 1) (n := ord.length + 1 - 1) h3 (by simp) (by simp) fun q' _ hk2 => ?_⟩
    obtain ⟨k, k1, k2⟩ := h2 e H3 q' A' hk2 h3
    exact ⟨k, k1, asSl_in (by rw [Nat.add_sub_cancel]; exact k2)⟩
  · have e : ¬ (ord.length : Int) + 1 > N := by have := of_decide_eq_false e; omega
    exact h1 e H3 q A' hk' h3

theorem asSlice_of {a : Option Addr} {l : Nat} {K : Option Addr → Nat → Prop} (h : K a l) : AS.asSlice (.slice a l 0) K := h
theorem rm_cons {e : El} {la : List El} {k : Wd} (h : e.k = k) : rm (e :: la) k = rm la k := by
  unfold rm; rw [List.filter_cons]; simp [h]
theorem rm_rm {la : List El} {k : Wd} : rm (rm la k) k = rm la k := by
  unfold rm; rw [List.filter_filter]; simp
theorem rm_id {la : List El} {k : Wd} (h : findK la k = none) : rm la k = la := by
  refine List.filter_eq_self.2 fun e he => ?_
  have := List.find?_eq_none.1 h e he
  simp only [beq_iff_eq] at this
  simpa using this
theorem key_ne {la : List El} {k : Wd} {e : El} (h : e ∈ rm la k) : e.k ≠ k := by
  have := (List.mem_filter.1 h).2
  simpa using this
theorem vset {i : Nat} {v : Wd} (vs : List Wd) : setAt (vs.map W) (0 + i * 1) [W v] = (vs.set i v).map W := by
  rw [Nat.zero_add, Nat.mul_one, List.map_set]; rfl
theorem Says.val1 {l vs : List Wd} {S S' : Sm} {la la' : List El} {ord : List Nat} (h : Says l vs ord S la) (hv : ∀ e ∈ la, val S' e.h = val S e.h) : Says l vs ord S' la := h.vals hv

set_option maxHeartbeats 4000000 in
theorem LruAge_ok (ha : Arg a n (l.map fun v => [W v]) M) (h : Sep H M) : CA en F.crossbarlaw16_LruAge [I n0, .slice a n 0] H fun v _ => v = .bool true := by
  have hn : n = l.length := by rw [ha.len, List.length_map]
  subst hn
  apply vc_crossbarlaw16_LruAge
  refine cond_of (fun _ => CA_truth (by kernel_rfl) ⟨_, rfl, rfl⟩) fun hl => ?_
  have hl : l.length ≤ 150 := by have := of_decide_eq_false hl; omega
  refine Pick_ok (by decide) (by decide) ⟨_, rfl, ?_⟩
  have hb : 0 ≤ n0 % 64 ∧ n0 % 64 < 64 := ⟨Int.emod_nonneg _ (by decide), Int.emod_lt_of_pos _ (by decide)⟩
  rw [wrap_i64 (by omega)]
  obtain ⟨N, hN⟩ : ∃ N, N = 1 + n0 % 64 := ⟨_, rfl⟩
  rw [← hN]
  have hN1 : 1 ≤ N ∧ N ≤ 64 := by omega
  refine made_s hN1 (by decide) h fun H8 x m g X0 hI0 hins0 h8 => ⟨_, _, _, _, rfl, ?_⟩
  refine Sep.nw h8 fun i7 H14 h14 => Sep.st0 h14 (Nat.le_of_ble_eq_true rfl) fun H15 h15 => ?_
  refine ⟨fun _ H' => H' = H15, cond_no rfl rfl, ?_⟩
  rintro _ H18 b19 rfl
  refine ⟨⟨by omega, Int.le_refl _, by omega⟩, Sep.nw h15 fun i20 H21 h21 => ?_⟩
  have hz : reps ((l.length : Int)).toNat [.int .u64 0] = ((List.replicate l.length (0 : Wd)).map W) := by
    rw [Int.toNat_natCast, reps_one, List.map_replicate]; rfl
  rw [hz] at h21
  have st0 : Age x m g i7 i20 N l M 0 none [] H21 := by
    refine ⟨[], 0, List.replicate l.length 0, many [], X0, by simp, .nl, ⟨hI0.mem, hI0.made, hI0.d1, hI0.le, hI0.keys, hI0.n, hI0.out⟩, hins0, rfl, by simp, by simp; omega, ?_⟩
    have h22 := Sep.many0 h21
    exact Sep.pick h22 5 [3, 4, 0, 1, 2] (by decide)
  clear h21 h15 h14 h8 hI0 hins0 h
  refine use_crossbarlaw16_LruAge_0 (fun k t4 t8 t8l t10 H => ∃ (i : Nat) (ord : List Nat), i ≤ l.length ∧ k = l.length - i ∧ t10 = (i : Int) ∧ t8l = ord.length ∧ Age x m g i7 i20 N l M i t8 ord H) l.length ⟨0, [], by omega, rfl, rfl, rfl, st0⟩ ?_
  rintro k t4 t8 t8l t10 ys H ⟨i, ord, hi, rfl, rfl, rfl, hA⟩
  refine cond_of (fun h1 => ?_) fun h1 => ?_
  · have hi' : i < l.length := by simp only [decide_eq_true_eq] at h1; omega
    have hordN : (ord.length : Int) ≤ N := by
      obtain ⟨_, _, _, _, _, _, _, _, _, _, _, e, _⟩ := hA.ex; exact e
    refine use_crossbarlaw16_LruAge_1 (fun k t11 t12 H => ∃ j : Nat, j ≤ ord.length ∧ k = ord.length - j ∧ t12 = (j : Int) ∧ Seen l ord i j t11 ∧ Age x m g i7 i20 N l M i t8 ord H) ord.length ⟨0, by omega, rfl, rfl, .inl ⟨rfl, fun k h => by omega⟩, hA⟩ ?_
    clear hA
    rintro k t11 t12 ys H1 ⟨j, hj, rfl, rfl, hat, hA1⟩
    obtain ⟨la, w, vs, A, X, hvl, hkp, hI, hins, hS, hlt, hle, hs⟩ := hA1.ex
    have hM : ∀ (Z : List Asr) (B : Asr), B ∈ M → B ∈ Z ++ M := fun Z B hB => List.mem_append_right _ hB
    refine cond_of (fun h2 => ?_) fun h2 => ?_
    · have hj' : j < ord.length := by simp only [decide_eq_true_eq] at h2; omega
      have hB := hs.bump 12
      obtain ⟨kb, pre, e0, e1⟩ := hkp.ld (Sep.up2 hB) hj'
      have hji : ord[j] < i := hlt _ (List.getElem_mem hj')
      rw [e0]
      refine ⟨by unfold inB; omega, asRow_in ⟨_, e1, by unfold inB; omega, ?_⟩⟩
      refine ha.word hB (fun A hA => by simp [hA]) (j := ord[j]) (by omega) fun ib hv => ⟨_, hv _ (List.getElem?_eq_getElem (by omega)), by unfold inB; omega, ?_⟩
      refine ha.word hB (fun A hA => by simp [hA]) (j := i) hi' fun ib hv => ⟨_, hv _ (List.getElem?_eq_getElem hi'), ⟨?_, trivial⟩⟩
      rw [← e0]
      have ej : IntKind.i64.wrap ((j : Int) + 1) = ((j + 1 : Nat) : Int) := by rw [wrap_i64 (by omega)]; omega
      have hAB : Age x m g i7 i20 N l M i t8 ord (H1.bump 12) := ⟨la, w, vs, A, X, hvl, hkp, hI, hins, hS, hlt, hle, hB⟩
      have ek : ∀ q (hq : q < l.length), l.getD q 0 = l[q] := fun q hq => getD_of hq
      have eo : ord.getD j 0 = ord[j] := getD_of hj'
      refine cond_of (fun e => ?_) fun e => ?_
      · have e : l[ord[j]] = l[i] := by rw [bv_beq] at e; simpa using e
        exact ⟨ord.length - (j + 1), by omega, j + 1, by omega, rfl, ej, .inr ⟨j, by omega, rfl, by rw [eo, ek _ (by omega), ek _ hi', e]⟩, hAB⟩
      · have e : l[ord[j]] ≠ l[i] := by rw [bv_beq] at e; simpa using e
        refine ⟨ord.length - (j + 1), by omega, j + 1, by omega, rfl, ej, ?_, hAB⟩
        rcases hat with ⟨a1, a2⟩ | ⟨p, a1, a2, a3⟩
        · refine .inl ⟨a1, fun k hk => ?_⟩
          by_cases ekj : k = j
          · subst ekj; rw [eo, ek _ (by omega), ek _ hi']; exact e
          · exact a2 k (by omega)
        · exact .inr ⟨p, by omega, a2, a3⟩
    · have ej : j = ord.length := by simp only [decide_eq_false_iff_not] at h2; omega
      subst ej
      refine asInt_in ?_
      have hF := hs.fore1 (n := 12) (a := 9) (.cells true 0 [I 0, .slice none 0 0, .int .u64 0, I 0]) (by decide)
      generalize H1.next + 9 = lb at hF ⊢
      have hgi : l.getD i 0 = l[i] := getD_of hi'
      refine ⟨_, _, _, Sep.lds5 hF rfl, by unfold inB; omega, ?_⟩
      refine ha.word hF (fun A hA => by simp [hA]) (j := i) hi' fun ib hv => ⟨_, hv _ (List.getElem?_eq_getElem hi'), ?_⟩
      refine op_look (Sep.pick hF 6 [1, 2, 0, 3, 4, 5] (by decide)) hI (by omega) fun H11 X1 k la1 o rv no el hk1 hk2 hI1 hins1 hvals hcase ho h11 => ⟨_, _, _, _, _, _, rfl, ?_⟩
      have hins1 := ins_nil hins1 hins
      -- xA gr o lb A vals s
      refine Sep.st3 h11 (Nat.le_of_ble_eq_true rfl) fun H18 h18 => ⟨?_, ⟨⟨_, Sep.get0 hF, rfl⟩, ⟨_, Sep.get3 h11, rfl⟩, trivial⟩, trivial⟩
      have hlen : la.length = ord.length := hS.len
      have ew : IntKind.i64.wrap (IntKind.i64.wrap (4 * N) + 60) = 4 * N + 60 := by rw [wrap_i64 (n := 4 * N) (by omega), wrap_i64 (by omega)]
      have ev : IntKind.u64.wrap (IntKind.i64.wrap (1000 + (i : Int))) = ((BitVec.ofInt 64 (1000 + (i : Int))).toNat : Int) := by rw [wrap_i64 (by omega), wrap_u64]
      obtain ⟨vi, hvi⟩ : ∃ vi, vi = BitVec.ofInt 64 (1000 + (i : Int)) := ⟨_, rfl⟩
      rw [ew, ev, ← hvi]
      have hivs : i < vs.length := by omega
      have hgv : (vs.set i vi).getD i 0 = vi := by rw [List.getD_eq_getElem?_getD, List.getElem?_set_self hivs]; rfl
      have ei1 : IntKind.i64.wrap ((i : Int) + 1) = ((i + 1 : Nat) : Int) := by rw [wrap_i64 (by omega)]; omega
      have hnd : (la.map El.k).Nodup := hI.keys
      rcases hat with ⟨a1, a2⟩ | ⟨p, a1, a2, a3⟩
      · -- it is not there
        subst a1
        have hnone : findK la l[i] = none := by
          refine hS.none fun j hj => ?_
          obtain ⟨k, hk, rfl⟩ := List.getElem_of_mem hj
          have := a2 k hk
          rw [getD_of hk, hgi] at this; exact this
        obtain ⟨rfl, rfl, rfl, rfl⟩ : no = 2 ∧ rv = [] ∧ el = 0 ∧ la1 = la := by
          rcases hcase with ⟨_, c1, c2, c3, c4⟩ | ⟨e, c0, _⟩
          · exact ⟨c1, c2, c3, c4⟩
          · rw [hnone] at c0; cases c0
        refine ⟨fun _ H' => H' = H18, ⟨_, Sep.ld3 h18 rfl, cond_no rfl (cond_no (decide_eq_false (by omega)) (cond_no (decide_eq_false (by omega)) rfl))⟩, ?_⟩
        rintro _ H24 b25 rfl
        refine ⟨by unfold inB; omega, Sep.st5 h18 (by simp; omega) fun H26 h26 => ?_⟩
        rw [vset] at h26
        refine ⟨fun vs' H' => H' = H26 ∧ ∃ b, vs' = [.bool b, .slice t8 ord.length 0], cond_no rfl ⟨rfl, _, rfl⟩, ?_⟩
        rintro _ H62 b63 a64 i65 ⟨rfl, b, e62⟩
        obtain ⟨rfl, rfl, rfl⟩ : b63 = b ∧ a64 = t8 ∧ i65 = ord.length := by simpa using e62
        refine ⟨fun _ H' => ∃ (la2 : List El) (w2 : Wd) (X2 : Gx) (L2 : List Asr), Idle (lcOf x m g N 1996) w2 (1 + 2000 * (i + 1)) X2.G la2 ∧ X2.G.ins = [] ∧
            Says l (vs.set i vi) (if (ord.length : Int) + 1 > N then (ord ++ [i]).drop 1 else ord ++ [i]) X2.G.S la2 ∧ Sep H' (A :: xA (lcOf x m g N 1996) :: grA g m X2 :: bx i20 (.cells true 1 ((vs.set i vi).map W)) :: bx i7 (.cells true 0 [P m, P g, P x]) :: M), cond_no rfl ?_, ?_⟩
        · have hG := h26.fore1 (n := 16) (a := 13) (.cells true 0 [I 0, .slice none 0 0, .int .u64 0, I 0]) (by decide)
          generalize H62.next + 13 = mb at hG ⊢
          -- mb xA gr o lb A vals s
          refine ⟨_, _, _, Sep.lds7 hG rfl, by unfold inB; omega, ?_⟩
          refine ha.word hG (fun A hA => by simp [hA]) (j := i) hi' fun ib hv => ⟨_, hv _ (List.getElem?_eq_getElem hi'), by unfold inB; omega, (vi.toNat : Int), Sep.ld6 hG ?_, ?_⟩
          · rw [Nat.zero_add, Int.toNat_natCast, Nat.mul_one, List.getElem?_map, List.getElem?_set_self hivs]; rfl
          refine op_upd (Sep.pick hG 8 [1, 2, 0, 5, 6, 7] (by decide)) hI1 (by omega) hins1 (by show (195 : Int) ≤ 1996; decide) fun H84 X2 k2 la2 o2 hn hk3 hk4 hI2 hins2 hla2 hv2 hvs2 h84 => ⟨_, _, _, _, _, _, rfl, ?_⟩
          -- xA gr mb A vals s
          refine Sep.st2 h84 (Nat.le_of_ble_eq_true rfl) fun H91 h91 => ⟨?_, ⟨⟨_, Sep.get0 hG, rfl⟩, ⟨_, Sep.get2 h84, rfl⟩, trivial⟩, trivial⟩
          refine ⟨fun vs' H' => vs' = [.bool false] ∧ H' = H91, ⟨_, Sep.ld2 h91 rfl, cond_no rfl (cond_no (decide_eq_false (by omega)) ⟨by rw [decide_eq_false (by omega)], rfl⟩)⟩, ?_⟩
          rintro _ H97 b98 ⟨e98, rfl⟩
          obtain rfl : b98 = false := by simpa using e98
          refine cond_no rfl ⟨la2, _, X2, [], ⟨hI2.mem, by have := hI2.made; omega, hI2.d1, hI2.le, hI2.keys, hI2.n, hI2.out⟩, hins2, ?_, Sep.pick h91 6 [3, 0, 1, 4, 5] (by decide)⟩
          have hr : ¬ (rm la1 l[i]).length < la1.length := by rw [rm_id hnone]; exact Nat.lt_irrefl _
          rw [if_neg hr] at hla2
          have hS1 : Says l (vs.set i vi) ord X1.G.S la1 := (hS.vals hvals).set hlt vi
          have hno : ∀ e ∈ la1, e.k ≠ l[i] := fun e he h => by
            have := List.find?_eq_none.1 hnone e he
            simp only [beq_iff_eq] at this
            exact this h
          have hd1 : (lcOf x m g N 1996).d1 = N := rfl
          rw [hlen, hd1] at hla2
          by_cases hfull : (ord.length : Int) + 1 > N
          · rw [if_pos hfull]
            rw [if_neg (by omega)] at hla2
            obtain ⟨j0, ord2, rfl⟩ : ∃ j0 ord2, ord = j0 :: ord2 := by
              cases ord with
              | nil => simp at hfull; omega
              | cons j0 ord2 => exact ⟨_, _, rfl⟩
            rw [hla2]
            refine Says.snoc (hS1.tail.vals fun e he => hvs2 e (by rw [hla2]; exact List.mem_cons_of_mem _ he) (hno e (List.dropLast_subset _ he))) hgi.symm (by rw [hgv]; exact hv2)
          · rw [if_neg hfull]
            rw [if_pos (by omega)] at hla2
            rw [hla2]
            exact Says.snoc (hS1.vals fun e he => hvs2 e (by rw [hla2]; exact List.mem_cons_of_mem _ he) (hno e he)) hgi.symm (by rw [hgv]; exact hv2)
        · rintro _ H123 b124 ⟨la2, w2, X2, _, hI2, hins2, hS2, h123⟩
          refine tail_s hkp (by omega) (by omega) h123 hN1.1 (fun e H' q A' hk' h' => ?_) fun e H' q A' hk' h' => ?_
          · rw [if_neg e] at hS2
            exact ⟨l.length - (i + 1), by omega, i + 1, ord ++ [i], by omega, rfl, ei1, by simp, la2, w2, vs.set i vi, A', X2, by simpa using hvl, hk', hI2, hins2, hS2, fun j hj => by
              rcases List.mem_append.1 hj with h | h
              · have := hlt j h; omega
              · simp at h; omega, by simp; omega, Sep.pick h' 5 [1, 2, 0, 3, 4] (by decide)⟩
          · rw [if_pos e] at hS2
            exact ⟨l.length - (i + 1), by omega, i + 1, (ord ++ [i]).drop 1, by omega, rfl, ei1, by simp, la2, w2, vs.set i vi, A', X2, by simpa using hvl, hk', hI2, hins2, hS2, fun j hj => by
              rcases List.mem_append.1 (List.mem_of_mem_drop hj) with h | h
              · have := hlt j h; omega
              · simp at h; omega, by simp; omega, Sep.pick h' 5 [1, 2, 0, 3, 4] (by decide)⟩
      · -- it is there
        subst a2
        cases hkp with
        | nl => simp at a1
        | bk kb pre ord =>
        have hpi : ord[p] < i := hlt _ (List.getElem_mem a1)
        have hsplit : ord = ord.take p ++ ord[p] :: ord.drop (p + 1) := by
          rw [← List.drop_eq_getElem_cons a1, List.take_append_drop]
        obtain ⟨ord1, hord1⟩ : ∃ o1, o1 = ord.take p ++ ord.drop (p + 1) := ⟨_, rfl⟩
        have hlen1 : ord1.length = p + (ord.length - (p + 1)) := by rw [hord1, List.length_append, List.length_take, List.length_drop, Nat.min_eq_left (by omega)]
        have hlt1 : ∀ j ∈ ord1, j < i := fun j hj => by
          rw [hord1] at hj
          rcases List.mem_append.1 hj with h | h
          · exact hlt j (List.mem_of_mem_take h)
          · exact hlt j (List.mem_of_mem_drop h)
        have hkey : l.getD ord[p] 0 = l[i] := by rw [getD_of a1, hgi] at a3; exact a3
        have hS0 := hS
        rw [hsplit] at hS0
        obtain ⟨e, f1, f2, f3, f4, f5⟩ := hS0.some hnd hkey
        rw [← hord1] at f4
        obtain ⟨v, hv0⟩ : ∃ v, v = val X.G.S e.h := ⟨_, rfl⟩
        obtain ⟨rfl, rfl, hla1⟩ : no = 0 ∧ rv = [v] ∧ la1 = e :: rm la l[i] := by
          rcases hcase with ⟨c0, _⟩ | ⟨e', c0, c1, c2, c3, c4⟩
          · rw [f1] at c0; cases c0
          · rw [f1] at c0; cases c0
            exact ⟨c1, by rw [c2, hv0], c4⟩
        obtain ⟨ob, rfl⟩ : ∃ ob, o = some ob := by
          cases o with
          | none => exact absurd (ho rfl) (by simp)
          | some ob => exact ⟨ob, rfl⟩
        have hge : decide ((p : Int) ≥ 0) = true := decide_eq_true (by omega)
        have ep : IntKind.i64.wrap ((p : Int) + 1) = ((p + 1 : Nat) : Int) := by rw [wrap_i64 (by omega)]; omega
        rw [hge, ep, Int.toNat_natCast, Int.toNat_natCast]
        refine ⟨fun _ H' => H' = H18, ⟨_, Sep.ld3 h18 rfl, cond_no rfl (cond_no (decide_eq_false (by omega)) (cond_no (decide_eq_false (by omega)) rfl))⟩, ?_⟩
        rintro _ H24 b25 rfl
        refine ⟨by unfold inB; omega, Sep.st5 h18 (by simp; omega) fun H26 h26 => ?_⟩
        rw [vset] at h26
        refine ⟨fun vs' H' => ∃ b q, vs' = [.bool b, .slice (addr q) (p + (ord.length - (p + 1))) 0] ∧ (q = none → ord1 = []) ∧
            Sep H' (gl 1 q (nums ord1) :: xA (lcOf x m g N 1996) :: grA g m X1 :: gl 1 (some ob) [W v] :: bx lb (.cells true 0 [I 0, .slice (addr (some ob)) [v].length 0, W 0, I el]) :: bx i20 (.cells true 1 ((vs.set i vi).map W)) :: bx i7 (.cells true 0 [P m, P g, P x]) :: M), cond_yes rfl ?_, ?_⟩
        · have hB := h26.bump 12
          refine ⟨fun _ H' => Sep H' (xA (lcOf x m g N 1996) :: grA g m X1 :: gl 1 (some ob) [W v] :: bx lb (.cells true 0 [I 0, .slice (addr (some ob)) [v].length 0, W 0, I el]) :: bx kb (.cells true 1 (pre ++ nums ord)) :: bx i20 (.cells true 1 ((vs.set i vi).map W)) :: bx i7 (.cells true 0 [P m, P g, P x]) :: M), ?_, ?_⟩
          · refine ⟨_, _, Sep.ld3 hB rfl, by unfold inB; omega, ?_⟩
            obtain ⟨kb', pre', e0, e1⟩ := (KP.bk kb pre ord).ld (Sep.up4 hB) a1
            obtain ⟨rfl, rfl⟩ : kb = kb' ∧ pre.length = pre' := by simpa using e0
            refine asRow_in ⟨_, e1, by unfold inB; omega, (v.toNat : Int), Sep.ld5 hB ?_, ?_⟩
            · rw [Nat.zero_add, Int.toNat_natCast, Nat.mul_one, List.getElem?_map, List.getElem?_set_ne (by omega), List.getElem?_eq_getElem (by omega)]
              have : vs[ord[p]] = v := by rw [hv0, f3, getD_of (by omega)]
              rw [this]; rfl
            · refine Sep.nw hB fun i35 H36 h36 => ?_
              have hr1 : WRow H36 (addr (some ob)) [v] := .inr ⟨ob, true, 1, rfl, h36.lt ob (by simp [feet, bx, gl, many, grA]), gl_get (Sep.up3 h36)⟩
              have hr2 : WRow H36 (some ⟨i35, 0, none⟩) [v] := .inr ⟨i35, true, 1, rfl, h36.footlt (by simp [bx]), Sep.get0 h36⟩
              refine SameWords_ok (w1 := [v]) (w2 := [v]) hr1 hr2 (by simp) fun H38 fr => ⟨_, rfl, cond_no (by simp) (h36.keep fr).tail, ⟨⟨_, _, Sep.ld3 hB rfl, rfl, rfl, rfl⟩, ⟨_, _, Sep.ld4 h36 rfl, rfl, rfl, rfl⟩, trivial⟩, trivial⟩
          · rintro _ H45 b46 h45
            have hB := h45.bump 10
            refine ⟨by unfold inS; omega, ⟨⟨_, _, _, Sep.get4 hB, .inr rfl⟩, ?_⟩⟩
            refine copyO_s (KP.bk kb pre ord) (Sep.up4 hB) (p := p) (by omega) (by omega) fun H49 q hq h49 => ⟨_, _, rfl, by unfold inS; omega, ⟨⟨_, _, _, Sep.get1 h49, .inr rfl⟩, ?_⟩⟩
            have hrow := (KP.dropped (kb := kb) (pre := pre) (p := p + 1) (o := ord) (by omega)).row (Sep.up1 h49)
            rw [List.length_drop] at hrow
            obtain ⟨l55, e55, rfl⟩ := hrow
            refine asSlice_of ⟨_, e55, ?_⟩
            have hby : (p + (ord.length - (p + 1))) * 8 ≤ 140737488355328 := by
              rw [← hlen1]
              have h64 : ord1.length ≤ 64 := by omega
              exact Nat.le_trans (Nat.mul_le_mul_right 8 h64) (by decide)
            refine apd_any h49 (fun h => by rw [hq h]; rfl) (by decide) (by rw [nums_len, List.length_take, Nat.min_eq_left (Nat.le_of_lt a1), Nat.mul_one]) (by rw [nums_len, List.length_drop, Nat.mul_one]; rfl) hby fun H58 q2 hq2 h58 => ?_
            rw [← nums_app, ← hord1] at h58 hq2
            refine ⟨⟨b46, q2, rfl, fun h => List.eq_nil_of_length_eq_zero (by have := congrArg List.length (hq2 h); rw [nums_len] at this; exact this), Sep.pick h58 8 [0, 2, 3, 4, 5, 6, 7] (by decide)⟩, ?_⟩
            refine ⟨⟨⟨by unfold inS; omega, ⟨⟨_, _, _, Sep.get4 hB, .inr rfl⟩, ?_⟩⟩, ⟨by unfold inS; omega, ⟨⟨_, _, _, Sep.get1 h49, .inr rfl⟩, ?_⟩⟩, trivial⟩, ⟨rfl, rfl, trivial⟩, trivial⟩
            · simp [sameP, sameN]
            · simp [sameP, sameN]
        · rintro _ H62 b63 a64 i65 ⟨b, q, e62, hq, h62g⟩
          obtain ⟨rfl, rfl, rfl⟩ : b63 = b ∧ a64 = addr q ∧ i65 = p + (ord.length - (p + 1)) := by simpa using e62
          rw [← hlen1]
          obtain ⟨A1, hk1', h62⟩ := kp_of_gl h62g hq
          -- A1 xA gr o lb vals s
          have hS1 : Says l (vs.set i vi) ord1 X1.G.S (rm la l[i]) := (f4.vals fun e' he' => hvals e' (by rw [hla1]; exact List.mem_cons_of_mem _ he')).set hlt1 vi
          refine ⟨fun _ H' => ∃ (la2 : List El) (w2 : Wd) (X2 : Gx) (vs2 : List Wd), vs2.length = l.length ∧ Idle (lcOf x m g N 1996) w2 (1 + 2000 * (i + 1)) X2.G la2 ∧ X2.G.ins = [] ∧
            Says l vs2 (ord1 ++ [i]) X2.G.S la2 ∧ Sep H' (A1 :: xA (lcOf x m g N 1996) :: grA g m X2 :: bx i20 (.cells true 1 (vs2.map W)) :: bx i7 (.cells true 0 [P m, P g, P x]) :: M), cond_yes rfl ?_, ?_⟩
          · refine ⟨by unfold inB; omega, ?_⟩
            refine ha.word h62 (fun A hA => by simp [hA]) (j := i) hi' fun ib hv => ⟨_, hv _ (List.getElem?_eq_getElem hi'), by unfold nz; decide, ?_⟩
            refine cond_of (fun _ => ?_) fun _ => ?_
            · refine ⟨_, _, Sep.ld4 h62 rfl, by unfold inB; simp, asRow_in ⟨(v.toNat : Int), ?_, by unfold inB; omega, Sep.st5 h62 (by simp; omega) fun H75 h75 => ?_⟩⟩
              · rw [cell_of (gl_get (Sep.up3 h62))]; rfl
              · rw [vset] at h75
                refine ⟨la1, _, X1, (vs.set i vi).set i v, by simpa using hvl, ⟨hI1.mem, by have := hI1.made; omega, hI1.d1, hI1.le, hI1.keys, hI1.n, hI1.out⟩, hins1, ?_, Sep.pick h75 7 [0, 1, 2, 5, 6] (by decide)⟩
                rw [hla1]
                refine Says.snoc (hS1.set hlt1 v) (by rw [f2, hgi]) ?_
                rw [hvals e (by rw [hla1]; exact .head _), List.getD_eq_getElem?_getD, List.getElem?_set_self (by simpa using hivs)]
                exact hv0.symm
            · have hG := h62.fore1 (n := 16) (a := 13) (.cells true 0 [I 0, .slice none 0 0, .int .u64 0, I 0]) (by decide)
              generalize H62.next + 13 = mb at hG ⊢
              -- mb A1 xA gr o lb vals s
              refine ⟨_, _, _, Sep.lds7 hG rfl, by unfold inB; omega, ?_⟩
              refine ha.word hG (fun A hA => by simp [hA]) (j := i) hi' fun ib hv => ⟨_, hv _ (List.getElem?_eq_getElem hi'), by unfold inB; omega, (vi.toNat : Int), Sep.ld6 hG ?_, ?_⟩
              · rw [Nat.zero_add, Nat.mul_one, List.getElem?_map, List.getElem?_set_self hivs]; rfl
              have hlen2 : la1.length ≤ 64 := by have := hI1.le; have : (lcOf x m g N 1996).d1 = N := rfl; omega
              have hl1 : la1.length ≤ N := hI1.le
              refine op_upd (Sep.pick hG 8 [2, 3, 0, 1, 6, 7] (by decide)) hI1 (by omega) hins1 (by show (195 : Int) ≤ 1996; decide) fun H84 X2 k2 la2 o2 hn hk3 hk4 hI2 hins2 hla2 hv2 hvs2 h84 => ⟨_, _, _, _, _, _, rfl, ?_⟩
              -- xA gr mb A1 vals s
              refine Sep.st2 h84 (Nat.le_of_ble_eq_true rfl) fun H91 h91 => ⟨?_, ⟨⟨_, Sep.get0 hG, rfl⟩, ⟨_, Sep.get2 h84, rfl⟩, trivial⟩, trivial⟩
              refine ⟨fun vs' H' => vs' = [.bool false] ∧ H' = H91, ⟨_, Sep.ld2 h91 rfl, cond_no rfl (cond_no (decide_eq_false (by omega)) ⟨by rw [decide_eq_false (by omega)], rfl⟩)⟩, ?_⟩
              rintro _ H97 b98 ⟨e98, rfl⟩
              obtain rfl : b98 = false := by simpa using e98
              refine cond_no rfl ⟨la2, _, X2, vs.set i vi, by simpa using hvl, ⟨hI2.mem, by have := hI2.made; omega, hI2.d1, hI2.le, hI2.keys, hI2.n, hI2.out⟩, hins2, ?_, Sep.pick h91 6 [3, 0, 1, 4, 5] (by decide)⟩
              have hr : rm la1 l[i] = rm la l[i] := by rw [hla1, rm_cons f2, rm_rm]
              rw [hr, if_pos (by rw [hla1, List.length_cons]; omega)] at hla2
              rw [hla2]
              exact Says.snoc (hS1.vals fun e' he' => hvs2 e' (by rw [hla2]; exact List.mem_cons_of_mem _ he') (key_ne he')) hgi.symm (by rw [hgv]; exact hv2)
          · rintro _ H123 b124 ⟨la2, w2, X2, vs2, hvl2, hI2, hins2, hS2, h123⟩
            refine tail_s hk1' (by omega) (by omega) h123 hN1.1 (fun e H' q' A' hk' h' => ?_) fun e H' q' A' hk' h' => ?_
            · exact ⟨l.length - (i + 1), by omega, i + 1, ord1 ++ [i], by omega, rfl, ei1, by simp, la2, w2, vs2, A', X2, hvl2, hk', hI2, hins2, hS2, fun j hj => by
                rcases List.mem_append.1 hj with h | h
                · have := hlt1 j h; omega
                · simp at h; omega, by simp; omega, Sep.pick h' 5 [1, 2, 0, 3, 4] (by decide)⟩
            · exfalso; omega
  · refine asBool_in ?_
    obtain ⟨la, w, vs, A, X, hvl, hkp, hI, hins, hS, hlt, hle, hs⟩ := hA.ex
    refine ⟨_, Sep.ld4 hs rfl, bad_s (gr_out (Sep.up1 hs)) ⟨_, rfl, cond_yes (by rw [hI.mem.bads]; rfl) ⟨_, Sep.ld4 hs rfl, waits_s (gr_isG (Sep.up1 hs)) ⟨_, rfl, cond_yes (by rw [q_nil hI.mem.ok hins]; rfl) (CA_truth (by kernel_rfl) ⟨_, rfl, rfl⟩)⟩⟩⟩⟩

theorem LruAge_law (H : Heap) (us : List Value) (h : shpVs en H 7 T.LruAge us) : CA en F.crossbarlaw16_LruAge us H fun v _ => v = .bool true := by
  obtain ⟨v, u, rfl, ⟨n1, hn1, _⟩, v5, u5, rfl, hA, rfl⟩ := args_LruAge h
  obtain rfl := (List.cons.inj hn1).1
  obtain ⟨a, n, css, M, rfl, ha, hs, hc⟩ := Arg.of (SlArg.one hA)
  obtain ⟨l, rfl⟩ := words_of css hc
  exact LruAge_ok ha hs
end Go.Proofs.YtjggeoghlicmdaaGreat
