/-
  The document's instructions of bytes.
-/
import Derived.Test.YtmgkngdbphkmmaaDoorInsnPuts
namespace Go.Proofs.YtmgkngdbphkmmaaDoor
open Go Go.AS Go.RowKit
set_option linter.unusedVariables false
variable {H H' : Heap} {R : Value → Heap → Prop} {L M : List Asr} {a b : Option Addr} {bs : List Nat} {l m : List Ins}

theorem leNum_append : ∀ s t : List Nat, leNum (s ++ t) = leNum s + 256 ^ s.length * leNum t
  | [], t => by simp [leNum]
  | x :: s, t => by
    rw [List.cons_append, leNum, leNum_append s t, leNum, List.length_cons, Nat.pow_succ, Nat.mul_add, ← Nat.mul_assoc, Nat.mul_comm 256 (256 ^ s.length)]; omega
theorem rdb_at (ra : RdB L a bs) (h : Sep H L) {k : Nat} (hk : k < bs.length) {K : Nat → Nat → Prop} (hK : ∀ i, H.cell i (0 + k * 1) = some (Y (bs.getD k 0)) → K i 0) : asRow a K := by
  obtain ⟨i, rfl, e⟩ := ra H h k (bs.getD k 0) (by rw [List.getD_eq_getElem?_getD, List.getElem?_eq_getElem hk]; rfl)
  exact asRow_in (hK i e)
theorem piece_snoc {k s : Nat} (h : k < bs.length) : (bs.drop k).take (s + 1) = bs.getD k 0 :: (bs.drop (k + 1)).take s := by
  rw [List.drop_eq_getElem_cons h, List.take_succ_cons, List.getD_eq_getElem?_getD, List.getElem?_eq_getElem h]; rfl

theorem there_s {n : Nat} {p s : Nat} (hs : s = 2 ∨ s = 4 ∨ s = 8) (hf : p + s ≤ n) (hn : n < 1000000) (hR : R (.bool true) H) : CA en F.crossbarref01_there [.slice a n 0, I p, I s] H R := by
  apply vc_crossbarref01_there
  have c1 : decide ((p : Int) ≥ 0) = true := by simp
  have c2 : decide ((p : Int) ≤ ((n : Nat) : Int)) = true := by simp; omega
  have c3 : decide ((s : Int) ≤ IntKind.i64.wrap (((n : Nat) : Int) - p)) = true := by rw [wrap_i64 (by omega), decide_eq_true_eq]; omega
  rw [c1, c2, c3]
  rcases hs with rfl | rfl | rfl
  · exact cond_no rfl (cond_yes rfl (cond_yes rfl (cond_yes rfl hR)))
  · exact cond_no rfl (cond_no rfl (cond_yes rfl (cond_yes rfl (cond_yes rfl hR))))
  · exact cond_no rfl (cond_no rfl (cond_no rfl (cond_yes rfl (cond_yes rfl (cond_yes rfl hR)))))

theorem get01_s {n p s : Nat} (h : Sep H L) (ra : RdB L a bs) (hlt : ∀ b ∈ bs, b < 256) (hs : s = 2 ∨ s = 4 ∨ s = 8) (hf : p + s ≤ bs.length) (hn' : n = bs.length) (hn : bs.length < 1000000) (hR : R (.tuple #[.int .u64 (leNum ((bs.drop p).take s) : Int), .bool true]) H) : CA en F.crossbarref01_Get [.slice a n 0, I p, I s] H R := by
  subst hn'
  apply vc_crossbarref01_Get
  refine there_s hs hf hn ⟨_, rfl, cond_no rfl ?_⟩
  have hw : IntKind.i64.wrap ((s : Int) - 1) = ((s : Nat) : Int) - 1 := wrap_i64 (by omega)
  rw [hw]
  refine use_crossbarref01_Get_0 (fun k t8 t9 H' => ∃ j : Nat, j ≤ s ∧ k = j ∧ t9 = (j : Int) - 1 ∧ t8 = (leNum ((bs.drop (p + j)).take (s - j)) : Int) ∧ H' = H) s ⟨s, Nat.le_refl _, rfl, rfl, by simp [leNum], rfl⟩ ?_
  rintro k t8 t9 ys H3 ⟨j, hj, rfl, rfl, rfl, rfl⟩
  refine cond_of (fun h1 => ?_) fun h1 => ?_
  · have h1 : (k : Int) - 1 ≥ 0 := by simpa using h1
    obtain ⟨k, rfl⟩ : ∃ k', k = k' + 1 := ⟨k - 1, by omega⟩
    have e1 : IntKind.i64.wrap ((p : Int) + (((k + 1 : Nat) : Int) - 1)) = ((p + k : Nat) : Int) := by rw [wrap_i64 (by omega)]; omega
    rw [e1, Int.toNat_natCast]
    refine ⟨by unfold inB; omega, rdb_at ra h (k := p + k) (by omega) fun i e => ⟨_, e, k, by omega, k, by omega, rfl, ?_, ?_, rfl⟩⟩
    · rw [wrap_i64 (by omega)]; omega
    · have e2 : (bs.drop (p + k)).take (s - k) = bs.getD (p + k) 0 :: (bs.drop (p + (k + 1))).take (s - (k + 1)) := by
        rw [show s - k = (s - (k + 1)) + 1 by omega, piece_snoc (by omega)]; rfl
      rw [e2, leNum]
      have hb : bs.getD (p + k) 0 < 256 := by
        rw [List.getD_eq_getElem?_getD, List.getElem?_eq_getElem (by omega)]
        exact hlt _ (List.getElem_mem _)
      have hl := leNum_lt ((bs.drop (p + (k + 1))).take (s - (k + 1))) fun b hb => hlt b (List.mem_of_mem_drop (List.mem_of_mem_take hb))
      have hl2 : ((bs.drop (p + (k + 1))).take (s - (k + 1))).length ≤ 7 := by rw [List.length_take]; omega
      have hl3 : 256 ^ ((bs.drop (p + (k + 1))).take (s - (k + 1))).length ≤ 256 ^ 7 := Nat.pow_le_pow_right (by decide) hl2
      generalize leNum ((bs.drop (p + (k + 1))).take (s - (k + 1))) = W at *
      generalize bs.getD (p + k) 0 = B at *
      rw [wrap_u64' (256 * (W : Int)), wrap_u64' (B : Int), wrap_u64']
      omega
  · have : k = 0 := by simp only [decide_eq_false_iff_not] at h1; omega
    subst this
    exact asInt_in hR

theorem signed_s {n p s : Nat} (h : Sep H L) (ra : RdB L a bs) (hlt : ∀ b ∈ bs, b < 256) (hs : s = 2 ∨ s = 4 ∨ s = 8) (hf : p + s ≤ bs.length) (hn' : n = bs.length) (hn : bs.length < 1000000) (hR : R (I (sgn (256 ^ s) (leNum ((bs.drop p).take s)))) H) : CA en F.crossbarref02_signed [.slice a n 0, I p, I s] H R := by
  apply vc_crossbarref02_signed
  refine get01_s h ra hlt hs hf hn' hn ⟨_, _, rfl, ?_⟩
  have hl := leNum_lt ((bs.drop p).take s) fun b hb => hlt b (List.mem_of_mem_drop (List.mem_of_mem_take hb))
  have hl2 : ((bs.drop p).take s).length = s := by rw [List.length_take, List.length_drop]; omega
  rw [hl2] at hl
  generalize leNum ((bs.drop p).take s) = W at hl hR
  rcases hs with rfl | rfl | rfl
  · have e1 : IntKind.i64.wrap (1 * 2 ^ (min (IntKind.u64.wrap (IntKind.i64.wrap ((IntKind.i64.wrap (8 * ((2 : Nat) : Int))) - 1))).toNat 64)) = 32768 := by decide
    have e2 : IntKind.i64.wrap (1 * 2 ^ (min (IntKind.u64.wrap (IntKind.i64.wrap (8 * ((2 : Nat) : Int)))).toNat 64)) = 65536 := by decide
    have hl : W < 65536 := hl
    have e3 : IntKind.i64.wrap (W : Int) = W := wrap_i64 (by omega)
    rw [e1, e2, e3]
    refine cond_yes rfl ⟨by unfold nn; decide, cond_of (fun c => ⟨by unfold nn; decide, ?_⟩) fun c => ?_⟩
    · have c : (W : Int) ≥ 32768 := by simpa using c
      rw [wrap_i64 (by omega)]
      unfold sgn at hR
      rw [if_neg (by show ¬ 2 * W < 65536; omega)] at hR
      exact hR
    · have c : ¬ (W : Int) ≥ 32768 := by simpa using c
      unfold sgn at hR
      rw [if_pos (by show 2 * W < 65536; omega)] at hR
      exact hR
  · have e1 : IntKind.i64.wrap (1 * 2 ^ (min (IntKind.u64.wrap (IntKind.i64.wrap ((IntKind.i64.wrap (8 * ((4 : Nat) : Int))) - 1))).toNat 64)) = 2147483648 := by decide
    have e2 : IntKind.i64.wrap (1 * 2 ^ (min (IntKind.u64.wrap (IntKind.i64.wrap (8 * ((4 : Nat) : Int)))).toNat 64)) = 4294967296 := by decide
    have hl : W < 4294967296 := hl
    have e3 : IntKind.i64.wrap (W : Int) = W := wrap_i64 (by omega)
    rw [e1, e2, e3]
    refine cond_yes rfl ⟨by unfold nn; decide, cond_of (fun c => ⟨by unfold nn; decide, ?_⟩) fun c => ?_⟩
    · have c : (W : Int) ≥ 2147483648 := by simpa using c
      rw [wrap_i64 (by omega)]
      unfold sgn at hR
      rw [if_neg (by show ¬ 2 * W < 4294967296; omega)] at hR
      exact hR
    · have c : ¬ (W : Int) ≥ 2147483648 := by simpa using c
      unfold sgn at hR
      rw [if_pos (by show 2 * W < 4294967296; omega)] at hR
      exact hR
  · refine cond_no rfl ?_
    have hl : W < 18446744073709551616 := hl
    have e : IntKind.i64.wrap (W : Int) = sgn (256 ^ 8) W := by
      show _ = sgn 18446744073709551616 W
      rw [wrap_i64']
      unfold sgn
      split <;> split <;> omega
    rw [e]; exact hR

def getE (bs : List Nat) : Int := match gets bs with | .ok _ => 0 | .error e => e
def getL (bs : List Nat) : List Ins := match gets bs with | .ok l => l | .error _ => []

theorem take4 {k : Nat} (h : k + 4 ≤ bs.length) : (bs.drop k).take 4 = [bs.getD k 0, bs.getD (k + 1) 0, bs.getD (k + 2) 0, bs.getD (k + 3) 0] := by
  rw [piece_snoc (by omega), piece_snoc (by omega), piece_snoc (by omega), piece_snoc (by omega)]; simp

set_option maxHeartbeats 2000000 in
theorem docGet_s {n : Nat} {q : Option Nat} (h : Sep H L) (hm : inb q bs ∈ L) (hq : q = none → bs = []) (hlt : ∀ b ∈ bs, b < 256) (hn' : n = bs.length) (hn : bs.length < 1000000)
    (hR : ∀ H' g, (g = none → getL bs = []) → Sep H' (gl 5 g (flatI (getL bs)) :: L) → R (.tuple #[.slice (addr g) (getL bs).length 0, I (getE bs)]) H') : CA en F.crossbarref02_Get [.slice (addr q) n 0] H R := by
  subst hn'
  apply vc_crossbarref02_Get
  have fin : ∀ {H' : Heap} {e : Int}, gets bs = .error e → Sep H' L → R (.tuple #[.slice none 0 0, I e]) H' := fun {H' e} he h' => by
    have := hR H' none
    unfold getL getE at this
    rw [he] at this
    exact this (fun _ => rfl) (gl_none.2 h')
  have ra : RdB L (addr q) bs := rdb_inb hm hq
  refine use_crossbarref02_Get_0 (fun k t2 t2l t3 t4 t4l t5 H => ∃ (p f : Nat) (m : List Ins) (g : Option Nat), p ≤ bs.length ∧ k = bs.length - p ∧ t5 = (p : Int) ∧ t2 = none ∧ t2l = 0 ∧ t3 = 0 ∧ t4 = addr g ∧ t4l = m.length ∧ m.length ≤ 256 ∧ (g = none → m = []) ∧ bs.length - p ≤ f ∧
    gets bs = pre m (getF chkI f m.length (bs.drop p)) ∧ Sep H (gl 5 g (flatI m) :: L)) bs.length
    ⟨0, bs.length, [], none, by omega, rfl, rfl, rfl, rfl, rfl, rfl, rfl, by simp, fun _ => rfl, by omega, by rw [pre_nil]; rfl, gl_none.2 h⟩ ?_
  clear h
  rintro k t2 t2l t3 t4 t4l t5 ys H3 ⟨p, f, m, g, hp, rfl, rfl, rfl, rfl, rfl, rfl, rfl, hm', hg', hf, hg, hs⟩
  refine cond_of (fun h1 => ?_) fun h1 => ?_
  · have hp' : p < bs.length := by simp only [decide_eq_true_eq] at h1; omega
    have hdl : (bs.drop p).length = bs.length - p := List.length_drop ..
    have hne : bs.drop p ≠ [] := by intro e; rw [e] at hdl; simp at hdl; omega
    obtain ⟨f, rfl⟩ : ∃ f', f = f' + 1 := ⟨f - 1, by omega⟩
    rw [getF, if_neg hne] at hg
    refine cond_of (fun h256 => ?_) fun h256 => ?_
    · have h256 : m.length = 256 := by
        have : ((m.length : Nat) : Int) = 256 := by simpa using h256
        omega
      rw [if_pos h256] at hg
      exact asSl_in (asInt_in (asSl_in (fin hg hs.tail)))
    have h256 : ¬ m.length = 256 := by intro e; rw [e] at h256; simp at h256
    rw [if_neg h256] at hg
    cases q with
    | none => rw [hq rfl] at hp'; simp at hp'
    | some q =>
      have blk : ∀ {H' : Heap}, Sep H' L → H'.get q = some (.cells false 0 (bs.map Y)) := fun hs' => (hs'.all _ hm) (bx q (.cells false 0 (bs.map Y))) (by simp)
      have rc : ∀ {H' : Heap}, Sep H' L → ∀ k, k < bs.length → H'.cell q (0 + k * 1) = some (Y (bs.getD k 0)) := fun hs' k hk => by
        rw [cell_of (blk hs'), Nat.zero_add, Nat.mul_one, List.getElem?_map, List.getElem?_eq_getElem hk, List.getD_eq_getElem?_getD, List.getElem?_eq_getElem hk]; rfl
      have bg : ∀ k, (bs.drop p).getD k 0 = bs.getD (p + k) 0 := fun k => by rw [List.getD_eq_getElem?_getD, List.getElem?_drop, ← List.getD_eq_getElem?_getD]
      have hw0 : IntKind.i64.wrap (((bs.length : Nat) : Int) - p) = ((bs.length - p : Nat) : Int) := by rw [wrap_i64 (by omega)]; omega
      rw [hw0]
      have hwa : ∀ k : Nat, k ≤ 20 → IntKind.i64.wrap ((p : Int) + (k : Int)) = ((p + k : Nat) : Int) := fun k hk => by rw [wrap_i64 (by omega)]; omega
      have b0 : bs.getD p 0 < 256 := by rw [List.getD_eq_getElem?_getD, List.getElem?_eq_getElem hp']; exact hlt _ (List.getElem_mem _)
      refine ⟨fun vs H' => vs = [.bool (decide ((bs.drop p).length < 8 ∨ (bs.drop p).getD 0 0 = 24 ∧ (bs.drop p).length < 16))] ∧ H' = H3, ?_, ?_⟩
      · rw [hdl, bg 0, Nat.add_zero]
        refine cond_of (fun c => ⟨vb ?_, rfl⟩) fun c => ⟨by unfold inB; omega, asRow_in ⟨_, rc hs.tail p hp', cond_of (fun d => ⟨vb ?_, rfl⟩) fun d => ⟨vb ?_, rfl⟩⟩⟩
        · have c : ((bs.length - p : Nat) : Int) < 8 := by simpa using c
          rw [decide_eq_true (.inl (by omega))]
        · have c : ¬ ((bs.length - p : Nat) : Int) < 8 := by simpa using c
          have d : ((bs.getD p 0 : Nat) : Int) = 24 := by simpa using d
          rw [Bool.eq_iff_iff, decide_eq_true_eq, decide_eq_true_eq]
          constructor
          · intro h; exact .inr ⟨by omega, by omega⟩
          · rintro (h | h) <;> omega
        · have c : ¬ ((bs.length - p : Nat) : Int) < 8 := by simpa using c
          have d : ¬ ((bs.getD p 0 : Nat) : Int) = 24 := by simpa using d
          rw [decide_eq_false]
          rintro (h | h) <;> omega
      rintro ys5 H6 b7 ⟨e, rfl⟩
      simp only [List.cons.injEq, Value.bool.injEq, and_true] at e
      subst e
      refine cond_of (fun c => ?_) fun c => ?_
      · have e : getOne chkI (bs.drop p) = (⟨0, 0, 0, 0, 0⟩, 0, 20) := if_pos (of_decide_eq_true c)
        rw [e, if_pos (by decide)] at hg
        exact asSl_in (asInt_in (asSl_in (fin hg hs.tail)))
      have hshort := of_decide_eq_false c
      clear c
      have h8 : 8 ≤ bs.length - p := by rw [hdl] at hshort; omega
      have b1 : bs.getD (p + 1) 0 < 256 := by rw [List.getD_eq_getElem?_getD, List.getElem?_eq_getElem (by omega)]; exact hlt _ (List.getElem_mem _)
      have hF := hs.fore1 (n := 30) (a := 28) (.cells true 0 [I 0, I 0, I 0, I 0, I 0]) (by decide)
      have hFL := hF.tail.tail
      have w1 : IntKind.i64.wrap ((p : Int) + 1) = ((p + 1 : Nat) : Int) := hwa 1 (by decide)
      have w2 : IntKind.i64.wrap ((p : Int) + 2) = ((p + 2 : Nat) : Int) := hwa 2 (by decide)
      have w4 : IntKind.i64.wrap ((p : Int) + 4) = ((p + 4 : Nat) : Int) := hwa 4 (by decide)
      have w8 : IntKind.i64.wrap ((p : Int) + 8) = ((p + 8 : Nat) : Int) := hwa 8 (by decide)
      rw [w1, w2, w4, w8, Int.toNat_natCast, Int.toNat_natCast]
      have rcF := rc hFL
      have c0 := rcF p hp'
      have c1 := rcF (p + 1) (by omega)
      have i0 : inB (p : Int) bs.length := by unfold inB; omega
      have i1 : inB ((p + 1 : Nat) : Int) bs.length := by unfold inB; omega
      refine ⟨i0, asRow_in ⟨_, c0, i1, asRow_in ⟨_, c1, by unfold nz; decide, i1, asRow_in ⟨_, c1, by unfold nz; decide, ?_⟩⟩⟩⟩
      refine signed_s (p := p + 2) (s := 2) hFL ra hlt (.inl rfl) (by omega) rfl hn ⟨_, rfl, ?_⟩
      refine signed_s (p := p + 4) (s := 4) hFL ra hlt (.inr (.inl rfl)) (by omega) rfl hn ⟨_, rfl, ?_⟩
      refine Sep.st0 hF (Nat.le_of_ble_eq_true rfl) fun H23 h23 => ?_
      -- x, what was made before, all else
      have e10 : ∀ {v : Nat}, v < 256 → IntKind.i64.wrap (v : Int) = (v : Int) := fun hv => wrap_i64 (by omega)
      have e11 : Int.tmod ((bs.getD (p + 1) 0 : Nat) : Int) 16 = ((bs.getD (p + 1) 0 % 16 : Nat) : Int) := by rw [Int.tmod_eq_emod_of_nonneg (by omega)]; omega
      have e12 : IntKind.i64.wrap (Int.tdiv ((bs.getD (p + 1) 0 : Nat) : Int) 16) = ((bs.getD (p + 1) 0 / 16 : Nat) : Int) := by rw [Int.tdiv_eq_ediv_of_nonneg (by omega), wrap_i64 (by omega)]; omega
      rw [e10 b0, e10 b1, e11, e12] at h23
      have d2 : (bs.drop p).drop 2 = bs.drop (p + 2) := List.drop_drop
      have d4 : (bs.drop p).drop 4 = bs.drop (p + 4) := List.drop_drop
      have d8 : (bs.drop p).drop 8 = bs.drop (p + 8) := List.drop_drop
      have d12 : (bs.drop p).drop 12 = bs.drop (p + 12) := List.drop_drop
      have g0 := bg 0
      have g1 := bg 1
      rw [Nat.add_zero] at g0
      refine ⟨?_, ?_⟩
      · refine ⟨fun vs H' => ∃ (x : Ins) (n : Nat), vs = [.slice none 0 0, I 0, I ((p + n : Nat) : Int)] ∧ getOne chkI (bs.drop p) = (x, n, chkI x) ∧ 0 < n ∧ p + n ≤ bs.length ∧ Sep H' (bx (H6.next + 28) (.cells true 0 x.cells) :: gl 5 g (flatI m) :: L), ?_, ?_⟩
        · refine ⟨_, Sep.ld0 h23 rfl, cond_of (fun c => ?_) fun c => ?_⟩
          · have c : bs.getD p 0 = 24 := by
              have : ((bs.getD p 0 : Nat) : Int) = 24 := by simpa using c
              omega
            have h16 : 16 ≤ bs.length - p := by rw [hdl, g0] at hshort; omega
            have hL23 := h23.tail.tail
            have c8 := rc hL23 (p + 8) (by omega)
            have c9 := rc hL23 (p + 8 + 1) (by omega)
            have c10 := rc hL23 (p + 8 + 2) (by omega)
            have c11 := rc hL23 (p + 8 + 3) (by omega)
            have t4 := take4 (bs := bs) (k := p + 8) (by omega)
            have v1 : IntKind.i64.wrap (((p + 8 : Nat) : Int) + 1) = ((p + 8 + 1 : Nat) : Int) := by rw [wrap_i64 (by omega)]; omega
            have v2 : IntKind.i64.wrap (((p + 8 : Nat) : Int) + 2) = ((p + 8 + 2 : Nat) : Int) := by rw [wrap_i64 (by omega)]; omega
            have v3 : IntKind.i64.wrap (((p + 8 : Nat) : Int) + 3) = ((p + 8 + 3 : Nat) : Int) := by rw [wrap_i64 (by omega)]; omega
            have v4 : IntKind.i64.wrap (((p + 8 : Nat) : Int) + 4) = ((p + 12 : Nat) : Int) := by rw [wrap_i64 (by omega)]; omega
            have v4' : IntKind.i64.wrap (((p + 8 : Nat) : Int) - 4) = ((p + 4 : Nat) : Int) := by rw [wrap_i64 (by omega)]; omega
            have v8 : IntKind.i64.wrap (((p + 8 : Nat) : Int) + 8) = ((p + 16 : Nat) : Int) := by rw [wrap_i64 (by omega)]; omega
            rw [v1, v2, v3, v4, v4', v8]
            have i8 : inB ((p + 8 : Nat) : Int) bs.length := by unfold inB; omega
            have i9 : inB ((p + 8 + 1 : Nat) : Int) bs.length := by unfold inB; omega
            have i10 : inB ((p + 8 + 2 : Nat) : Int) bs.length := by unfold inB; omega
            have i11 : inB ((p + 8 + 3 : Nat) : Int) bs.length := by unfold inB; omega
            have hz : leNum ((bs.drop (p + 8)).take 4) = 0 ↔ bs.getD (p + 8) 0 = 0 ∧ bs.getD (p + 8 + 1) 0 = 0 ∧ bs.getD (p + 8 + 2) 0 = 0 ∧ bs.getD (p + 8 + 3) 0 = 0 := by
              rw [t4]; simp only [leNum]; omega
            refine ⟨fun vs H' => vs = [.bool (decide (¬ leNum ((bs.drop (p + 8)).take 4) = 0))] ∧ H' = H23, ?_, ?_⟩
            · refine ⟨i8, asRow_in ⟨_, c8, cond_of (fun d => ⟨vb ?_, rfl⟩) fun d => ⟨i9, asRow_in ⟨_, c9, cond_of (fun d2 => ⟨vb ?_, rfl⟩) fun d2 => ⟨i10, asRow_in ⟨_, c10, cond_of (fun d3 => ⟨vb ?_, rfl⟩) fun d3 => ⟨i11, asRow_in ⟨_, c11, ⟨vb ?_, rfl⟩⟩⟩⟩⟩⟩⟩⟩⟩
              · have d : ¬ ((bs.getD (p + 8) 0 : Nat) : Int) = 0 := by simpa using d
                have nz0 : ¬ leNum ((bs.drop (p + 8)).take 4) = 0 := fun e => d (by rw [(hz.1 e).1]; rfl)
                rw [decide_eq_true nz0]
              · have d : ¬ ((bs.getD (p + 8 + 1) 0 : Nat) : Int) = 0 := by simpa using d2
                have nz0 : ¬ leNum ((bs.drop (p + 8)).take 4) = 0 := fun e => d (by rw [(hz.1 e).2.1]; rfl)
                rw [decide_eq_true nz0]
              · have d : ¬ ((bs.getD (p + 8 + 2) 0 : Nat) : Int) = 0 := by simpa using d3
                have nz0 : ¬ leNum ((bs.drop (p + 8)).take 4) = 0 := fun e => d (by rw [(hz.1 e).2.2.1]; rfl)
                rw [decide_eq_true nz0]
              · have d : ((bs.getD (p + 8) 0 : Nat) : Int) = 0 := by simpa using d
                have d2 : ((bs.getD (p + 8 + 1) 0 : Nat) : Int) = 0 := by simpa using d2
                have d3 : ((bs.getD (p + 8 + 2) 0 : Nat) : Int) = 0 := by simpa using d3
                rw [Bool.eq_iff_iff]
                simp only [bne_iff_ne, ne_eq, decide_eq_true_eq]
                exact not_congr ⟨fun h => hz.2 ⟨Int.ofNat.inj d, Int.ofNat.inj d2, Int.ofNat.inj d3, Int.ofNat.inj h⟩, fun e => by rw [(hz.1 e).2.2.2]; rfl⟩
            clear hz
            rintro ys51 H52 b53 ⟨e, rfl⟩
            simp only [List.cons.injEq, Value.bool.injEq, and_true] at e
            subst e
            refine cond_of (fun z => ?_) fun z => ?_
            · have z := of_decide_eq_true z
              have e : getOne chkI (bs.drop p) = (⟨0, 0, 0, 0, 0⟩, 0, 9) := by
                unfold getOne
                rw [if_neg hshort, g0, if_pos c, d8, if_neg z]
              rw [e, if_pos (by decide)] at hg
              exact asSl_in (asInt_in (asSl_in (fin hg hL23)))
            have z : leNum ((bs.drop (p + 8)).take 4) = 0 := by simpa using z
            have rp : ∀ {H' : Heap} (k : Nat), Sep H' L → k + 4 ≤ bs.length → rowOf H' 1 (some ⟨q, 0 + k * 1, none⟩) 4 = some (((bs.drop k).take 4).map Y) := fun k hs' hk => by
              refine rowOf_part (blk hs') (by decide) ?_
              unfold takeAt
              rw [Nat.zero_add, Nat.mul_one, if_pos (by simp; omega), ← List.map_drop, ← List.map_take]
            rw [Int.toNat_natCast, Int.toNat_natCast, Int.toNat_natCast, Int.toNat_natCast]
            rw [show p + 8 - (p + 4) = 4 by omega, show p + 16 - (p + 12) = 4 by omega]
            refine ⟨by unfold inS; omega, by unfold inS; omega, ⟨⟨_, _, _, blk hL23, .inl rfl⟩, asSlice_in ⟨_, rp (p + 4) hL23 (by omega), ?_⟩⟩⟩
            have l4 : ((bs.drop (p + 4)).take 4).length = 4 := by rw [List.length_take, List.length_drop]; omega
            have l12 : ((bs.drop (p + 12)).take 4).length = 4 := by rw [List.length_take, List.length_drop]; omega
            have h23' : Sep _ (gl 1 none [] :: bx (H6.next + 28) (.cells true 0 [I (bs.getD p 0 : Nat), I (bs.getD (p + 1) 0 % 16 : Nat), I (bs.getD (p + 1) 0 / 16 : Nat), I (sgn (256 ^ 2) (leNum ((bs.drop (p + 2)).take 2))), I (sgn (256 ^ 4) (leNum ((bs.drop (p + 4)).take 4)))]) :: gl 5 g (flatI m) :: L) := gl_none.2 h23
            refine apd_gl (b := none) (cs := []) (new := ((bs.drop (p + 4)).take 4).map Y) h23' (fun _ => rfl) (by decide) rfl (by decide) (by rw [List.length_map, l4]) (by decide) fun H60 q1 h60 => ?_
            have hL60 := h60.tail.tail.tail
            refine ⟨by unfold inS; omega, by unfold inS; omega, ⟨⟨_, _, _, blk hL60, .inl rfl⟩, asSlice_in ⟨_, rp (p + 12) hL60 (by omega), ?_⟩⟩⟩
            refine apd_gl (b := some q1) (cs := [] ++ ((bs.drop (p + 4)).take 4).map Y) (new := ((bs.drop (p + 12)).take 4).map Y) h60 (fun h => by cases h) (by decide) (by rw [List.nil_append, List.length_map, l4]) (by decide) (by rw [List.length_map, l12]) (by decide) fun H67 q2 h67 => ?_
            have ee : ([] ++ ((bs.drop (p + 4)).take 4).map Y ++ ((bs.drop (p + 12)).take 4).map Y : List Value) = ((bs.drop (p + 4)).take 4 ++ (bs.drop (p + 12)).take 4).map Y := by simp
            rw [ee] at h67
            have hl8 : ((bs.drop (p + 4)).take 4 ++ (bs.drop (p + 12)).take 4).length = 8 := by rw [List.length_append, l4, l12]
            refine signed_s (p := 0) (s := 8) (bs := (bs.drop (p + 4)).take 4 ++ (bs.drop (p + 12)).take 4) h67 (rdb_gl (List.mem_cons_self ..) fun h => by cases h) (fun b hb => ?_) (.inr (.inr rfl)) (by rw [hl8]; decide) hl8.symm (by rw [hl8]; decide) ⟨_, rfl, ?_⟩
            · rcases List.mem_append.1 hb with hb | hb <;> exact hlt b (List.mem_of_mem_drop (List.mem_of_mem_take hb))
            rw [List.drop_zero, List.take_of_length_le (by rw [hl8]; decide), leNum_append, l4]
            refine Sep.st1 h67 (Nat.le_of_ble_eq_true rfl) fun H71 h71 => ⟨⟨24, (bs.getD (p + 1) 0 % 16 : Nat), (bs.getD (p + 1) 0 / 16 : Nat), sgn 65536 (leNum ((bs.drop (p + 2)).take 2)), sgn 18446744073709551616 (leNum ((bs.drop (p + 4)).take 4) + 4294967296 * leNum ((bs.drop (p + 12)).take 4))⟩, 16, rfl, ?_, by decide, by omega, ?_⟩
            · unfold getOne
              rw [if_neg hshort, g0, if_pos c, d8, if_pos z, g1, d2, d4, d12]
            · rw [c] at h71
              exact h71.tail
          · have c : ¬ bs.getD p 0 = 24 := by
              intro e
              rw [e] at c; cases c
            refine ⟨⟨(bs.getD p 0 : Nat), (bs.getD (p + 1) 0 % 16 : Nat), (bs.getD (p + 1) 0 / 16 : Nat), sgn 65536 (leNum ((bs.drop (p + 2)).take 2)), sgn 4294967296 (leNum ((bs.drop (p + 4)).take 4))⟩, 8, rfl, ?_, by decide, by omega, h23⟩
            unfold getOne
            rw [if_neg hshort, g0, if_neg c, g1, d2, d4]
        · rintro ys72 H73 a74 i75 n76 n77 ⟨x, n, e, hgo, hn0, hnl, h73⟩
          simp only [List.cons.injEq, Value.slice.injEq, Value.int.injEq, true_and, and_true] at e
          obtain ⟨⟨rfl, rfl⟩, rfl, rfl⟩ := e
          rw [hgo] at hg
          simp only at hg
          refine ⟨_, _, _, _, _, Sep.lds0 h73 rfl, docCheck_s (x := x) h73 fun H84 h84 => ⟨_, rfl, cond_of (fun he => ?_) fun he => ?_⟩⟩
          · have he : chkI x ≠ 0 := by simpa using he
            rw [if_pos he] at hg
            exact asSl_in (asInt_in (asSl_in (fin hg h84.tail.tail)))
          have he : chkI x = 0 := by simpa using he
          rw [if_neg (by rw [he]; simp)] at hg
          refine ⟨_, _, _, _, _, Sep.lds0 h84 rfl, Sep.nw h84 fun i91 H92 h92 => ⟨x.cells, rowOf_bx (es := 5) (n := 1) (b := i91) (Sep.get0 h92) (by decide) rfl, ?_⟩⟩
          refine apd_gl (b := g) (cs := flatI m) (new := x.cells) (Sep.up2 h92) (fun h => by rw [hg' h]; rfl) (by decide) (flatI_len m) (by decide) rfl (by omega) fun H96 g' h96 => ⟨bs.length - (p + n), by omega, p + n, f, m ++ [x], some g', hnl, rfl, rfl, rfl, rfl, rfl, rfl, by simp, by simp; omega, (fun h => by cases h), by omega, ?_, ?_⟩
          · rw [hg, List.drop_drop]
            simp only [List.length_append, List.length_cons, List.length_nil, Nat.zero_add]
            cases getF chkI f (m.length + 1) (bs.drop (p + n)) with
            | ok l => simp [pre]
            | error e => rfl
          · rw [flatI_snoc]
            exact Sep.rm1 (Sep.rm1 h96)
      · repeat' first
          | exact trivial
          | exact ⟨_, Sep.get0 hF, rfl⟩
          | exact ⟨_, c0, rfl⟩
          | exact ⟨_, c1, rfl⟩
          | rfl
          | (unfold nz; decide)
          | apply And.intro
  · obtain rfl : p = bs.length := by simp only [decide_eq_false_iff_not] at h1; omega
    have hgo : gets bs = .ok m := by
      rw [hg, List.drop_length]
      cases f <;> simp [getF, pre]
    have := hR H3 g
    unfold getL getE at this
    rw [hgo] at this
    exact asSl_in (asInt_in (asSl_in (this hg' hs)))
end Go.Proofs.YtmgkngdbphkmmaaDoor
