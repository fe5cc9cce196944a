/-
  'crossbarlaw13.ArrayCells' returns true: each element's word is one of its own.
-/
import Derived.Test.YthnifkjpkepbaaaArray
import Derived.Test.YthnifkjpkepbaaaArgs
namespace Go.Proofs.Ythnifkjpkepbaaa
open Go Go.AS Go.RowKit
set_option linter.unusedVariables false
variable {H H' : Heap} {m r x : Nat} {S S' : Sm} {R : Value → Heap → Prop} {L : List Asr}

theorem SameWords_n {a1 a2 : Option Addr} {w1 w2 : List (BitVec 64)} {n1 n2 : Nat} (h1 : WRow H a1 w1) (h2 : WRow H a2 w2) (e1 : n1 = w1.length) (e2 : n2 = w2.length) (hb : w1.length < 9223372036854775807) (hR : ∀ H', Frm [] H H' → R (.bool (decide (w1 = w2))) H') :
    CA en F.crossbarkit_SameWords [.slice a1 n1 0, .slice a2 n2 0] H R := by
  subst e1 e2; exact SameWords_ok h1 h2 hb hR

theorem is_ok {k n a b c hd cpus flag cpu idx e : Int} {key w : BitVec 64} (h : Sep H (cl x (arr m k n a b c hd cpus) :: mem m S :: L))
    (hk : k = 1 ∨ k = 2) (hn : 0 ≤ n ∧ n ≤ 64) (hkey : (key.toNat : Int) < n)
    (hidx : IntKind.i64.wrap (IntKind.i64.wrap (cpu * n) + IntKind.i64.wrap (key.toNat : Int)) = idx ∨ k ≠ 2) (hidx2 : IntKind.i64.wrap (key.toNat : Int) = idx ∨ k = 2) (hi : 0 ≤ idx ∧ idx ≤ 256) (hacc : S.acc hd idx true id = ((w, true), S')) (he : e = idx + 1)
    (hR : ∀ H', Sep H' (cl x (arr m k n a b c hd cpus) :: mem m S' :: L) → R (.bool true) H') : CA en F.crossbarlaw13_is [P x, .agg #[I 1, W key, .slice none 0 0, I flag, I cpu], I 0, W w, I e] H R := by
  subst he
  apply vc_crossbarlaw13_is
  refine Sep.nw h fun i1 H2 h2 => ⟨_, _, _, _, _, _, Sep.lds0 h2 (by rfl), begin_ok h2 fun H10 r h10 => ⟨_, rfl, ?_⟩⟩
  refine finish_ok (Sep.up3 (Sep.up3 (Sep.up3 (Sep.up1 h10)))) hk hn hkey (by decide) hidx hidx2 hi hacc fun H13 j h13 => ⟨_, _, _, _, _, _, rfl, ?_⟩
  -- j, x, mem, i1
  refine Sep.nw h13 fun i20 H21 h21 => Sep.st0 h21 (Nat.le_of_ble_eq_true rfl) fun H22 h22 => cond_no rfl ⟨_, Sep.ld0 h22 (by rfl), cond_no rfl ⟨_, Sep.ld0 h22 (by rfl), cond_no (by simp) ⟨_, Sep.ld4 h22 (by rfl), cond_yes rfl (cond_yes rfl ⟨_, _, Sep.ld0 h22 (by rfl), Sep.nw h22 fun i28 H29 h29 => ?_⟩)⟩⟩⟩
  -- i28, i20, j, x, mem, i1
  refine SameWords_n (w1 := [w]) (w2 := [w]) (.inr ⟨j, true, 1, rfl, (Sep.up2 h29).footlt (by simp [bx]), Sep.get2 h29⟩) (.inr ⟨i28, true, 1, rfl, h29.footlt (by simp [bx]), Sep.get0 h29⟩) rfl rfl (by simp) fun H31 f31 => ⟨_, rfl, ?_⟩
  rw [decide_eq_true rfl]
  exact hR H31 (Sep.rm2 (h29.keep f31).tail.tail.tail)

theorem mem_nd (h : Sep H (mem m S :: L)) : (S.regs.map Reg.h).Nodup := h.head.2.2.2

theorem wd_mk (S : Sm) (b n : Nat) (hf : S.find (wr (S.made + 1)) = none) : (S.mk' b n).wd (wr (S.made + 1)) = List.replicate n 0 := by
  unfold Sm.wd Sm.find Sm.mk'
  simp only [List.find?_append]
  rw [show (S.regs.find? fun r => r.h == wr (S.made + 1)) = none from hf]
  simp

theorem store_wd (S : Sm) {a : Int} {i : Nat} {v : BitVec 64} (hi : i < (S.wd a).length) : (S.acc a i true fun _ => v).1.2 = true ∧ (S.acc a i true fun _ => v).2.wd a = (S.wd a).set i v := by
  cases hf : S.find a with
  | none => unfold Sm.wd at hi; rw [hf] at hi; simp at hi
  | some r =>
    have hw : S.wd a = r.ws := by unfold Sm.wd; rw [hf]
    rw [hw] at hi
    have e : S.acc a i true (fun _ => v) = ((r.ws.getD i 0, true), S.cnt.upd a i v) := by
      unfold Sm.acc; rw [hf]; simp only
      rw [if_pos ⟨trivial, by omega, by omega⟩]
      rfl
    rw [e]
    exact ⟨rfl, by rw [find_upd, if_pos rfl]; rfl⟩

/-- The words there, one of them written. -/
theorem acc_at {N e : Nat} {v : BitVec 64} (hw : S.wd 1 = (List.replicate N 0).set e v) (nd : (S.regs.map Reg.h).Nodup) {j : Nat} (hj : j < N) :
    ∃ S', S.acc 1 j true id = ((if j = e then v else 0, true), S') ∧ S'.wd 1 = (List.replicate N 0).set e v := by
  have hl : j < (S.wd 1).length := by rw [hw]; simpa using hj
  obtain ⟨e1, sm⟩ := load_wd S nd hl
  refine ⟨(S.acc 1 j true id).2, ?_, by rw [sm.wd]; exact hw⟩
  have e2 : (S.wd 1).getD j 0 = if j = e then v else 0 := by
    rw [hw, List.getD_eq_getElem?_getD, List.getElem?_set]
    by_cases h : j = e
    · subst h; simp [hj]
    · rw [if_neg fun hh => h hh.symm, if_neg h, List.getElem?_replicate, if_pos hj]; rfl
  rw [e2] at e1
  rw [← e1]

theorem ArrayCells_ok {cpu : Bool} {entries cpus elem : Int} {v : BitVec 64} (h : Sep H []) : CA en F.crossbarlaw13_ArrayCells [.bool cpu, I entries, I cpus, I elem, W v] H fun r _ => r = .bool true := by
  apply vc_crossbarlaw13_ArrayCells
  refine new_s h fun H2 m mp h2 => ⟨_, rfl, cond_no rfl (Pick_ok (by decide) (by decide) ⟨_, rfl, ?_⟩)⟩
  have hn : 1 ≤ 1 + entries % 64 ∧ 1 + entries % 64 ≤ 64 := by omega
  have hc : 1 ≤ 1 + cpus % 4 ∧ 1 + cpus % 4 ≤ 4 := by omega
  rw [wrap_i64 (n := 1 + entries % 64) (by omega)]
  generalize 1 + entries % 64 = n at *
  have hroom : (newSm mp 1024).room = 1024 := rfl
  have hf0 : (newSm mp 1024).find (wr ((newSm mp 1024).made + 1)) = none := rfl
  refine Sep.nw h2 fun i7 H8 h8 => Sep.st0 h8 (Nat.le_of_ble_eq_true rfl) fun H9 h9 => ⟨_, Sep.ld0 h9 (by rfl), Pick_ok (by decide) (by decide) ⟨_, rfl, ?_⟩⟩
  rw [wrap_i64 (n := 1 + cpus % 4) (by omega)]
  generalize 1 + cpus % 4 = c at *
  have hnc : 1 ≤ n * c ∧ n * c ≤ 256 := by
    have h1 : n * c ≤ 64 * c := Int.mul_le_mul_of_nonneg_right hn.2 (by omega)
    have h2 : 1 * c ≤ n * c := Int.mul_le_mul_of_nonneg_right hn.1 (by omega)
    omega
  refine cond_of (fun hcpu => ?_) fun hcpu => ?_
  · refine Sep.st0 h9 (Nat.le_of_ble_eq_true rfl) fun H14 h14 => ⟨_, _, _, _, _, Sep.lds0 h14 (by rfl), ?_⟩
    refine aNew_ok (Sep.up1 h14) (kind := 2) (by exact .inr rfl) hn hc (by rw [hroom]; simp only [if_true]; omega) hf0 fun H21 x b' h21 => ⟨_, _, rfl, cond_no rfl (cond_no rfl ?_)⟩
    simp only [if_true] at h21
    have hN : 1 ≤ n * c ∧ n * c ≤ 256 := by omega
    rw [wrap_i64 (n := n * c) (by omega)]
    refine Pick_ok (by omega) (by omega) ⟨_, rfl, ?_⟩
    have he : 0 ≤ elem % (n * c) ∧ elem % (n * c) < n * c := ⟨Int.emod_nonneg _ (by omega), Int.emod_lt_of_pos _ (by omega)⟩
    have hidx : ∀ j : Int, 0 ≤ j → j < n * c → (IntKind.i64.wrap (IntKind.i64.wrap (j / n * n) + IntKind.i64.wrap (j % n)) = j ∨ (2 : Int) ≠ 2) ∧ (IntKind.i64.wrap (j % n) = j ∨ (2 : Int) = 2) := fun j h0 h1 => by
      have e1 : j / n * n + j % n = j := by rw [Int.mul_comm]; exact Int.mul_ediv_add_emod j n
      have b0 : 0 ≤ j % n := Int.emod_nonneg _ (by omega)
      have b1 : j % n < n := Int.emod_lt_of_pos _ (by omega)
      refine ⟨.inl ?_, .inr rfl⟩
      generalize j / n * n = p at *
      rw [wrap_i64 (n := p) (by omega), wrap_i64 (n := j % n) (by omega), wrap_i64 (by omega)]; exact e1
    have hw0 : ((newSm mp 1024).mk' b' (n * c).toNat).wd 1 = List.replicate (n * c).toNat 0 := wd_mk _ _ _ hf0
    generalize (newSm mp 1024).mk' b' (n * c).toNat = S1 at *
    generalize hNc : n * c = N at *
    rw [wrap_i64 (n := 1 + elem % N) (by omega)]
    obtain ⟨e, hee⟩ : ∃ e : Nat, elem % N = (e : Int) := ⟨(elem % N).toNat, by omega⟩
    rw [hee] at he ⊢
    obtain ⟨M, rfl⟩ : ∃ M : Nat, N = (M : Int) := ⟨N.toNat, by omega⟩
    rw [Int.toNat_natCast] at hw0
    refine cell_ok h21 (by exact .inr rfl) fun H28 h28 => ?_
    rw [if_neg (by rw [hNc, wrap_i64 (by omega)]; omega), wrap_i64 (n := 1 + (e : Int) - 1) (by omega), show 1 + (e : Int) - 1 = e by omega]
    refine ⟨_, _, rfl, store_s (Sep.up1 h28) fun H32 h32 => ⟨_, rfl, ?_⟩⟩
    obtain ⟨s1, s2⟩ := store_wd S1 (a := 1) (i := e) (v := v) (by rw [hw0, List.length_replicate]; omega)
    have s1' : (S1.acc (wr ((newSm mp 1024).made + 1)) e true fun _ => v).1.2 = true := s1
    rw [s1']
    refine cond_no rfl ?_
    rw [hw0] at s2
    have h32' : Sep H32 (mem m (S1.acc 1 e true fun _ => v).2 :: cl x (arr m 2 n 1 0 0 1 c) :: cl i7 [I 2, I n, I 1, I 0, I 0] :: []) := h32
    generalize (S1.acc 1 e true fun _ => v).2 = S2 at *
    clear h32 s1 s1' hw0 h28 h21
    refine use_crossbarlaw13_ArrayCells_0 (fun k _ t18 H' => ∃ (j : Nat) (S : Sm), j ≤ M ∧ k = M - j ∧ t18 = (j : Int) + 1 ∧ S.wd 1 = (List.replicate M 0).set e v ∧ Sep H' (cl x (arr m 2 n 1 0 0 1 c) :: mem m S :: cl i7 [I 2, I n, I 1, I 0, I 0] :: [])) M ⟨0, S2, by omega, rfl, rfl, s2, Sep.up1 h32'⟩ ?_
    rintro k t10 t18 ys H ⟨j, S, hj, rfl, rfl, hw, h⟩
    refine cond_of (fun h1 => ?_) fun h1 => ?_
    · simp only [decide_eq_true_eq] at h1
      have hjM : j < M := by omega
      have hA := h.ahead (n := 14) (k := 12) (by decide) (.cells true 0 [I 0, .int .u64 0, .slice none 0 0, I 0, I 0])
      have ej : IntKind.i64.wrap ((j : Int) + 1 - 1) = (j : Int) := by rw [wrap_i64 (by omega)]; omega
      have nz0 : nz n := by unfold nz; omega
      rw [ej]
      refine ⟨_, Sep.ld3 hA (by rfl), nz0, _, Sep.ld3 hA (by rfl), nz0, Sep.st0 hA (Nat.le_of_ble_eq_true rfl) fun H3 h3 => ⟨?_, ⟨⟨_, Sep.get0 hA, by rfl⟩, trivial⟩, trivial⟩⟩
      obtain ⟨S', hacc, hw'⟩ := acc_at hw (mem_nd (Sep.up1 h)) hjM
      have et : Int.tmod (j : Int) n = (j : Int) % n := Int.tmod_eq_emod_of_nonneg (by omega)
      have ed : Int.tdiv (j : Int) n = (j : Int) / n := Int.tdiv_eq_ediv_of_nonneg (by omega)
      have b0 : 0 ≤ (j : Int) % n := Int.emod_nonneg _ (by omega)
      have b1 : (j : Int) % n < n := Int.emod_lt_of_pos _ (by omega)
      have b2 : 0 ≤ (j : Int) / n := Int.ediv_nonneg (by omega) (by omega)
      have b3 : (j : Int) / n ≤ j := Int.ediv_le_self _ (by omega)
      rw [wrap_u64, et, ed, wrap_i64 (n := (j : Int) / n) (by omega)] at h3
      have hkey : ((BitVec.ofInt 64 ((j : Int) % n)).toNat : Int) = (j : Int) % n := by
        rw [BitVec.toNat_ofInt]; omega
      obtain ⟨i1, i2⟩ := hidx j (by omega) (by omega)
      rw [← hkey] at i1 i2
      have fin : ∀ {H' : Heap} {A : Asr}, Sep H' (cl x (arr m 2 n 1 0 0 1 c) :: mem m S' :: A :: cl i7 [I 2, I n, I 1, I 0, I 0] :: []) → ∃ k, k < M - j ∧ ∃ (j' : Nat) (S : Sm), j' ≤ M ∧ k = M - j' ∧ IntKind.i64.wrap ((j : Int) + 1 + 1) = (j' : Int) + 1 ∧ S.wd 1 = (List.replicate M 0).set e v ∧ Sep H' (cl x (arr m 2 n 1 0 0 1 c) :: mem m S :: cl i7 [I 2, I n, I 1, I 0, I 0] :: []) :=
        fun hh => ⟨M - (j + 1), by omega, j + 1, S', by omega, rfl, by rw [wrap_i64 (by omega)]; omega, hw', Sep.rm2 hh⟩
      refine cond_of (fun h5 => ⟨_, _, _, _, _, _, Sep.lds0 h3 (by rfl), ?_⟩) fun h5 => ⟨_, _, _, _, _, _, Sep.lds0 h3 (by rfl), ?_⟩
      · have hje : j = e := by simp only [beq_iff_eq] at h5; omega
        rw [if_pos hje] at hacc
        exact is_ok (Sep.up2 (Sep.up2 h3)) (by exact .inr rfl) (by omega) (by omega) i1 i2 (by omega) hacc rfl fun H12 h12 => ⟨_, rfl, cond_no rfl (fin h12)⟩
      · have hje : ¬ j = e := by simp only [beq_eq_false_iff_ne, ne_eq] at h5; omega
        rw [if_neg hje] at hacc
        exact is_ok (w := 0) (Sep.up2 (Sep.up2 h3)) (by exact .inr rfl) (by omega) (by omega) i1 i2 (by omega) hacc rfl fun H12 h12 => ⟨_, rfl, cond_no rfl (fin h12)⟩
    · simp only [decide_eq_false_iff_not] at h1
      refine asBool_in (cell_ok h (by exact .inr rfl) fun H38 h38 => ?_)
      rw [if_pos (by rw [hNc, wrap_i64 (by omega), wrap_i64 (by omega)]; omega)]
      refine ⟨_, _, rfl, cell_ok h38 (by exact .inr rfl) fun H42 h42 => ?_⟩
      rw [if_pos (by omega)]
      exact ⟨_, _, rfl, cond_yes rfl (cond_yes rfl (cond_yes rfl (cond_yes rfl (CA_truth (by kernel_rfl) ⟨_, rfl, rfl⟩))))⟩
  · refine ⟨_, _, _, _, _, Sep.lds0 h9 (by rfl), ?_⟩
    refine aNew_ok (Sep.up1 h9) (kind := 1) (by exact .inl rfl) hn hc (by rw [hroom]; simp only [show ¬ (1 : Int) = 2 by decide, if_false, Int.mul_one]; omega) hf0 fun H21 x b' h21 => ⟨_, _, rfl, cond_no rfl (cond_no rfl ?_)⟩
    simp only [show ¬ (1 : Int) = 2 by decide, if_false, Int.mul_one] at h21
    have hN : 1 ≤ n ∧ n ≤ 256 := by omega
    skip
    refine Pick_ok (by omega) (by omega) ⟨_, rfl, ?_⟩
    have he : 0 ≤ elem % (n) ∧ elem % (n) < n := ⟨Int.emod_nonneg _ (by omega), Int.emod_lt_of_pos _ (by omega)⟩
    have hidx : ∀ j : Int, 0 ≤ j → j < n → (IntKind.i64.wrap (IntKind.i64.wrap (j / n * n) + IntKind.i64.wrap (j % n)) = j ∨ (1 : Int) ≠ 2) ∧ (IntKind.i64.wrap (j % n) = j ∨ (1 : Int) = 2) := fun j h0 h1 => by
      refine ⟨.inr (by decide), .inl ?_⟩
      rw [Int.emod_eq_of_lt h0 h1, wrap_i64 (by omega)]
    have hw0 : ((newSm mp 1024).mk' b' (n).toNat).wd 1 = List.replicate (n).toNat 0 := wd_mk _ _ _ hf0
    generalize (newSm mp 1024).mk' b' (n).toNat = S1 at *
    skip
    rw [wrap_i64 (n := 1 + elem % n) (by omega)]
    obtain ⟨e, hee⟩ : ∃ e : Nat, elem % n = (e : Int) := ⟨(elem % n).toNat, by omega⟩
    rw [hee] at he ⊢
    obtain ⟨M, rfl⟩ : ∃ M : Nat, n = (M : Int) := ⟨n.toNat, by omega⟩
    rw [Int.toNat_natCast] at hw0
    refine cell_ok h21 (by exact .inl rfl) fun H28 h28 => ?_
    rw [if_neg (by rw [Int.mul_one, wrap_i64 (by omega)]; omega), wrap_i64 (n := 1 + (e : Int) - 1) (by omega), show 1 + (e : Int) - 1 = e by omega]
    refine ⟨_, _, rfl, store_s (Sep.up1 h28) fun H32 h32 => ⟨_, rfl, ?_⟩⟩
    obtain ⟨s1, s2⟩ := store_wd S1 (a := 1) (i := e) (v := v) (by rw [hw0, List.length_replicate]; omega)
    have s1' : (S1.acc (wr ((newSm mp 1024).made + 1)) e true fun _ => v).1.2 = true := s1
    rw [s1']
    refine cond_no rfl ?_
    rw [hw0] at s2
    have h32' : Sep H32 (mem m (S1.acc 1 e true fun _ => v).2 :: cl x (arr m 1 (M : Int) 1 0 0 1 1) :: cl i7 [I 1, I (M : Int), I 1, I 0, I 0] :: []) := h32
    generalize (S1.acc 1 e true fun _ => v).2 = S2 at *
    clear h32 s1 s1' hw0 h28 h21
    refine use_crossbarlaw13_ArrayCells_0 (fun k _ t18 H' => ∃ (j : Nat) (S : Sm), j ≤ M ∧ k = M - j ∧ t18 = (j : Int) + 1 ∧ S.wd 1 = (List.replicate M 0).set e v ∧ Sep H' (cl x (arr m 1 (M : Int) 1 0 0 1 1) :: mem m S :: cl i7 [I 1, I (M : Int), I 1, I 0, I 0] :: [])) M ⟨0, S2, by omega, rfl, rfl, s2, Sep.up1 h32'⟩ ?_
    rintro k t10 t18 ys H ⟨j, S, hj, rfl, rfl, hw, h⟩
    refine cond_of (fun h1 => ?_) fun h1 => ?_
    · simp only [decide_eq_true_eq] at h1
      have hjM : j < M := by omega
      have hA := h.ahead (n := 14) (k := 12) (by decide) (.cells true 0 [I 0, .int .u64 0, .slice none 0 0, I 0, I 0])
      have ej : IntKind.i64.wrap ((j : Int) + 1 - 1) = (j : Int) := by rw [wrap_i64 (by omega)]; omega
      have nz0 : nz (M : Int) := by unfold nz; omega
      rw [ej]
      refine ⟨_, Sep.ld3 hA (by rfl), nz0, _, Sep.ld3 hA (by rfl), nz0, Sep.st0 hA (Nat.le_of_ble_eq_true rfl) fun H3 h3 => ⟨?_, ⟨⟨_, Sep.get0 hA, by rfl⟩, trivial⟩, trivial⟩⟩
      obtain ⟨S', hacc, hw'⟩ := acc_at hw (mem_nd (Sep.up1 h)) hjM
      have et : Int.tmod (j : Int) (M : Int) = (j : Int) % (M : Int) := Int.tmod_eq_emod_of_nonneg (by omega)
      have ed : Int.tdiv (j : Int) (M : Int) = (j : Int) / (M : Int) := Int.tdiv_eq_ediv_of_nonneg (by omega)
      have b0 : 0 ≤ (j : Int) % (M : Int) := Int.emod_nonneg _ (by omega)
      have b1 : (j : Int) % (M : Int) < (M : Int) := Int.emod_lt_of_pos _ (by omega)
      have b2 : 0 ≤ (j : Int) / (M : Int) := Int.ediv_nonneg (by omega) (by omega)
      have b3 : (j : Int) / (M : Int) ≤ j := Int.ediv_le_self _ (by omega)
      rw [wrap_u64, et, ed, wrap_i64 (n := (j : Int) / (M : Int)) (by omega)] at h3
      have hkey : ((BitVec.ofInt 64 ((j : Int) % (M : Int))).toNat : Int) = (j : Int) % (M : Int) := by
        rw [BitVec.toNat_ofInt]; omega
      obtain ⟨i1, i2⟩ := hidx j (by omega) (by omega)
      rw [← hkey] at i1 i2
      have fin : ∀ {H' : Heap} {A : Asr}, Sep H' (cl x (arr m 1 (M : Int) 1 0 0 1 1) :: mem m S' :: A :: cl i7 [I 1, I (M : Int), I 1, I 0, I 0] :: []) → ∃ k, k < M - j ∧ ∃ (j' : Nat) (S : Sm), j' ≤ M ∧ k = M - j' ∧ IntKind.i64.wrap ((j : Int) + 1 + 1) = (j' : Int) + 1 ∧ S.wd 1 = (List.replicate M 0).set e v ∧ Sep H' (cl x (arr m 1 (M : Int) 1 0 0 1 1) :: mem m S :: cl i7 [I 1, I (M : Int), I 1, I 0, I 0] :: []) :=
        fun hh => ⟨M - (j + 1), by omega, j + 1, S', by omega, rfl, by rw [wrap_i64 (by omega)]; omega, hw', Sep.rm2 hh⟩
      refine cond_of (fun h5 => ⟨_, _, _, _, _, _, Sep.lds0 h3 (by rfl), ?_⟩) fun h5 => ⟨_, _, _, _, _, _, Sep.lds0 h3 (by rfl), ?_⟩
      · have hje : j = e := by simp only [beq_iff_eq] at h5; omega
        rw [if_pos hje] at hacc
        exact is_ok (Sep.up2 (Sep.up2 h3)) (by exact .inl rfl) (by omega) (by omega) i1 i2 (by omega) hacc rfl fun H12 h12 => ⟨_, rfl, cond_no rfl (fin h12)⟩
      · have hje : ¬ j = e := by simp only [beq_eq_false_iff_ne, ne_eq] at h5; omega
        rw [if_neg hje] at hacc
        exact is_ok (w := 0) (Sep.up2 (Sep.up2 h3)) (by exact .inl rfl) (by omega) (by omega) i1 i2 (by omega) hacc rfl fun H12 h12 => ⟨_, rfl, cond_no rfl (fin h12)⟩
    · simp only [decide_eq_false_iff_not] at h1
      refine asBool_in (cell_ok h (by exact .inl rfl) fun H38 h38 => ?_)
      rw [if_pos (by rw [Int.mul_one, wrap_i64 (by omega), wrap_i64 (by omega)]; omega)]
      refine ⟨_, _, rfl, cell_ok h38 (by exact .inl rfl) fun H42 h42 => ?_⟩
      rw [if_pos (by omega)]
      exact ⟨_, _, rfl, cond_yes rfl (cond_yes rfl (cond_yes rfl (cond_yes rfl (CA_truth (by kernel_rfl) ⟨_, rfl, rfl⟩))))⟩

theorem ArrayCells_law (H : Heap) (us : List Value) (h : shpVs en H 7 T.ArrayCells us) : CA en F.crossbarlaw13_ArrayCells us H fun v _ => v = .bool true := by
  obtain ⟨v1, u1, rfl, ⟨b, hb⟩, v2, u2, rfl, ⟨n2, hn2, _⟩, v3, u3, rfl, ⟨n3, hn3, _⟩, v4, u4, rfl, ⟨n4, hn4, _⟩, v5, u5, rfl, ⟨n5, hn5, w5⟩, rfl⟩ := args_ArrayCells h
  obtain rfl := (List.cons.inj hb).1
  obtain rfl := (List.cons.inj hn2).1
  obtain rfl := (List.cons.inj hn3).1
  obtain rfl := (List.cons.inj hn4).1
  obtain rfl := (List.cons.inj hn5).1
  obtain ⟨v, rfl⟩ := word_of w5
  exact ArrayCells_ok ⟨by simp, by simp [feet], by simp [feet]⟩
end Go.Proofs.Ythnifkjpkepbaaa
