/-
  'crossbarlaw15.HashSteps' returns true: alone, a run is done soon.
-/
import Derived.Test.YtjggeoghlicmdaaGreatHashM
import Derived.Test.YtjggeoghlicmdaaGreatVcHc
import Derived.Test.YtjggeoghlicmdaaGreatArgs
import Derived.Test.YtjggeoghlicmdaaGreatAs45
namespace Go.Proofs.YtjggeoghlicmdaaGreat
open Go Go.AS Go.RowKit
set_option linter.unusedVariables false
variable {H H' : Heap} {R : Value → Heap → Prop} {L M : List Asr} {n : Nat} {n0 n1 : Int} {l : List Wd} {a : Option Addr} {A : Ab} {X : Gx} {c : Lc} {cap mx : Int}

theorem pows : ∀ k : Nat, k < 6 → pow (IntKind.i64.wrap (1 * 2 ^ (min (IntKind.u64.wrap (k : Int)).toNat 64))) := by
  intro k hk
  have : k = 0 ∨ k = 1 ∨ k = 2 ∨ k = 3 ∨ k = 4 ∨ k = 5 := by omega
  rcases this with rfl | rfl | rfl | rfl | rfl | rfl <;> decide
/-- An operation, alone, whole. -/
theorem one_s {kd fl : Int} {ky w : Wd} {most : Int} {B : Nat} {i3 : Nat} {R : Value → Option Addr → Heap → Value → Heap → Prop} (hI : Idle c cap mx A X.G) (hB : A.ls.length = B) (hB2 : B ≤ 32) (hx : mx + 1 < 1000) (hm : 10 * c.d1 + 10 * B + 60 = most)
    (h : Sep H (xA c :: grA c.g c.m X :: bx i3 (.cells true 1 [W w]) :: L))
    (hR : ∀ v0 a0 H0 H' X' A', Idle c cap (mx + 1) A' X'.G → A'.ls.length = B → Sep H' (xA c :: grA c.g c.m X' :: L) → ∀ no rk el : Int, ∀ a n, R v0 a0 H0 (.tuple #[.agg #[I no, .slice a n 0, .int .u64 rk, I el], .bool true]) H') :
    CA en F.hash_Map_Begin [P c.x, .agg #[I kd, W ky, .slice (some ⟨i3, 0, none⟩) 1 0, I fl, I 0]] H fun v H' => ∃ a14, v = .pointer a14 ∧ CA en F.crossbarlaw15_finish [.pointer a14, I most] H' (R v a14 H') := by
  have hd := hI.d1
  have hrm := hI.mem.rooms
  refine Begin_s (vs := [w]) h rfl (by omega) (fun w' hw => ⟨i3, 0, rfl, fun H' h' => ?_⟩) fun H' r PL b0 hk => ⟨_, rfl, ?_⟩
  · obtain rfl : w = w' := by simpa using hw
    exact Sep.ld0 h' rfl
  have hle := hI.le
  refine finish_s hk (al_op hI (by omega) kd ky fl 0 w b0) (by omega) (by omega) (by omega) fun H2 X' q' o hF ho h2 => ?_
  obtain ⟨A', f1, f2, f3, f4, f5⟩ := hF
  have hB' : A'.ls.length = B := by
    have := f1.rooms.1
    omega
  exact hR _ _ _ H2 X' A' ⟨f1, f2, f3, f4, hI.d1, f5⟩ hB' (Sep.pick h2 4 [0, 1] (by decide)) _ _ _ _ _
set_option maxHeartbeats 1000000 in
theorem HashSteps_ok {va : Option Addr} {vn : Nat} {kd fl cp : Int} {ky : Wd} (ha : Arg a n (l.map fun v => [W v]) M) (h : Sep H M) : CA en F.crossbarlaw15_HashSteps [I n0, I n1, .slice a n 0, .agg #[I kd, W ky, .slice va vn 0, I fl, I cp]] H fun v _ => v = .bool true := by
  have hn : n = l.length := by rw [ha.len, List.length_map]
  subst hn
  apply vc_crossbarlaw15_HashSteps
  refine Sep.nw h fun i1 H2 h2 => Pick_ok (by decide) (by decide) ⟨_, rfl, Pick_ok (by decide) (by decide) ⟨_, rfl, ?_⟩⟩
  have hb0 : 0 ≤ n0 % 64 ∧ n0 % 64 < 64 := ⟨Int.emod_nonneg _ (by decide), Int.emod_lt_of_pos _ (by decide)⟩
  obtain ⟨k6, hk6, hk6'⟩ : ∃ k : Nat, n1 % 6 = (k : Int) ∧ k < 6 := ⟨(n1 % 6).toNat, by have := Int.emod_nonneg n1 (show (6 : Int) ≠ 0 by decide); omega, by have := Int.emod_lt_of_pos n1 (show (0 : Int) < 6 by decide); omega⟩
  have hp := pows k6 hk6'
  rw [hk6, wrap_i64 (n := 1 + n0 % 64) (by omega)]
  refine ⟨by rw [u64_self (by omega) (by omega)]; unfold nn; omega, ?_⟩
  obtain ⟨b, hb⟩ : ∃ b, b = IntKind.i64.wrap (1 * 2 ^ (min (IntKind.u64.wrap (k6 : Int)).toNat 64)) := ⟨_, rfl⟩
  obtain ⟨N, hN⟩ : ∃ N, N = 1 + n0 % 64 := ⟨_, rfl⟩
  rw [← hb, ← hN]
  rw [← hb] at hp
  have hN1 : 1 ≤ N ∧ N ≤ 64 := by omega
  have hb2 := pow_b hp
  obtain ⟨B, hB⟩ : ∃ B : Nat, b = (B : Int) := ⟨b.toNat, by omega⟩
  have e1 : IntKind.i64.wrap (IntKind.i64.wrap (IntKind.i64.wrap (10 * N) + IntKind.i64.wrap (10 * b)) + 60) = 10 * N + 10 * B + 60 := by
    rw [wrap_i64 (n := 10 * N) (by omega), wrap_i64 (n := 10 * b) (by omega), wrap_i64 (n := 10 * N + 10 * b) (by omega), wrap_i64 (by omega), hB]
  rw [e1]
  refine made_s hN1 hp (by decide) h2 fun H10 x m g X0 A0 hI0 hls _ _ _ h10 => ⟨_, _, _, rfl, cond_no rfl ?_⟩
  have hl0 : A0.ls.length = B := by rw [hls, List.length_replicate]; omega
  refine use_crossbarlaw15_HashSteps_0 (fun k t8 t13 H => ∃ (j : Nat) (X : Gx) (A : Ab) (mx : Int), j ≤ l.length ∧ j ≤ 64 ∧ k = l.length - j ∧ t13 = (j : Int) ∧ mx = 1 + (j : Int) ∧ Idle (hcOf x m g N b) (1000 - (2 + 3 * b)) mx A X.G ∧ A.ls.length = B ∧
    Sep H (xA (hcOf x m g N b) :: grA g m X :: bx i1 (.cells true 0 [I kd, W ky, .slice va vn 0, I fl, I cp]) :: M)) l.length ⟨0, X0, A0, 1, by omega, by omega, rfl, rfl, rfl, hI0, hl0, h10⟩ ?_
  rintro k t8 t13 ys H1 ⟨j, X, A, mx, hj1, hj2, rfl, rfl, hmx, hI, hlen, h1⟩
  by_cases c1 : j < l.length ∧ j < 64
  · obtain ⟨hj', hj64⟩ := c1
    refine cond_yes (by rw [decide_eq_true_eq]; omega) (cond_yes (by rw [decide_eq_true_eq]; omega) ⟨by unfold inB; omega, ?_⟩)
    refine ha.word h1 (fun A hA => by simp [hA]) (j := j) hj' fun ib hv => ⟨_, hv _ (List.getElem?_eq_getElem hj'), ?_⟩
    apply vc_crossbarlaw15_update
    refine Sep.nw h1 fun ia H2 h2 => Sep.nw h2 fun i3 H4 h4 => Sep.st1 h4 (Nat.le_of_ble_eq_true rfl) fun H5 h5 => ⟨_, _, _, _, _, _, Sep.lds1 h5 rfl, _, _, _, _, _, _, rfl, ?_⟩
    -- i3 ia xA gr i1 M
    refine one_s (c := hcOf x m g N b) (kd := 2) (ky := l[j]) (fl := 0) (w := 1) (most := 10 * N + 10 * B + 60) (L := bx i1 (.cells true 0 [I kd, W ky, .slice va vn 0, I fl, I cp]) :: M) hI hlen (by omega) (by omega) rfl (Sep.pick h5 4 [2, 3, 0] (by decide)) fun _ _ _ H16 X' A' hI' hlen' h16 no rk el a' n' => ⟨_, _, _, _, _, _, rfl, ?_⟩
    exact Sep.nw h16 fun i23 H24 h24 => Sep.st0 h24 (Nat.le_of_ble_eq_true rfl) fun H25 h25 => cond_no rfl ⟨l.length - (j + 1), by omega, j + 1, X', A', mx + 1, by omega, by omega, rfl, by rw [wrap_i64 (by omega)]; omega, by omega, hI', hlen', Sep.rm0 h25⟩
  · have hp5 : 0 ≤ kd % 5 ∧ kd % 5 < 5 := ⟨Int.emod_nonneg _ (by decide), Int.emod_lt_of_pos _ (by decide)⟩
    by_cases c2 : j < l.length
    · refine cond_yes (by rw [decide_eq_true_eq]; omega) (cond_no (by rw [decide_eq_false_iff_not]; omega) ?_)
      refine asBool_in ⟨_, Sep.ld2 h1 rfl, Pick_ok (by decide) (by decide) ⟨_, rfl, ?_⟩⟩
      refine cond_of (fun _ => ?_) fun _ => cond_of (fun _ => ?_) fun _ => ?_
      · refine ⟨_, Sep.ld2 h1 rfl, Pick_ok (by decide) (by decide) ⟨_, rfl, _, Sep.ld2 h1 rfl, Sep.nw h1 fun i26 H27 h27 => ?_⟩⟩
        refine one_s (c := hcOf x m g N b) (kd := IntKind.i64.wrap (1 + kd % 5)) (ky := ky) (fl := fl % 2) (w := 3) (most := 10 * N + 10 * B + 60) (L := bx i1 (.cells true 0 [I kd, W ky, .slice va vn 0, I fl, I cp]) :: M) hI hlen (by omega) (by omega) rfl (Sep.pick h27 4 [1, 2, 0, 3] (by decide)) fun _ _ _ H16 X' A' hI' hlen' h16 no rk el a' n' => ⟨_, _, _, _, _, _, rfl, ?_⟩
        exact Sep.nw h16 fun i23 H24 h24 => Sep.st0 h24 (Nat.le_of_ble_eq_true rfl) fun H25 h25 => cond_yes rfl (CA_truth (by kernel_rfl) ⟨_, rfl, rfl⟩)
      · refine ⟨_, Sep.ld2 h1 rfl, Pick_ok (by decide) (by decide) ⟨_, rfl, _, Sep.ld2 h1 rfl, Sep.nw h1 fun i26 H27 h27 => ?_⟩⟩
        refine one_s (c := hcOf x m g N b) (kd := IntKind.i64.wrap (1 + kd % 5)) (ky := ky) (fl := fl % 2) (w := 3) (most := 10 * N + 10 * B + 60) (L := bx i1 (.cells true 0 [I kd, W ky, .slice va vn 0, I fl, I cp]) :: M) hI hlen (by omega) (by omega) rfl (Sep.pick h27 4 [1, 2, 0, 3] (by decide)) fun _ _ _ H16 X' A' hI' hlen' h16 no rk el a' n' => ⟨_, _, _, _, _, _, rfl, ?_⟩
        exact Sep.nw h16 fun i23 H24 h24 => Sep.st0 h24 (Nat.le_of_ble_eq_true rfl) fun H25 h25 => cond_yes rfl (CA_truth (by kernel_rfl) ⟨_, rfl, rfl⟩)
      · refine ⟨_, Sep.ld2 h1 rfl, Sep.nw h1 fun i26 H27 h27 => ?_⟩
        refine one_s (c := hcOf x m g N b) (kd := IntKind.i64.wrap (1 + kd % 5)) (ky := ky) (fl := 0) (w := 3) (most := 10 * N + 10 * B + 60) (L := bx i1 (.cells true 0 [I kd, W ky, .slice va vn 0, I fl, I cp]) :: M) hI hlen (by omega) (by omega) rfl (Sep.pick h27 4 [1, 2, 0, 3] (by decide)) fun _ _ _ H16 X' A' hI' hlen' h16 no rk el a' n' => ⟨_, _, _, _, _, _, rfl, ?_⟩
        exact Sep.nw h16 fun i23 H24 h24 => Sep.st0 h24 (Nat.le_of_ble_eq_true rfl) fun H25 h25 => cond_yes rfl (CA_truth (by kernel_rfl) ⟨_, rfl, rfl⟩)
    · refine cond_no (by rw [decide_eq_false_iff_not]; omega) ?_
      refine asBool_in ⟨_, Sep.ld2 h1 rfl, Pick_ok (by decide) (by decide) ⟨_, rfl, ?_⟩⟩
      refine cond_of (fun _ => ?_) fun _ => cond_of (fun _ => ?_) fun _ => ?_
      · refine ⟨_, Sep.ld2 h1 rfl, Pick_ok (by decide) (by decide) ⟨_, rfl, _, Sep.ld2 h1 rfl, Sep.nw h1 fun i26 H27 h27 => ?_⟩⟩
        refine one_s (c := hcOf x m g N b) (kd := IntKind.i64.wrap (1 + kd % 5)) (ky := ky) (fl := fl % 2) (w := 3) (most := 10 * N + 10 * B + 60) (L := bx i1 (.cells true 0 [I kd, W ky, .slice va vn 0, I fl, I cp]) :: M) hI hlen (by omega) (by omega) rfl (Sep.pick h27 4 [1, 2, 0, 3] (by decide)) fun _ _ _ H16 X' A' hI' hlen' h16 no rk el a' n' => ⟨_, _, _, _, _, _, rfl, ?_⟩
        exact Sep.nw h16 fun i23 H24 h24 => Sep.st0 h24 (Nat.le_of_ble_eq_true rfl) fun H25 h25 => cond_yes rfl (CA_truth (by kernel_rfl) ⟨_, rfl, rfl⟩)
      · refine ⟨_, Sep.ld2 h1 rfl, Pick_ok (by decide) (by decide) ⟨_, rfl, _, Sep.ld2 h1 rfl, Sep.nw h1 fun i26 H27 h27 => ?_⟩⟩
        refine one_s (c := hcOf x m g N b) (kd := IntKind.i64.wrap (1 + kd % 5)) (ky := ky) (fl := fl % 2) (w := 3) (most := 10 * N + 10 * B + 60) (L := bx i1 (.cells true 0 [I kd, W ky, .slice va vn 0, I fl, I cp]) :: M) hI hlen (by omega) (by omega) rfl (Sep.pick h27 4 [1, 2, 0, 3] (by decide)) fun _ _ _ H16 X' A' hI' hlen' h16 no rk el a' n' => ⟨_, _, _, _, _, _, rfl, ?_⟩
        exact Sep.nw h16 fun i23 H24 h24 => Sep.st0 h24 (Nat.le_of_ble_eq_true rfl) fun H25 h25 => cond_yes rfl (CA_truth (by kernel_rfl) ⟨_, rfl, rfl⟩)
      · refine ⟨_, Sep.ld2 h1 rfl, Sep.nw h1 fun i26 H27 h27 => ?_⟩
        refine one_s (c := hcOf x m g N b) (kd := IntKind.i64.wrap (1 + kd % 5)) (ky := ky) (fl := 0) (w := 3) (most := 10 * N + 10 * B + 60) (L := bx i1 (.cells true 0 [I kd, W ky, .slice va vn 0, I fl, I cp]) :: M) hI hlen (by omega) (by omega) rfl (Sep.pick h27 4 [1, 2, 0, 3] (by decide)) fun _ _ _ H16 X' A' hI' hlen' h16 no rk el a' n' => ⟨_, _, _, _, _, _, rfl, ?_⟩
        exact Sep.nw h16 fun i23 H24 h24 => Sep.st0 h24 (Nat.le_of_ble_eq_true rfl) fun H25 h25 => cond_yes rfl (CA_truth (by kernel_rfl) ⟨_, rfl, rfl⟩)
theorem HashSteps_law (H : Heap) (us : List Value) (h : shpVs en H 7 T.HashSteps us) : CA en F.crossbarlaw15_HashSteps us H fun v _ => v = .bool true := by
  obtain ⟨v, u, rfl, ⟨n1, hn1, _⟩, v2, u2, rfl, ⟨n2, hn2, _⟩, v5, u5, rfl, hA, v6, u6, rfl, ⟨lo, rfl, a0, b0, rfl, ⟨kd, rfl, _⟩, a1, b1, rfl, ⟨ky, rfl, wk⟩, a2, b2, rfl, hs2, a3, b3, rfl, ⟨fl, rfl, _⟩, a4, b4, rfl, ⟨cp, rfl, _⟩, rfl⟩, rfl⟩ := args_HashSteps h
  obtain rfl := (List.cons.inj hn1).1
  obtain rfl := (List.cons.inj hn2).1
  obtain ⟨a, n, css, M, rfl, ha, hs, hc⟩ := Arg.of (SlArg.one hA)
  obtain ⟨l, rfl⟩ := words_of css hc
  obtain ⟨k, rfl⟩ := word_of wk
  rcases hs2 with rfl | ⟨i, cs, rfl, _⟩
  · exact HashSteps_ok (n0 := n1) (n1 := n2) (kd := kd) (fl := fl) (cp := cp) (ky := k) (va := none) (vn := 0) ha hs
  · exact HashSteps_ok (n0 := n1) (n1 := n2) (kd := kd) (fl := fl) (cp := cp) (ky := k) (va := some ⟨i, 0, none⟩) (vn := cs.length) ha hs
end Go.Proofs.YtjggeoghlicmdaaGreat
