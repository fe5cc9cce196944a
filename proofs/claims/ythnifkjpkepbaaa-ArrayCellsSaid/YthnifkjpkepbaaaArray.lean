/-
  The code's arrays: made, looked up.
-/
import Derived.Test.YthnifkjpkepbaaaSmemWd
import Derived.Test.YthnifkjpkepbaaaKit
import Derived.Test.YthnifkjpkepbaaaVcA
import Derived.Test.YthnifkjpkepbaaaAs44
namespace Go.Proofs.Ythnifkjpkepbaaa
open Go Go.AS Go.RowKit
set_option linter.unusedVariables false
variable {H H' : Heap} {m r x : Nat} {S S' : Sm} {R : Value → Heap → Prop} {L : List Asr}

end Go.Proofs.Ythnifkjpkepbaaa
namespace Go.AS
open Go Go.Proofs.Ythnifkjpkepbaaa Go.RowKit
set_option linter.unusedVariables false
variable {H H' : Heap} {m r x : Nat} {S S' : Sm} {R : Value → Heap → Prop} {L : List Asr}
/-- A block whose number was given ahead. -/
theorem Sep.ahead (h : Sep H L) {n k : Nat} (hk : k < n) (o : AS.Obj) : Sep ((H.bump n).set (H.next + k) o) (bx (H.next + k) o :: L) := by
  have h0 : Sep H ((⟨[], fun _ => True, fun _ _ => trivial⟩ : Asr) :: L) := ⟨fun A hA => by
      rcases List.mem_cons.1 hA with rfl | hA
      · trivial
      · exact h.all A hA, by rw [feet_cons]; exact h.nd, fun i hi => h.lt i (by rw [feet_cons] at hi; exact hi)⟩
  refine h0.upd (B := bx (H.next + k) o) (S := [H.next + k]) (((Frm.refl _ _).bump n).set _ (by simp)) (by simp) (get_set_self _ _ _) (by simp [bx]) (by simp [bx]) ?_
  intro j hj
  simp only [bx, List.mem_singleton] at hj
  subst hj
  show H.next + k < H.next + n
  omega
end Go.AS
namespace Go.Proofs.Ythnifkjpkepbaaa
open Go Go.AS Go.RowKit
set_option linter.unusedVariables false
variable {H H' : Heap} {m r x : Nat} {S S' : Sm} {R : Value → Heap → Prop} {L : List Asr}

def arr (m : Nat) (kind n a b c h cpus : Int) : List Value := [P m, I kind, I n, I a, I b, I c, I h, I cpus]

theorem made_at {n : Int} (S : Sm) (b : Nat) (h1 : 1 ≤ n) (h2 : n ≤ 65536) (h3 : n ≤ S.room) : S.make b n = ((wr (S.made + 1), 0), S.mk' b n.toNat) := by
  unfold Sm.make
  rw [if_neg (by omega), if_neg (by omega)]

theorem aNew_ok (h : Sep H (mem m S :: L)) {kind n a b c cpus : Int} (hk : kind = 1 ∨ kind = 2) (hn : 1 ≤ n ∧ n ≤ 64) (hc : 1 ≤ cpus ∧ cpus ≤ 4) (hroom : n * (if kind = 2 then cpus else 1) ≤ S.room) (hf : S.find (wr (S.made + 1)) = none)
    (hR : ∀ H' x b', Sep H' (cl x (arr m kind n a b c (wr (S.made + 1)) (if kind = 2 then cpus else 1)) :: mem m (S.mk' b' (n * (if kind = 2 then cpus else 1)).toNat) :: L) → R (.tuple #[P x, I 0]) H') :
    CA en F.array_New [P m, .agg #[I kind, I n, I a, I b, I c], I cpus] H R := by
  have hm : 1 ≤ n * (if kind = 2 then cpus else 1) ∧ n * (if kind = 2 then cpus else 1) ≤ 256 := by
    split
    · have h1 : n * cpus ≤ 64 * cpus := Int.mul_le_mul_of_nonneg_right hn.2 (by omega)
      have h2 : 1 * cpus ≤ n * cpus := Int.mul_le_mul_of_nonneg_right hn.1 (by omega)
      omega
    · omega
  have hw : IntKind.i64.wrap (n * (if kind = 2 then cpus else 1)) = n * (if kind = 2 then cpus else 1) := wrap_i64 (by omega)
  apply vc_array_New
  refine Sep.nw h fun i1 H2 h2 => ⟨_, Sep.ld0 h2 (by rfl), ?_⟩
  rcases hk with rfl | rfl
  · refine cond_yes rfl ⟨_, Sep.ld0 h2 (by rfl), cond_no (by simp; omega) ⟨_, Sep.ld0 h2 (by rfl), cond_no (by simp; omega) (cond_no (by simp; omega) (cond_no (by simp; omega) ⟨_, _, _, _, _, Sep.lds0 h2 (by rfl), Sep.nw h2 fun i11 H12 h12 => ⟨_, Sep.ld1 h12 (by rfl), cond_no rfl ?_⟩⟩))⟩⟩
    have hB := h12.bump 14
    refine ⟨_, Sep.ld1 hB (by rfl), _, Sep.ld0 hB (by rfl), ?_⟩
    simp only [show ¬ (1 : Int) = 2 by decide, if_false] at *
    rw [hw]
    refine make_s (Sep.up2 hB) (fun _ _ _ => hf) fun H18 b h18 => ⟨_, _, rfl, ?_, trivial⟩
    rw [made_at S b hm.1 (by omega) hroom] at h18 ⊢
    refine cond_no rfl (Sep.st1 h18 (Nat.le_of_ble_eq_true rfl) fun H21 h21 => hR H21 i11 b (Sep.rm2 (Sep.up1 h21)))
  · refine cond_no rfl ⟨_, Sep.ld0 h2 (by rfl), cond_yes rfl ⟨_, Sep.ld0 h2 (by rfl), cond_no (by simp; omega) ⟨_, Sep.ld0 h2 (by rfl), cond_no (by simp; omega) (cond_no (by simp; omega) (cond_no (by simp; omega) ⟨_, _, _, _, _, Sep.lds0 h2 (by rfl), Sep.nw h2 fun i11 H12 h12 => ⟨_, Sep.ld1 h12 (by rfl), cond_yes rfl ?_⟩⟩))⟩⟩⟩
    refine Sep.st0 h12 (Nat.le_of_ble_eq_true rfl) fun H14 h14 => ?_
    have hB := h14.bump 14
    refine ⟨_, Sep.ld1 hB (by rfl), _, Sep.ld0 hB (by rfl), ?_⟩
    simp only [if_true] at *
    rw [hw]
    refine make_s (Sep.up2 hB) (fun _ _ _ => hf) fun H18 b h18 => ⟨_, _, rfl, ?_, trivial⟩
    rw [made_at S b hm.1 (by omega) hroom] at h18 ⊢
    refine cond_no rfl (Sep.st1 h18 (Nat.le_of_ble_eq_true rfl) fun H21 h21 => hR H21 i11 b (Sep.rm2 (Sep.up1 h21)))

theorem cell_ok {kind n a b c hd cpus : Int} (h : Sep H (cl x (arr m kind n a b c hd cpus) :: L)) {e : Int} (hk : kind = 1 ∨ kind = 2) (hR : ∀ H', Sep H' (cl x (arr m kind n a b c hd cpus) :: L) → R (if e < 1 ∨ IntKind.i64.wrap (n * cpus) < e then .tuple #[I 0, I 0] else .tuple #[I hd, I (IntKind.i64.wrap (e - 1))]) H') : CA en F.array_Map_Cell [P x, I e] H R := by
  apply vc_array_Map_Cell
  have hB := h.bump 24
  have hR := hR _ hB
  refine asAddr_in ⟨_, Sep.ld0 hB (by rfl), cond_no (by rcases hk with rfl | rfl <;> rfl) (cond_of (fun h1 => ⟨?_, trivial⟩) fun h1 => asAddr_in ⟨_, Sep.ld0 hB (by rfl), asAddr_in ⟨_, Sep.ld0 hB (by rfl), cond_of (fun h2 => ?_) fun h2 => asAddr_in ⟨_, Sep.ld0 hB (by rfl), ?_⟩, trivial⟩⟩)⟩
  · rw [if_pos (by simp only [decide_eq_true_eq] at h1; omega)] at hR
    exact hR
  · rw [if_pos (by simp only [decide_eq_true_eq] at h2; omega)] at hR
    exact hR
  · rw [if_neg (by simp only [decide_eq_false_iff_not] at h1 h2; omega)] at hR
    exact hR

/-- A run. -/
def rn (x : Nat) (kind : Int) (key : BitVec 64) (flag cpu : Int) (u7 u8 u9 u10 u11 : Value) : List Value := [P x, I kind, W key, .slice none 0 0, I flag, I cpu, .int .u64 0, u7, u8, u9, u10, u11]

theorem begin_ok (h : Sep H L) {kind flag cpu : Int} {key : BitVec 64} (hR : ∀ H' r, Sep H' (cl r (rn x kind key flag cpu (I 0) (.slice none 0 0) (.int .u64 0) (I 0) (.bool false)) :: L) → R (P r) H') : CA en F.array_Map_Begin [P x, .agg #[I kind, W key, .slice none 0 0, I flag, I cpu]] H R := by
  apply vc_array_Map_Begin
  refine Sep.nw h fun i1 H2 h2 => ⟨_, _, _, _, _, _, Sep.lds0 h2 (by rfl), Sep.nw h2 fun i9 H10 h10 => ⟨_, _, Sep.ld1 h10 (by rfl), cond_no rfl (Sep.st0 h10 (Nat.le_of_ble_eq_true rfl) fun H20 h20 => hR H20 i9 (Sep.rm1 h20))⟩⟩

theorem at_ok {kind k n a b c hd cpus flag cpu idx : Int} {key : BitVec 64} {u7 u8 u9 u10 u11 : Value} (h : Sep H (cl r (rn x kind key flag cpu u7 u8 u9 u10 u11) :: cl x (arr m k n a b c hd cpus) :: L))
    (hidx : IntKind.i64.wrap (IntKind.i64.wrap (cpu * n) + IntKind.i64.wrap (key.toNat : Int)) = idx ∨ k ≠ 2) (hidx2 : IntKind.i64.wrap (key.toNat : Int) = idx ∨ k = 2)
    (hR : ∀ H', Sep H' (cl r (rn x kind key flag cpu u7 u8 u9 u10 u11) :: cl x (arr m k n a b c hd cpus) :: L) → R (I idx) H') : CA en F.array_Run_at [P r] H R := by
  apply vc_array_Run_at
  refine asAddr_in ⟨_, Sep.ld0 h (by rfl), asAddr_in ⟨_, Sep.ld1 h (by rfl), cond_of (fun hk => ?_) fun hk => ?_⟩⟩
  · have hB := h.bump 22
    refine asAddr_in ⟨_, Sep.ld0 hB (by rfl), asAddr_in ⟨_, Sep.ld0 hB (by rfl), asAddr_in ⟨_, Sep.ld1 hB (by rfl), asAddr_in ⟨_, Sep.ld0 hB (by rfl), ?_, trivial⟩⟩⟩⟩
    simp only [beq_iff_eq] at hk
    rcases hidx with e | e
    · rw [e]; exact hR _ hB
    · exact absurd hk e
  · refine asAddr_in ⟨_, Sep.ld0 h (by rfl), ?_⟩
    simp only [beq_eq_false_iff_ne, ne_eq] at hk
    rcases hidx2 with e | e
    · rw [e]; exact hR _ h
    · exact absurd e hk

theorem lookup_ok {kind k n a b c hd cpus flag cpu idx : Int} {key w : BitVec 64} {u7 u8 u9 u10 u11 : Value} (h : Sep H (cl r (rn x kind key flag cpu u7 u8 u9 u10 u11) :: cl x (arr m k n a b c hd cpus) :: mem m S :: L))
    (hk : k = 1 ∨ k = 2) (hn : 0 ≤ n ∧ n ≤ 64) (hkey : (key.toNat : Int) < n)
    (hidx : IntKind.i64.wrap (IntKind.i64.wrap (cpu * n) + IntKind.i64.wrap (key.toNat : Int)) = idx ∨ k ≠ 2) (hidx2 : IntKind.i64.wrap (key.toNat : Int) = idx ∨ k = 2) (hi : 0 ≤ idx ∧ idx ≤ 256) (hacc : S.acc hd idx true id = ((w, true), S'))
    (hR : ∀ H' i, Sep H' (bx i (.cells true 1 [W w]) :: cl r (rn x kind key flag cpu u7 u8 u9 u10 u11) :: cl x (arr m k n a b c hd cpus) :: mem m S' :: L) → R (.agg #[I 0, .slice (some ⟨i, 0, none⟩) 1 0, .int .u64 0, I (idx + 1)]) H') : CA en F.array_Run_lookup [P r] H R := by
  apply vc_array_Run_lookup
  refine Sep.nw h fun i1 H2 h2 => ?_
  have hB := h2.bump 15
  have hwn : IntKind.u64.wrap n = n := by
    have h1 : IntKind.u64.wrap n = n % 18446744073709551616 := rfl
    rw [h1]; omega
  refine asAddr_in ⟨_, Sep.ld1 hB (by rfl), asAddr_in ⟨_, Sep.ld1 hB (by rfl), asAddr_in ⟨_, Sep.ld2 hB (by rfl), cond_no (by rw [hwn]; simp; omega) ?_, trivial⟩⟩⟩
  have hC := hB.bump 22
  refine asAddr_in ⟨_, Sep.ld1 hC (by rfl), asAddr_in ⟨_, Sep.ld2 hC (by rfl), asAddr_in ⟨_, Sep.ld1 hC (by rfl), asAddr_in ⟨_, Sep.ld2 hC (by rfl), ?_⟩⟩⟩⟩
  -- i1, r, x, mem
  refine at_ok (Sep.up2 (Sep.up2 hC)) hidx hidx2 fun H31 h31 => ⟨_, rfl, ?_⟩
  -- r, x, i1, mem
  refine load_s (Sep.up3 h31) fun H34 h34 => ?_
  rw [hacc] at h34 ⊢
  -- mem, r, x, i1
  refine ⟨_, _, rfl, at_ok (Sep.up2 (Sep.up2 h34)) hidx hidx2 fun H46 h46 => ⟨_, rfl, asAddr_in ⟨_, Sep.ld0 h46 (by rfl), asAddr_in ⟨_, Sep.ld1 h46 (by rfl), cond_no (by rcases hk with rfl | rfl <;> rfl) ?_⟩⟩⟩, ?_, ?_, ?_, ?_, trivial⟩
  · -- r, x, mem, i1
    rw [wrap_i64 (by omega)]
    refine Sep.nw h46 fun i68 H69 h69 => Sep.st4 h69 (Nat.le_of_ble_eq_true rfl) fun H70 h70 => ⟨_, _, _, _, _, Sep.lds4 h70 (by rfl), hR H70 i68 (Sep.rm4 h70)⟩
  · exact ⟨⟨_, Sep.ld2 hC (by rfl), rfl⟩, ⟨_, Sep.ld1 h31 (by rfl), rfl⟩, trivial⟩
  · exact ⟨⟨_, Sep.ld1 hC (by rfl), rfl⟩, ⟨_, Sep.ld0 h31 (by rfl), rfl⟩, trivial⟩
  · exact ⟨⟨_, Sep.ld2 hC (by rfl), rfl⟩, ⟨_, Sep.ld1 h31 (by rfl), rfl⟩, trivial⟩
  · exact ⟨⟨_, Sep.ld1 hC (by rfl), rfl⟩, ⟨_, Sep.ld0 h31 (by rfl), rfl⟩, trivial⟩

/-! ### Maps that are written out -/
end Go.Proofs.Ythnifkjpkepbaaa
namespace Go.AS
open Go Go.Proofs.Ythnifkjpkepbaaa Go.RowKit
set_option linter.unusedVariables false
variable {H H' : Heap} {m r x : Nat} {S S' : Sm} {R : Value → Heap → Prop} {L : List Asr}
theorem Sep.upNew {i c : Nat} {es : List MapEntry} {kd : TypeDesc} {k v : Value} {K : Heap → Prop} (h : Sep H (bx i (.map es c) :: L)) (hf : Instr.findNow kd k es 0 = some none)
    (hK : ∀ H', Sep H' (bx i (.map (es ++ [{ key := k, val := v, born := c }]) (c + 1)) :: L) → K H') : upM H kd (some i) k v K := ⟨i, es, c, none, rfl, Sep.get0 h, hf, hK _ (Sep.put0 h _)⟩
theorem Sep.mapGet0 {i c : Nat} {es : List MapEntry} {kd : TypeDesc} {k : Value} {q : Option (Nat × Value)} (h : Sep H (bx i (.map es c) :: L)) (hf : Instr.findNow kd k es 0 = some q) : AS.mapGet H kd (some i) k = some q := by
  have e : entriesOf H (some i) = some es := by
    show (match H.get i with | some (.map es _) => some es | _ => none) = some es
    rw [Sep.get0 h]
  unfold AS.mapGet
  rw [e]
  exact hf
end Go.AS
namespace Go.Proofs.Ythnifkjpkepbaaa
open Go Go.AS Go.RowKit
set_option linter.unusedVariables false
variable {H H' : Heap} {m r x : Nat} {S S' : Sm} {R : Value → Heap → Prop} {L : List Asr}

end Go.Proofs.Ythnifkjpkepbaaa
namespace Go.AS
open Go Go.Proofs.Ythnifkjpkepbaaa Go.RowKit
set_option linter.unusedVariables false
variable {H H' : Heap} {m r x : Nat} {S S' : Sm} {R : Value → Heap → Prop} {L : List Asr}
theorem asFnNil_in {f : Fn} {fs cs : Array Value} {K : Bool → Prop} (h : K false) : asFnNil (.func f fs cs) K := h
end Go.AS
namespace Go.Proofs.Ythnifkjpkepbaaa
open Go Go.AS Go.RowKit
set_option linter.unusedVariables false
variable {H H' : Heap} {m r x : Nat} {S S' : Sm} {R : Value → Heap → Prop} {L : List Asr}

theorem step_ok {k n a b c hd cpus flag cpu idx : Int} {key w : BitVec 64} {u7 u8 u9 u10 : Value} (h : Sep H (cl r (rn x 1 key flag cpu u7 u8 u9 u10 (.bool false)) :: cl x (arr m k n a b c hd cpus) :: mem m S :: L))
    (hk : k = 1 ∨ k = 2) (hn : 0 ≤ n ∧ n ≤ 64) (hkey : (key.toNat : Int) < n)
    (hidx : IntKind.i64.wrap (IntKind.i64.wrap (cpu * n) + IntKind.i64.wrap (key.toNat : Int)) = idx ∨ k ≠ 2) (hidx2 : IntKind.i64.wrap (key.toNat : Int) = idx ∨ k = 2) (hi : 0 ≤ idx ∧ idx ≤ 256) (hacc : S.acc hd idx true id = ((w, true), S'))
    (hR : ∀ H' i, Sep H' (bx i (.cells true 1 [W w]) :: cl r (rn x 1 key flag cpu (I 0) (.slice (some ⟨i, 0, none⟩) 1 0) (.int .u64 0) (I (idx + 1)) (.bool true)) :: cl x (arr m k n a b c hd cpus) :: mem m S' :: L) → R (.tuple #[.bool true, .bool true]) H') : CA en F.array_Run_Step [P r] H R := by
  apply vc_array_Run_Step
  refine asAddr_in ⟨_, Sep.ld0 h (by rfl), cond_no rfl (asAddr_in (Sep.st0 h (Nat.le_of_ble_eq_true rfl) fun H6 h6 => Sep.nw h6 fun i7 H8 h8 => ?_))⟩
  refine Sep.upNew h8 (by rfl) fun H9 h9 => Sep.upNew h9 (by rfl) fun H10 h10 => Sep.upNew h10 (by rfl) fun H11 h11 => Sep.upNew h11 (by rfl) fun H12 h12 => ?_
  refine asAddr_in ⟨_, Sep.ld1 h12 (by rfl), _, Sep.mapGet0 h12 (by rfl), .func (.func F.array_Run_lookup) #[] #[], (by rfl), asAddr_in (Sep.st1 h12 (Nat.le_of_ble_eq_true rfl) fun H20 h20 => ?_)⟩
  have h21 : Sep H20 (cl r (rn x 1 key flag cpu (I 1) (.slice none 0 0) (.int .u64 0) (I 0) (.bool true)) :: cl x (arr m k n a b c hd cpus) :: mem m S :: L) := h20.tail
  refine asFnNil_in (cond_yes rfl (asFn_in ⟨⟨_, rfl⟩, ?_⟩))
  refine lookup_ok h21 hk hn hkey hidx hidx2 hi hacc fun H26 i h26 => ⟨_, _, _, _, _, rfl, asAddr_in (Sep.st1 h26 (Nat.le_of_ble_eq_true rfl) fun H34 h34 => hR H34 i h34)⟩

theorem result_ok {kind flag cpu e : Int} {key w : BitVec 64} {i : Nat} {u11 : Value} (h : Sep H (bx i (.cells true 1 [W w]) :: cl r (rn x kind key flag cpu (I 0) (.slice (some ⟨i, 0, none⟩) 1 0) (.int .u64 0) (I e) u11) :: L))
    (hR : ∀ H' j, Sep H' (bx j (.cells true 1 [W w]) :: L) → R (.agg #[I 0, .slice (some ⟨j, 0, none⟩) 1 0, .int .u64 0, I e]) H') : CA en F.array_Run_Result [P r] H R := by
  apply vc_array_Run_Result
  refine Sep.nw h fun i1 H2 h2 => asAddr_in ⟨_, _, _, _, _, Sep.lds2 h2 (by rfl), Sep.nw h2 fun i10 H11 h11 => Sep.st0 h11 (Nat.le_of_ble_eq_true rfl) fun H12 h12 => asAddr_in ⟨_, _, Sep.ld3 h12 (by rfl), [W w], ?_, ?_⟩⟩
  · exact rowOf_bx (Sep.get2 h12) (by decide) (by rfl)
  refine apd_gl (b := none) (cs := []) (gl_none.2 h12) (fun _ => rfl) (by decide) rfl (by decide) rfl (by decide) fun H20 j h20 => ?_
  -- j, i10, i1, i, r
  have h20 := gl_some.1 h20
  refine Sep.st1 h20 (Nat.le_of_ble_eq_true rfl) fun H21 h21 => ⟨_, _, _, _, _, Sep.lds1 h21 (by rfl), Sep.st2 h21 (Nat.le_of_ble_eq_true rfl) fun H27 h27 => ⟨_, _, _, _, _, Sep.lds2 h27 (by rfl), hR H27 j ?_⟩⟩
  exact Sep.rm1 (Sep.rm1 (Sep.rm1 (Sep.rm1 h27)))

/-- A look-up that finds its element: done by its first step. -/
theorem finish_ok {k n a b c hd cpus flag cpu idx most : Int} {key w : BitVec 64} (h : Sep H (cl r (rn x 1 key flag cpu (I 0) (.slice none 0 0) (.int .u64 0) (I 0) (.bool false)) :: cl x (arr m k n a b c hd cpus) :: mem m S :: L))
    (hk : k = 1 ∨ k = 2) (hn : 0 ≤ n ∧ n ≤ 64) (hkey : (key.toNat : Int) < n) (hmost : 0 < most)
    (hidx : IntKind.i64.wrap (IntKind.i64.wrap (cpu * n) + IntKind.i64.wrap (key.toNat : Int)) = idx ∨ k ≠ 2) (hidx2 : IntKind.i64.wrap (key.toNat : Int) = idx ∨ k = 2) (hi : 0 ≤ idx ∧ idx ≤ 256) (hacc : S.acc hd idx true id = ((w, true), S'))
    (hR : ∀ H' j, Sep H' (bx j (.cells true 1 [W w]) :: cl x (arr m k n a b c hd cpus) :: mem m S' :: L) → R (.tuple #[.agg #[I 0, .slice (some ⟨j, 0, none⟩) 1 0, .int .u64 0, I (idx + 1)], .bool true]) H') : CA en F.crossbarlaw13_Finish [P r, I most] H R := by
  apply vc_crossbarlaw13_Finish
  refine Sep.nw h fun i1 H2 h2 => cond_no rfl ?_
  refine use_crossbarlaw13_Finish_0 (fun k' _ t6 t7 H' => k' = 0 ∧ t6 = 0 ∧ t7 = 0 ∧ H' = H2) 0 ⟨rfl, rfl, rfl, rfl⟩ ?_
  rintro k' t5 t6 t7 ys H3 ⟨rfl, rfl, rfl, rfl⟩
  refine cond_yes (by simpa using hmost) ?_
  refine step_ok (Sep.up3 (Sep.up3 (Sep.up3 h2))) hk hn hkey hidx hidx2 hi hacc fun H4 i h4 => ⟨_, _, rfl, cond_yes rfl (cond_yes rfl ?_)⟩
  -- i, r, x, mem, i1
  refine result_ok h4 fun H6 j h6 => ⟨_, _, _, _, _, rfl, Sep.st3 h6 (Nat.le_of_ble_eq_true rfl) fun H12 h12 => asBool_in ⟨_, _, _, _, _, Sep.lds3 h12 (by rfl), ?_⟩⟩
  exact hR H12 j (Sep.rm3 h12)
end Go.Proofs.Ythnifkjpkepbaaa
