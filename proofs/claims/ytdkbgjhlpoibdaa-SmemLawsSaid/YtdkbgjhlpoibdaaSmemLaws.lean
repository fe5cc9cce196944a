/-
  'crossbarlaw08.SmemLaws' returns true: of any word, any mask.
-/
import Derived.Test.YtdkbgjhlpoibdaaSmem
import Derived.WalkKit
import Derived.ProofKit
import Derived.OpenShut
namespace Go.Proofs.Ytdkbgjhlpoibdaa
open Go Go.AS Go.RowKit
set_option linter.unusedVariables false
variable {H : Heap} {m : Nat} {S : Sm} {R : Value → Heap → Prop}

theorem cond_no {b : Bool} {p q : Prop} (h : b = false) (hq : q) : cond b p q := by subst h; exact hq
theorem cond_yes {b : Bool} {p q : Prop} (h : b = true) (hp : p) : cond b p q := by subst h; exact hp

def One (mp b : Nat) (w : BitVec 64) (c : Int) : Sm := ⟨mp, 1, [⟨1, b, 0, [w]⟩], 1, 1, c, 0⟩
/-- One region of one word. -/
def IsOne (H : Heap) (m : Nat) (w : BitVec 64) : Prop := ∃ mp b c, IsMem H m (One mp b w c)

theorem one_acc (mp b : Nat) (w : BitVec 64) (c : Int) (f : BitVec 64 → BitVec 64) : (One mp b w c).acc 1 0 true f = ((w, true), One mp b (f w) (wr (c + 1))) := by
  simp [Sm.acc, Sm.find, One, Sm.upd, Sm.cnt]

theorem one_load {w : BitVec 64} (h : IsOne H m w) (hR : ∀ H', IsOne H' m w → R (.tuple #[W w, .bool true]) H') : CA en F.smem_Mem_Load [P m, I 1, I 0] H R := by
  obtain ⟨mp, b, c, hm⟩ := h
  refine Load_ok hm fun H' hm' _ => ?_
  rw [one_acc] at hm' ⊢
  exact hR H' ⟨mp, b, _, hm'⟩
theorem one_store {w v : BitVec 64} (h : IsOne H m w) (hR : ∀ H', IsOne H' m v → R (.bool true) H') : CA en F.smem_Mem_Store [P m, I 1, I 0, W v] H R := by
  obtain ⟨mp, b, c, hm⟩ := h
  refine Store_ok hm fun H' hm' _ => ?_
  rw [one_acc] at hm' ⊢
  exact hR H' ⟨mp, b, _, hm'⟩
theorem one_swap {w mask v : BitVec 64} (h : IsOne H m w) (hR : ∀ H', IsOne H' m (under w mask v) → R (.tuple #[W w, .bool true]) H') : CA en F.smem_Mem_Swap [P m, I 1, I 0, W mask, W v] H R := by
  obtain ⟨mp, b, c, hm⟩ := h
  refine Swap_ok hm fun H' hm' _ => ?_
  rw [one_acc] at hm' ⊢
  exact hR H' ⟨mp, b, _, hm'⟩
theorem one_cas {w mask old v : BitVec 64} (h : IsOne H m w) (hR : ∀ H', IsOne H' m (casF mask old v w) → R (.tuple #[W w, .bool true]) H') : CA en F.smem_Mem_Cas [P m, I 1, I 0, W mask, W old, W v] H R := by
  obtain ⟨mp, b, c, hm⟩ := h
  refine Cas_ok hm fun H' hm' _ => ?_
  rw [one_acc] at hm' ⊢
  exact hR H' ⟨mp, b, _, hm'⟩
theorem one_fetch {w mask v : BitVec 64} {op : Int} (ho : isAtomic op = true) (h : IsOne H m w) (hR : ∀ H', IsOne H' m (fetchF op mask v w) → R (.tuple #[W w, .bool true]) H') : CA en F.smem_Mem_Fetch [P m, I 1, I 0, I op, W mask, W v] H R := by
  obtain ⟨mp, b, c, hm⟩ := h
  refine Fetch_ok hm fun H' hm' _ => ?_
  rw [ho, one_acc] at hm' ⊢
  exact hR H' ⟨mp, b, _, hm'⟩

theorem under_back (w mask v : BitVec 64) : under (under w mask v) mask w = w := by
  unfold under
  ext i hi
  simp
  cases w[i] <;> cases mask[i] <;> cases v[i] <;> rfl
theorem under_none (w v : BitVec 64) : under w 0 v = w := by
  unfold under
  show (w &&& ~~~0#64) ||| (v &&& 0#64) = w
  rw [BitVec.and_zero, BitVec.or_zero, BitVec.not_zero, BitVec.and_allOnes]
theorem cas_wrong (w v : BitVec 64) : casF (BitVec.allOnes 64) (w + 1) v w = w := by
  unfold casF
  rw [if_neg]
  intro h
  rw [BitVec.and_allOnes] at h
  have h2 : w = w + 1 := BitVec.xor_eq_zero_iff.1 h
  bv_omega
theorem cas_right (w mask v : BitVec 64) : casF mask (w ||| ~~~mask) v w = under w mask v := by
  unfold casF
  rw [if_pos]
  ext i hi
  simp
  cases w[i] <;> cases mask[i] <;> simp
theorem add_all (w v : BitVec 64) : fetchF 0 (BitVec.allOnes 64) v w = w + v := by
  unfold fetchF
  rw [under_all, BitVec.and_allOnes, BitVec.and_allOnes]
  rfl
theorem xor_twice (w mask v : BitVec 64) : fetchF 160 mask v (fetchF 160 mask v w) = w := by
  unfold fetchF under aluF
  ext i hi
  simp
  cases w[i] <;> cases mask[i] <;> cases v[i] <;> rfl

set_option maxRecDepth 10000 in
theorem SmemLaws_ok (w v mask : BitVec 64) (H : Heap) : CA en F.crossbarlaw08_SmemLaws [W w, W v, W mask] H fun r _ => r = .bool true := by
  apply vc_crossbarlaw08_SmemLaws
  refine New_ok fun H m mp _ hm _ _ => ⟨_, rfl, cond_no rfl ?_⟩
  refine Make_good hm ⟨by decide, by decide⟩ (show (1 : Int) ≤ 2 by decide) rfl fun H b _ hm _ => ⟨_, _, rfl, ?_⟩
  have h : IsOne H m 0 := ⟨mp, b, 0, hm⟩
  clear hm
  refine one_store h fun H h => ⟨_, rfl, ?_⟩
  refine one_load h fun H h => ⟨_, _, rfl, ?_⟩
  refine cond_no rfl (cond_no rfl (cond_no rfl (cond_no (by simp) ?_)))
  refine one_swap h fun H h => ⟨_, _, rfl, ?_⟩
  refine one_load h fun H h => ⟨_, _, rfl, ?_⟩
  refine one_swap h fun H h => ⟨_, _, rfl, ?_⟩
  rw [under_back] at h
  refine one_load h fun H h => ⟨_, _, rfl, ?_⟩
  refine cond_no (by simp) (cond_no ?_ (cond_no (by simp) (cond_no (by simp) ?_)))
  · simp only [ofInt_bv, wrap_bv, bv_bne]
    exact bne_self_eq_false _
  have e1 : IntKind.u64.wrap ((w.toNat : Int) + 1) = (((w + 1 : BitVec 64).toNat : Nat) : Int) := by
    rw [wrap_u64, ofInt_add, ofInt_bv]; rfl
  rw [e1, all_ones]
  refine one_cas h fun H h => ⟨_, _, rfl, ?_⟩
  rw [cas_wrong] at h
  refine one_load h fun H h => ⟨_, _, rfl, ?_⟩
  have e2 : IntKind.u64.wrap ((BitVec.ofInt 64 (w.toNat : Int) ||| BitVec.ofInt 64 (IntKind.u64.wrap ((BitVec.ofInt 64 (if IntKind.u64.signed = true then -1 else IntKind.u64.max) ^^^ BitVec.ofInt 64 (mask.toNat : Int)).toNat : Int))).toNat : Int) = (((w ||| ~~~mask : BitVec 64).toNat : Nat) : Int) := by
    rw [wrap_bv, wrap_bv, ofInt_bv, ofInt_bv, ofInt_bv]
    have : BitVec.ofInt 64 (if IntKind.u64.signed = true then -1 else IntKind.u64.max) = BitVec.allOnes 64 := by decide
    rw [this, BitVec.allOnes_xor]
  rw [e2]
  refine one_cas h fun H h => ⟨_, _, rfl, ?_⟩
  rw [cas_right] at h
  refine one_load h fun H h => ⟨_, _, rfl, ?_⟩
  refine cond_no (by simp) (cond_no (by simp) (cond_no (by simp) (cond_no (by simp) ?_)))
  refine one_fetch rfl h fun H h => ⟨_, _, rfl, ?_⟩
  have e3 : IntKind.u64.wrap (0 - (v.toNat : Int)) = (((-v : BitVec 64).toNat : Nat) : Int) := by
    rw [wrap_u64]
    congr 2
    have : BitVec.ofInt 64 (0 - (v.toNat : Int)) + v = 0 := by
      conv => lhs; arg 2; rw [← ofInt_bv v]
      rw [← ofInt_add, Int.sub_add_cancel]; rfl
    have := congrArg (fun x => x - v) this
    simpa [BitVec.add_sub_cancel] using this
  rw [e3]
  refine one_fetch rfl h fun H h => ⟨_, _, rfl, ?_⟩
  rw [add_all, add_all, BitVec.add_assoc, BitVec.add_right_neg, BitVec.add_zero] at h
  refine one_load h fun H h => ⟨_, _, rfl, ?_⟩
  refine one_fetch rfl h fun H h => ⟨_, _, rfl, ?_⟩
  refine one_fetch rfl h fun H h => ⟨_, _, rfl, ?_⟩
  rw [xor_twice] at h
  refine one_load h fun H h => ⟨_, _, rfl, ?_⟩
  have e4 : ∀ y : BitVec 64, IntKind.u64.wrap ((BitVec.ofInt 64 (if IntKind.u64.signed = true then -1 else IntKind.u64.max) ^^^ BitVec.ofInt 64 (y.toNat : Int)).toNat : Int) = (((~~~y : BitVec 64).toNat : Nat) : Int) := by
    intro y
    rw [wrap_bv, ofInt_bv]
    have : BitVec.ofInt 64 (if IntKind.u64.signed = true then -1 else IntKind.u64.max) = BitVec.allOnes 64 := by decide
    rw [this, BitVec.allOnes_xor]
  rw [e4]
  refine one_swap (mask := 0) h fun H h => ⟨_, _, rfl, ?_⟩
  rw [under_none] at h
  refine one_fetch (mask := 0) rfl h fun H h => ⟨_, _, rfl, ?_⟩
  have e5 : ∀ y v : BitVec 64, fetchF 64 0 v y = y := fun y v => under_none _ _
  rw [e5] at h
  refine one_load h fun H h => ⟨_, _, rfl, ?_⟩
  refine cond_yes (by simp) (cond_yes (by simp) (cond_yes (by simp) ?_))
  obtain ⟨mp', b', c', hm⟩ := h
  refine Bad_ok hm ⟨_, rfl, cond_yes rfl ?_⟩
  refine Live_ok hm ⟨_, rfl, cond_yes rfl ?_⟩
  refine Room_ok hm ⟨_, rfl, cond_yes rfl ?_⟩
  exact CA_truth (by kernel_rfl) ⟨_, rfl, rfl⟩
end Go.Proofs.Ytdkbgjhlpoibdaa
