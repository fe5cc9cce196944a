/-
  Words of 64 bits.
-/
import Derived.Test.YtlkmdcncpdadbaaAs23
namespace Go.AS
open Go.RowKit
set_option linter.unusedVariables false

/-- A word. -/
abbrev W (w : BitVec 64) : Value := .int .u64 (w.toNat : Int)

theorem wrap_u64 (n : Int) : IntKind.u64.wrap n = ((BitVec.ofInt 64 n).toNat : Int) := by
  have h1 : IntKind.u64.wrap n = n % 18446744073709551616 := rfl
  rw [h1, BitVec.toNat_ofInt]
  have : (0 : Int) ≤ n % 18446744073709551616 := Int.emod_nonneg _ (by decide)
  omega

theorem ofInt_bv (w : BitVec 64) : BitVec.ofInt 64 (w.toNat : Int) = w := by
  rw [BitVec.ofInt_natCast, BitVec.ofNat_toNat, BitVec.setWidth_eq]

theorem wrap_bv (w : BitVec 64) : IntKind.u64.wrap (w.toNat : Int) = (w.toNat : Int) := by rw [wrap_u64, ofInt_bv]

theorem ofInt_add (a b : Int) : BitVec.ofInt 64 (a + b) = BitVec.ofInt 64 a + BitVec.ofInt 64 b := by
  exact BitVec.ofInt_add a b

theorem word_of {n : Int} (h : (Lit.int .u64 n).wf = true) : ∃ w : BitVec 64, n = (w.toNat : Int) := by
  refine ⟨BitVec.ofInt 64 n, ?_⟩
  have h2 : n < 18446744073709551616 ∧ 0 ≤ n := by
    have h1 := h
    simp only [Lit.wf, IntKind.min, IntKind.max, Bool.and_eq_true, decide_eq_true_eq] at h1
    have e1 : IntKind.u64.signed = false := rfl
    have e2 : IntKind.u64.bits = 64 := rfl
    simp [e1, e2] at h1
    omega
  rw [BitVec.toNat_ofInt]
  omega

theorem i64_bd {n : Int} (h : (Lit.int .i64 n).wf = true) : -9223372036854775808 ≤ n ∧ n < 9223372036854775808 := by
  simp only [Lit.wf, IntKind.min, IntKind.max, Bool.and_eq_true, decide_eq_true_eq] at h
  have e1 : IntKind.i64.signed = true := rfl
  have e2 : IntKind.i64.bits = 64 := rfl
  simp [e1, e2] at h
  omega

theorem wrap_i64 {n : Int} (h : -9223372036854775808 ≤ n ∧ n < 9223372036854775808) : IntKind.i64.wrap n = n := by
  have e : IntKind.i64.wrap n = if 9223372036854775808 ≤ n % 18446744073709551616 then n % 18446744073709551616 - 18446744073709551616 else n % 18446744073709551616 := by
    show (let m := n % (2 ^ IntKind.i64.bits : Int); if (IntKind.i64.signed && decide (m ≥ (2 ^ (IntKind.i64.bits - 1) : Int))) = true then m - (2 ^ IntKind.i64.bits : Int) else m) = _
    have h1 : (2 ^ IntKind.i64.bits : Int) = 18446744073709551616 := rfl
    have h2 : (2 ^ (IntKind.i64.bits - 1) : Int) = 9223372036854775808 := rfl
    have h3 : IntKind.i64.signed = true := rfl
    rw [h1, h2, h3]
    simp
  rw [e]
  split <;> omega

theorem bv_eq {a b : BitVec 64} : ((a.toNat : Int) = (b.toNat : Int)) ↔ a = b := by
  rw [← BitVec.toNat_inj]; omega
theorem bv_beq (a b : BitVec 64) : (((a.toNat : Int) == (b.toNat : Int)) : Bool) = (a == b) := by
  rw [Bool.eq_iff_iff]; simp [bv_eq]
theorem bv_bne (a b : BitVec 64) : (((a.toNat : Int) != (b.toNat : Int)) : Bool) = (a != b) := by
  rw [Bool.eq_iff_iff]; simp [bv_eq]
end Go.AS
