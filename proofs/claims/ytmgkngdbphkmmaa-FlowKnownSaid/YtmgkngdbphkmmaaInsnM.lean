/-
  Written by merge.py: InsnPure InsnTab InsnFns InsnCheck InsnWord InsnPut InsnOne InsnGet InsnKit InsnBack InsnAgain
-/
import Derived.Test.YtmgkngdbphkmmaaAs45
import Derived.Test.YtmgkngdbphkmmaaAs46
import Derived.Test.YtmgkngdbphkmmaaAs43
import Derived.Test.YtmgkngdbphkmmaaVcI
import Derived.Test.YtmgkngdbphkmmaaAs44
import Derived.Test.YtmgkngdbphkmmaaVcG
import Derived.Test.YtmgkngdbphkmmaaVcJ
import Derived.Test.YtmgkngdbphkmmaaArgs
/-
  Instructions and their bytes, without the program: there and back.
-/
namespace Go.Proofs.Ytmgkngdbphkmmaa
set_option linter.unusedVariables false

structure Ins where
  op : Int
  dst : Int
  src : Int
  off : Int
  imm : Int
 deriving DecidableEq

/-! ### Bytes of numbers -/
def le : Nat → Nat → List Nat
  | 0, _ => []
  | n + 1, v => v % 256 :: le n (v / 256)
def leNum : List Nat → Nat
  | [] => 0
  | b :: l => b + 256 * leNum l

theorem le_len : ∀ n v, (le n v).length = n
  | 0, _ => rfl
  | n + 1, v => by simp [le, le_len n]
theorem le_lt : ∀ n v, ∀ b ∈ le n v, b < 256
  | 0, _, b, h => by simp [le] at h
  | n + 1, v, b, h => by
    simp only [le, List.mem_cons] at h
    rcases h with rfl | h
    · exact Nat.mod_lt _ (by decide)
    · exact le_lt n _ b h
theorem leNum_le : ∀ n v, leNum (le n v) = v % 256 ^ n
  | 0, v => by simp [le, leNum, Nat.mod_one]
  | n + 1, v => by
    rw [le, leNum, leNum_le n, Nat.pow_succ, Nat.mul_comm (256 ^ n) 256, Nat.mod_mul]
theorem le_leNum : ∀ l : List Nat, (∀ b ∈ l, b < 256) → le l.length (leNum l) = l
  | [], _ => rfl
  | b :: l, h => by
    have hb := h b (by simp)
    have ih := le_leNum l fun c hc => h c (List.mem_cons_of_mem _ hc)
    simp only [List.length_cons, le, leNum]
    rw [show (b + 256 * leNum l) % 256 = b by omega, show (b + 256 * leNum l) / 256 = leNum l by omega, ih]
theorem leNum_lt : ∀ l : List Nat, (∀ b ∈ l, b < 256) → leNum l < 256 ^ l.length
  | [], _ => by simp [leNum]
  | b :: l, h => by
    have hb := h b (by simp)
    have ih := leNum_lt l fun c hc => h c (List.mem_cons_of_mem _ hc)
    simp only [List.length_cons, leNum, Nat.pow_succ]
    omega

/-- A number of so many values, with a sign. -/
def sgn (m : Nat) (n : Nat) : Int := if 2 * n < m then n else (n : Int) - m
def u64 (v : Int) : Nat := (v % 18446744073709551616).toNat

theorem sgn_u64 {m : Nat} {v : Int} (h : -(m : Int) ≤ 2 * v ∧ 2 * v < m) (hm : m = 65536 ∨ m = 4294967296 ∨ m = 18446744073709551616) : sgn m (u64 v % m) = v := by
  unfold sgn u64
  rcases hm with rfl | rfl | rfl <;> split <;> omega
theorem u64_sgn {m n : Nat} (h : n < m) (hm : m = 65536 ∨ m = 4294967296 ∨ m = 18446744073709551616) : u64 (sgn m n) % m = n ∧ -(m : Int) ≤ 2 * sgn m n ∧ 2 * sgn m n < m := by
  unfold sgn u64
  rcases hm with rfl | rfl | rfl <;> split <;> omega

/-! ### One instruction -/
def putI (x : Ins) : List Nat :=
  [(x.op % 256).toNat, ((x.src * 16 + x.dst) % 256).toNat] ++ (le 2 (u64 x.off) ++ (le 4 (u64 x.imm) ++ (if x.op = 24 then [0, 0, 0, 0] ++ le 4 (u64 x.imm / 4294967296) else [])))
def sizI (x : Ins) : Nat := if x.op = 24 then 16 else 8

theorem putI_len (x : Ins) : (putI x).length = sizI x := by
  unfold putI sizI
  split <;> simp [le_len]

theorem putI_lt (x : Ins) : ∀ b ∈ putI x, b < 256 := by
  intro b hb
  unfold putI at hb
  simp only [List.mem_append, List.mem_cons, List.not_mem_nil, or_false] at hb
  rcases hb with (rfl | rfl) | hb | hb | hb
  · omega
  · omega
  · exact le_lt _ _ b hb
  · exact le_lt _ _ b hb
  · split at hb
    · simp only [List.mem_append, List.mem_cons, List.not_mem_nil, or_false] at hb
      rcases hb with (rfl | rfl | rfl | rfl) | hb
      · omega
      · omega
      · omega
      · omega
      · exact le_lt _ _ b hb
    · simp at hb

variable {chk : Ins → Int}

/-- The instruction that bytes begin with. -/
def getOne (chk : Ins → Int) (b : List Nat) : Ins × Nat × Int :=
  if b.length < 8 ∨ b.getD 0 0 = 24 ∧ b.length < 16 then (⟨0, 0, 0, 0, 0⟩, 0, 20)
  else if b.getD 0 0 = 24 then
    (if leNum ((b.drop 8).take 4) = 0 then
      (⟨24, (b.getD 1 0 % 16 : Nat), (b.getD 1 0 / 16 : Nat), sgn 65536 (leNum ((b.drop 2).take 2)), sgn 18446744073709551616 (leNum ((b.drop 4).take 4) + 4294967296 * leNum ((b.drop 12).take 4))⟩, 16,
        chk ⟨24, (b.getD 1 0 % 16 : Nat), (b.getD 1 0 / 16 : Nat), sgn 65536 (leNum ((b.drop 2).take 2)), sgn 18446744073709551616 (leNum ((b.drop 4).take 4) + 4294967296 * leNum ((b.drop 12).take 4))⟩)
    else (⟨0, 0, 0, 0, 0⟩, 0, 9))
  else (⟨(b.getD 0 0 : Nat), (b.getD 1 0 % 16 : Nat), (b.getD 1 0 / 16 : Nat), sgn 65536 (leNum ((b.drop 2).take 2)), sgn 4294967296 (leNum ((b.drop 4).take 4))⟩, 8,
    chk ⟨(b.getD 0 0 : Nat), (b.getD 1 0 % 16 : Nat), (b.getD 1 0 / 16 : Nat), sgn 65536 (leNum ((b.drop 2).take 2)), sgn 4294967296 (leNum ((b.drop 4).take 4))⟩)

structure Bnd (x : Ins) : Prop where
  op : 0 ≤ x.op ∧ x.op ≤ 255
  dst : 0 ≤ x.dst ∧ x.dst ≤ 15
  src : 0 ≤ x.src ∧ x.src ≤ 15
  off : -32768 ≤ x.off ∧ x.off ≤ 32767
  imm : x.op ≠ 24 → -2147483648 ≤ x.imm ∧ x.imm ≤ 2147483647
  wide : -9223372036854775808 ≤ x.imm ∧ x.imm ≤ 9223372036854775807

theorem app_take {α : Type} {a b : List α} {n : Nat} (h : a.length = n) : (a ++ b).take n = a := by rw [← h]; simp
theorem app_drop {α : Type} {a b : List α} {n : Nat} (h : a.length = n) : (a ++ b).drop n = b := by rw [← h]; simp

theorem getOne_put {x : Ins} (h : Bnd x) (rest : List Nat) : getOne chk (putI x ++ rest) = (x, sizI x, chk x) := by
  obtain ⟨op, dst, src, off, imm⟩ := x
  obtain ⟨ho, hd, hs, hf, hi, hw⟩ := h
  simp only at ho hd hs hf hi hw
  have e0 : ((op % 256).toNat : Int) = op := by omega
  have e0n : (op % 256).toNat = op.toNat := by omega
  have hb1 : (src * 16 + dst) % 256 = src * 16 + dst := by omega
  obtain ⟨d, rfl⟩ := Int.eq_ofNat_of_zero_le hd.1
  obtain ⟨s, rfl⟩ := Int.eq_ofNat_of_zero_le hs.1
  have hb2 : ((s : Int) * 16 + (d : Int)).toNat = s * 16 + d := by omega
  have f1 : sgn 65536 (leNum (le 2 (u64 off))) = off := by rw [leNum_le]; exact sgn_u64 (by omega) (.inl rfl)
  by_cases hop : op = 24
  · subst hop
    have hp : putI ⟨24, d, s, off, imm⟩ = [24, s * 16 + d] ++ (le 2 (u64 off) ++ (le 4 (u64 imm) ++ ([0, 0, 0, 0] ++ le 4 (u64 imm / 4294967296)))) := by
      unfold putI
      simp only [if_true, hb1, hb2]
      rfl
    have hl := putI_len ⟨24, d, s, off, imm⟩
    rw [hp] at hl ⊢
    have hsz : sizI ⟨24, d, s, off, imm⟩ = 16 := rfl
    rw [hsz] at hl ⊢
    have q0 : ([24, s * 16 + d] ++ (le 2 (u64 off) ++ (le 4 (u64 imm) ++ ([0, 0, 0, 0] ++ le 4 (u64 imm / 4294967296))))) ++ rest = [24, s * 16 + d] ++ (le 2 (u64 off) ++ (le 4 (u64 imm) ++ ([0, 0, 0, 0] ++ (le 4 (u64 imm / 4294967296) ++ rest)))) := by simp [List.append_assoc]
    have d2 : (([24, s * 16 + d] ++ (le 2 (u64 off) ++ (le 4 (u64 imm) ++ ([0, 0, 0, 0] ++ (le 4 (u64 imm / 4294967296) ++ rest))))).drop 2) = le 2 (u64 off) ++ (le 4 (u64 imm) ++ ([0, 0, 0, 0] ++ (le 4 (u64 imm / 4294967296) ++ rest))) := rfl
    have d4 : (([24, s * 16 + d] ++ (le 2 (u64 off) ++ (le 4 (u64 imm) ++ ([0, 0, 0, 0] ++ (le 4 (u64 imm / 4294967296) ++ rest))))).drop 4) = le 4 (u64 imm) ++ ([0, 0, 0, 0] ++ (le 4 (u64 imm / 4294967296) ++ rest)) := by
      rw [show (4 : Nat) = 2 + 2 from rfl, ← List.drop_drop, d2, app_drop (le_len _ _)]
    have d8 : (([24, s * 16 + d] ++ (le 2 (u64 off) ++ (le 4 (u64 imm) ++ ([0, 0, 0, 0] ++ (le 4 (u64 imm / 4294967296) ++ rest))))).drop 8) = [0, 0, 0, 0] ++ (le 4 (u64 imm / 4294967296) ++ rest) := by
      rw [show (8 : Nat) = 4 + 4 from rfl, ← List.drop_drop, d4, app_drop (le_len _ _)]
    have d12 : (([24, s * 16 + d] ++ (le 2 (u64 off) ++ (le 4 (u64 imm) ++ ([0, 0, 0, 0] ++ (le 4 (u64 imm / 4294967296) ++ rest))))).drop 12) = le 4 (u64 imm / 4294967296) ++ rest := by
      rw [show (12 : Nat) = 8 + 4 from rfl, ← List.drop_drop, d8]; rfl
    have hlen : ¬ (([24, s * 16 + d] ++ (le 2 (u64 off) ++ (le 4 (u64 imm) ++ ([0, 0, 0, 0] ++ (le 4 (u64 imm / 4294967296) ++ rest))))).length < 8 ∨ ([24, s * 16 + d] ++ (le 2 (u64 off) ++ (le 4 (u64 imm) ++ ([0, 0, 0, 0] ++ (le 4 (u64 imm / 4294967296) ++ rest))))).getD 0 0 = 24 ∧ ([24, s * 16 + d] ++ (le 2 (u64 off) ++ (le 4 (u64 imm) ++ ([0, 0, 0, 0] ++ (le 4 (u64 imm / 4294967296) ++ rest))))).length < 16) := by
      rw [← q0, List.length_append, hl]; omega
    have g1 : ([24, s * 16 + d] ++ (le 2 (u64 off) ++ (le 4 (u64 imm) ++ ([0, 0, 0, 0] ++ (le 4 (u64 imm / 4294967296) ++ rest))))).getD 1 0 = s * 16 + d := rfl
    rw [q0]
    unfold getOne
    have g0 : ([24, s * 16 + d] ++ (le 2 (u64 off) ++ (le 4 (u64 imm) ++ ([0, 0, 0, 0] ++ (le 4 (u64 imm / 4294967296) ++ rest))))).getD 0 0 = 24 := rfl
    rw [if_neg hlen, g0, if_pos rfl, d2, d4, d8, d12, g1, app_take (le_len _ _), app_take (le_len _ _), app_take (le_len _ _)]
    have z : leNum (([0, 0, 0, 0] ++ (le 4 (u64 imm / 4294967296) ++ rest)).take 4) = 0 := rfl
    rw [if_pos z, f1, leNum_le, leNum_le]
    have m1 : (s * 16 + d) % 16 = d := by omega
    have m2 : (s * 16 + d) / 16 = s := by omega
    have w : sgn 18446744073709551616 (u64 imm % 256 ^ 4 + 4294967296 * (u64 imm / 4294967296 % 256 ^ 4)) = imm := by
      have hu : u64 imm < 18446744073709551616 := by unfold u64; omega
      have e : u64 imm % 256 ^ 4 + 4294967296 * (u64 imm / 4294967296 % 256 ^ 4) = u64 imm % 18446744073709551616 := by
        show u64 imm % 4294967296 + 4294967296 * (u64 imm / 4294967296 % 4294967296) = _
        omega
      rw [e]
      exact sgn_u64 (by omega) (.inr (.inr rfl))
    rw [m1, m2, w]
  · have hp : putI ⟨op, d, s, off, imm⟩ = [op.toNat, s * 16 + d] ++ (le 2 (u64 off) ++ le 4 (u64 imm)) := by
      unfold putI
      simp only [if_neg hop, hb1, hb2, e0n, List.append_nil]
    have hl := putI_len ⟨op, d, s, off, imm⟩
    rw [hp] at hl ⊢
    have hsz : sizI ⟨op, d, s, off, imm⟩ = 8 := if_neg hop
    rw [hsz] at hl ⊢
    have q0 : ([op.toNat, s * 16 + d] ++ (le 2 (u64 off) ++ le 4 (u64 imm))) ++ rest = [op.toNat, s * 16 + d] ++ (le 2 (u64 off) ++ (le 4 (u64 imm) ++ rest)) := by simp [List.append_assoc]
    have g0 : ([op.toNat, s * 16 + d] ++ (le 2 (u64 off) ++ (le 4 (u64 imm) ++ rest))).getD 0 0 = op.toNat := rfl
    have g1 : ([op.toNat, s * 16 + d] ++ (le 2 (u64 off) ++ (le 4 (u64 imm) ++ rest))).getD 1 0 = s * 16 + d := rfl
    have d2 : ([op.toNat, s * 16 + d] ++ (le 2 (u64 off) ++ (le 4 (u64 imm) ++ rest))).drop 2 = le 2 (u64 off) ++ (le 4 (u64 imm) ++ rest) := rfl
    have d4 : ([op.toNat, s * 16 + d] ++ (le 2 (u64 off) ++ (le 4 (u64 imm) ++ rest))).drop 4 = le 4 (u64 imm) ++ rest := by
      rw [show (4 : Nat) = 2 + 2 from rfl, ← List.drop_drop, d2, app_drop (le_len _ _)]
    have hlen : ¬ (([op.toNat, s * 16 + d] ++ (le 2 (u64 off) ++ (le 4 (u64 imm) ++ rest))).length < 8 ∨ ([op.toNat, s * 16 + d] ++ (le 2 (u64 off) ++ (le 4 (u64 imm) ++ rest))).getD 0 0 = 24 ∧ ([op.toNat, s * 16 + d] ++ (le 2 (u64 off) ++ (le 4 (u64 imm) ++ rest))).length < 16) := by
      rw [g0, ← q0, List.length_append, hl]; omega
    rw [q0]
    unfold getOne
    rw [if_neg hlen, g0, if_neg (by omega), d2, d4, g1, app_take (le_len _ _), app_take (le_len _ _), f1, leNum_le]
    have m1 : (s * 16 + d) % 16 = d := by omega
    have m2 : (s * 16 + d) / 16 = s := by omega
    have w : sgn 4294967296 (u64 imm % 256 ^ 4) = imm := sgn_u64 (by have := hi hop; omega) (.inr (.inl rfl))
    have o : ((op.toNat : Nat) : Int) = op := by omega
    rw [m1, m2, w, o]

theorem le_mod : ∀ n v, le n v = le n (v % 256 ^ n)
  | 0, _ => rfl
  | n + 1, v => by
    have e1 : v % 256 ^ (n + 1) % 256 = v % 256 := by
      rw [Nat.pow_succ, Nat.mul_comm, Nat.mod_mul_right_mod]
    have e2 : v % 256 ^ (n + 1) / 256 = v / 256 % 256 ^ n := by
      rw [Nat.pow_succ, Nat.mul_comm, Nat.mod_mul_right_div_self]
    rw [le, le, e1, e2, ← le_mod n]

theorem le_back {l : List Nat} {m n : Nat} (hl : l.length = n) (hb : ∀ b ∈ l, b < 256) {v : Nat} (hv : v % 256 ^ n = leNum l) : le n v = l := by
  rw [le_mod, hv, ← hl]; exact le_leNum l hb

theorem mem_sub {b : List Nat} (h : ∀ c ∈ b, c < 256) (i n : Nat) : ∀ c ∈ (b.drop i).take n, c < 256 :=
  fun c hc => h c (List.mem_of_mem_drop (List.mem_of_mem_take hc))

theorem sub_len {b : List Nat} {i n : Nat} (h : i + n ≤ b.length) : ((b.drop i).take n).length = n := by
  rw [List.length_take, List.length_drop]; omega

theorem two_head {b : List Nat} (h : 2 ≤ b.length) : b.take 2 = [b.getD 0 0, b.getD 1 0] := by
  match b, h with
  | a :: c :: l, _ => rfl

/-- What was read has these bytes. -/
theorem getOne_back {b : List Nat} (hlt : ∀ c ∈ b, c < 256) {x : Ins} {n : Nat} (h : getOne chk b = (x, n, 0)) : n = sizI x ∧ n ≤ b.length ∧ b.take n = putI x ∧ chk x = 0 := by
  unfold getOne at h
  by_cases h1 : b.length < 8 ∨ b.getD 0 0 = 24 ∧ b.length < 16
  · rw [if_pos h1] at h
    simp at h
  rw [if_neg h1] at h
  have hl8 : 8 ≤ b.length := by omega
  have hb0 : b.getD 0 0 < 256 := by
    rw [List.getD_eq_getElem?_getD, List.getElem?_eq_getElem (by omega)]
    exact hlt _ (List.getElem_mem _)
  have hb1 : b.getD 1 0 < 256 := by
    rw [List.getD_eq_getElem?_getD, List.getElem?_eq_getElem (by omega)]
    exact hlt _ (List.getElem_mem _)
  have n2 := leNum_lt _ (mem_sub hlt 2 2)
  have n4 := leNum_lt _ (mem_sub hlt 4 4)
  rw [sub_len (by omega)] at n2 n4
  have L2 : le 2 (u64 (sgn 65536 (leNum ((b.drop 2).take 2)))) = (b.drop 2).take 2 :=
    le_back (m := 0) (sub_len (by omega)) (mem_sub hlt 2 2) (u64_sgn n2 (.inl rfl)).1
  by_cases h2 : b.getD 0 0 = 24
  · rw [if_pos h2] at h
    have hl16 : 16 ≤ b.length := by omega
    by_cases h3 : leNum ((b.drop 8).take 4) = 0
    · rw [if_pos h3] at h
      simp only [Prod.mk.injEq] at h
      obtain ⟨rfl, rfl, hc⟩ := h
      refine ⟨rfl, hl16, ?_, hc⟩
      have n12 := leNum_lt _ (mem_sub hlt 12 4)
      rw [sub_len (by omega)] at n12
      have hN : leNum ((b.drop 4).take 4) + 4294967296 * leNum ((b.drop 12).take 4) < 18446744073709551616 := by
        have : (256 : Nat) ^ 4 = 4294967296 := by decide
        omega
      have u := u64_sgn hN (.inr (.inr rfl))
      have ub : u64 (sgn 18446744073709551616 (leNum ((b.drop 4).take 4) + 4294967296 * leNum ((b.drop 12).take 4))) = leNum ((b.drop 4).take 4) + 4294967296 * leNum ((b.drop 12).take 4) := by
        have : ∀ v, u64 v < 18446744073709551616 := fun v => by unfold u64; omega
        have := this (sgn 18446744073709551616 (leNum ((b.drop 4).take 4) + 4294967296 * leNum ((b.drop 12).take 4)))
        omega
      have p4 : (256 : Nat) ^ 4 = 4294967296 := by decide
      have z8 : (b.drop 8).take 4 = [0, 0, 0, 0] := by
        have := le_leNum _ (mem_sub hlt 8 4)
        rw [sub_len (by omega), h3] at this
        exact this.symm
      have t16 : b.take 16 = b.take 2 ++ ((b.drop 2).take 2 ++ ((b.drop 4).take 4 ++ ((b.drop 8).take 4 ++ (b.drop 12).take 4))) := by
        rw [show (16 : Nat) = 2 + (2 + (4 + (4 + 4))) from rfl, List.take_add, List.take_add, List.take_add, List.take_add]
        simp only [List.drop_drop]
      rw [t16, two_head (by omega), h2, z8]
      unfold putI
      simp only [if_true]
      rw [L2, ub]
      have q1 : le 4 (leNum ((b.drop 4).take 4) + 4294967296 * leNum ((b.drop 12).take 4)) = (b.drop 4).take 4 := le_back (m := 0) (sub_len (by omega)) (mem_sub hlt 4 4) (by omega)
      have q2 : le 4 ((leNum ((b.drop 4).take 4) + 4294967296 * leNum ((b.drop 12).take 4)) / 4294967296) = (b.drop 12).take 4 := le_back (m := 0) (sub_len (by omega)) (mem_sub hlt 12 4) (by omega)
      rw [q1, q2]
      have e1 : (((b.getD 1 0 / 16 : Nat) : Int) * 16 + ((b.getD 1 0 % 16 : Nat) : Int)) % 256 = (b.getD 1 0 : Int) := by omega
      rw [e1]
      rfl
    · rw [if_neg h3] at h
      simp at h
  · rw [if_neg h2] at h
    simp only [Prod.mk.injEq] at h
    obtain ⟨rfl, rfl, hc⟩ := h
    have hop : ¬ ((b.getD 0 0 : Nat) : Int) = 24 := by omega
    refine ⟨(if_neg hop).symm, hl8, ?_, hc⟩
    have t8 : b.take 8 = b.take 2 ++ ((b.drop 2).take 2 ++ (b.drop 4).take 4) := by
      rw [show (8 : Nat) = 2 + (2 + 4) from rfl, List.take_add, List.take_add]
      simp only [List.drop_drop]
    rw [t8, two_head (by omega)]
    unfold putI
    simp only [if_neg hop, List.append_nil]
    have L4 : le 4 (u64 (sgn 4294967296 (leNum ((b.drop 4).take 4)))) = (b.drop 4).take 4 :=
      le_back (m := 0) (sub_len (by omega)) (mem_sub hlt 4 4) (u64_sgn n4 (.inr (.inl rfl))).1
    rw [L2, L4]
    have e1 : (((b.getD 1 0 / 16 : Nat) : Int) * 16 + ((b.getD 1 0 % 16 : Nat) : Int)) % 256 = (b.getD 1 0 : Int) := by omega
    have e0 : ((b.getD 0 0 : Nat) : Int) % 256 = (b.getD 0 0 : Int) := by omega
    rw [e1, e0]
    rfl

theorem sizI_pos (x : Ins) : 8 ≤ sizI x ∧ sizI x ≤ 16 := by unfold sizI; split <;> omega

/-- Cut within an instruction they are short. -/
theorem getOne_short {x : Ins} (h : Bnd x) (rest : List Nat) {c : Nat} (h1 : c < sizI x) : getOne chk ((putI x ++ rest).take c) = (⟨0, 0, 0, 0, 0⟩, 0, 20) := by
  have hl := putI_len x
  have hlen : ((putI x ++ rest).take c).length = c := by rw [List.length_take, List.length_append, hl]; omega
  unfold getOne
  rw [if_pos]
  rw [hlen]
  by_cases h8 : c < 8
  · exact .inl h8
  · right
    have hop : x.op = 24 := by
      unfold sizI at h1
      split at h1
      · assumption
      · omega
    have hc : c < 16 := by unfold sizI at h1; rw [if_pos hop] at h1; exact h1
    refine ⟨?_, hc⟩
    rw [List.getD_eq_getElem?_getD, List.getElem?_take]
    rw [if_pos (by omega)]
    unfold putI
    rw [hop]
    rfl

/-! ### Lists of them -/
def puts (l : List Ins) : List Nat := l.flatMap putI
theorem puts_cons (x : Ins) (l : List Ins) : puts (x :: l) = putI x ++ puts l := rfl
theorem puts_append (l m : List Ins) : puts (l ++ m) = puts l ++ puts m := by simp [puts]
theorem puts_lt (l : List Ins) : ∀ b ∈ puts l, b < 256 := by
  intro b hb
  obtain ⟨x, _, hx⟩ := List.mem_flatMap.1 hb
  exact putI_lt x b hx

/-- The instructions that bytes are; so many stand ahead. -/
def getF (chk : Ins → Int) : Nat → Nat → List Nat → Except Int (List Ins)
  | 0, _, _ => .ok []
  | f + 1, k, b =>
    if b = [] then .ok [] else if k = 256 then .error 19
    else if (getOne chk b).2.2 ≠ 0 then .error (getOne chk b).2.2
    else match getF chk f (k + 1) (b.drop (getOne chk b).2.1) with
      | .ok l => .ok ((getOne chk b).1 :: l)
      | .error e => .error e

theorem putI_ne (x : Ins) : putI x ≠ [] := by
  intro h
  have := putI_len x
  rw [h] at this
  have := sizI_pos x
  simp at *; omega

theorem getF_puts (hb : ∀ x, chk x = 0 → Bnd x) : ∀ (l : List Ins) (f k : Nat), l.length ≤ f → l.length + k ≤ 256 → (∀ x ∈ l, chk x = 0) → getF chk f k (puts l) = .ok l
  | [], 0, k, _, _, _ => rfl
  | [], f + 1, k, _, _, _ => by simp [getF, puts]
  | x :: l, 0, k, h, _, _ => by simp at h
  | x :: l, f + 1, k, h, hk, hc => by
    have hx := hc x (by simp)
    have ih := getF_puts hb l f (k + 1) (by simpa using h) (by simp at hk; omega) fun y hy => hc y (List.mem_cons_of_mem _ hy)
    have e := getOne_put (chk := chk) (hb x hx) (puts l)
    rw [getF, puts_cons]
    rw [if_neg (by intro h; exact putI_ne x (List.append_eq_nil_iff.1 h).1), if_neg (by simp at hk; omega), e]
    simp only
    rw [if_neg (by rw [hx]; simp), app_drop (putI_len x), ih]

theorem getF_back (hb : ∀ x, chk x = 0 → Bnd x) : ∀ (f k : Nat) (b : List Nat) (l : List Ins), b.length ≤ f → k ≤ 256 → (∀ c ∈ b, c < 256) → getF chk f k b = .ok l → puts l = b ∧ (∀ x ∈ l, chk x = 0) ∧ l.length + k ≤ 256
  | 0, k, b, l, h, hk, _, e => by
    have : b = [] := List.eq_nil_of_length_eq_zero (by omega)
    subst this
    simp only [getF, Except.ok.injEq] at e
    subst e
    exact ⟨rfl, by simp, by simpa using hk⟩
  | f + 1, k, b, l, h, hk, hlt, e => by
    rw [getF] at e
    by_cases h0 : b = []
    · rw [if_pos h0] at e
      cases e
      exact ⟨by rw [h0]; rfl, by simp, by simpa using hk⟩
    rw [if_neg h0] at e
    by_cases h1 : k = 256
    · rw [if_pos h1] at e; cases e
    rw [if_neg h1] at e
    by_cases h2 : (getOne chk b).2.2 ≠ 0
    · rw [if_pos h2] at e; cases e
    rw [if_neg h2] at e
    generalize hg : getOne chk b = g at *
    obtain ⟨x, n, r⟩ := g
    simp only at e h2
    have hr : r = 0 := by omega
    subst hr
    obtain ⟨e1, e2, e3, e4⟩ := getOne_back hlt hg
    split at e
    · rename_i l' hl'
      cases e
      have hp := sizI_pos x
      have ih := getF_back hb f (k + 1) (b.drop n) l' (by rw [List.length_drop]; omega) (by omega) (fun c hc => hlt c (List.mem_of_mem_drop hc)) hl'
      refine ⟨?_, ?_, ?_⟩
      · rw [puts_cons, ih.1, ← e3, List.take_append_drop]
      · intro y hy
        rcases List.mem_cons.1 hy with rfl | hy
        · exact e4
        · exact ih.2.1 y hy
      · have := ih.2.2; simp; omega
    · cases e

/-- Cut anywhere: some of the first ones, or short. -/
theorem getF_cut (hb : ∀ x, chk x = 0 → Bnd x) : ∀ (l : List Ins) (f k c : Nat), l.length ≤ f → l.length + k ≤ 256 → (∀ x ∈ l, chk x = 0) → c ≤ (puts l).length →
    (∃ j, j ≤ l.length ∧ getF chk f k ((puts l).take c) = .ok (l.take j) ∧ (puts (l.take j)) = (puts l).take c) ∨ getF chk f k ((puts l).take c) = .error 20
  | [], f, k, c, _, _, _, _ => by
    left
    refine ⟨0, Nat.le_refl _, ?_, by simp [puts]⟩
    cases f with
    | zero => simp [getF]
    | succ f => simp [getF, puts]
  | x :: l, 0, k, c, h, _, _, _ => by simp at h
  | x :: l, f + 1, k, c, h, hk, hc, hcl => by
    have hx := hc x (by simp)
    rw [puts_cons] at hcl ⊢
    have hl := putI_len x
    have hsz := sizI_pos x
    rw [List.length_append, hl] at hcl
    by_cases h0 : c = 0
    · subst h0
      left
      refine ⟨0, by omega, ?_, by simp [puts]⟩
      simp [getF]
    by_cases h1 : c < sizI x
    · right
      rw [getF, getOne_short (hb x hx) _ h1]
      have : ¬ (putI x ++ puts l).take c = [] := by
        intro hn
        have := congrArg List.length hn
        rw [List.length_take, List.length_append, hl] at this
        simp at this; omega
      rw [if_neg this, if_neg (by simp at hk; omega)]
      simp
    · have e : (putI x ++ puts l).take c = putI x ++ (puts l).take (c - sizI x) := by
        rw [List.take_append, hl, List.take_of_length_le (by omega)]
      rw [e]
      have g := getOne_put (chk := chk) (hb x hx) ((puts l).take (c - sizI x))
      have hne : ¬ putI x ++ (puts l).take (c - sizI x) = [] := by intro h; exact putI_ne x (List.append_eq_nil_iff.1 h).1
      have ih := getF_cut hb l f (k + 1) (c - sizI x) (by simpa using h) (by simp at hk; omega) (fun y hy => hc y (List.mem_cons_of_mem _ hy)) (by omega)
      rw [getF, if_neg hne, if_neg (by simp at hk; omega), g]
      simp only
      rw [if_neg (by rw [hx]; simp), app_drop hl]
      rcases ih with ⟨j, hj, i1, i2⟩ | ih
      · left
        refine ⟨j + 1, by simpa using hj, ?_, ?_⟩
        · rw [i1]; simp
        · simp only [List.take_succ_cons]; rw [puts_cons, i2]
      · right
        rw [ih]
end Go.Proofs.Ytmgkngdbphkmmaa

/-
  The table of opcodes, without the program: the code's rows, the document's rows; what is wrong with an instruction.
-/
namespace Go.Proofs.Ytmgkngdbphkmmaa
set_option linter.unusedVariables false

/-- A row: the fields that it names, from where to where Imm is, whether Dst is written, what else must be (0: nothing, 1: turns, 2: wide, 3: atomic). -/
structure Rw where
  d : Bool
  s : Bool
  o : Bool
  i : Bool
  low : Int
  high : Int
  wr : Bool
  only : Nat
 deriving DecidableEq

abbrev RT := List (Int × Rw)
def rput : RT → Int → Rw → RT
  | [], k, r => [(k, r)]
  | (a, u) :: l, k, r => if a = k then (k, r) :: l else (a, u) :: rput l k r
def rget : RT → Int → Option Rw
  | [], _ => none
  | (a, u) :: l, k => if a = k then some u else rget l k
def rputs (l : RT) (r : Rw) (ops : List Int) : RT := ops.foldl (fun l k => rput l k r) l

def h31 : Int := 2147483648
def rNeg : Rw := ⟨true, false, false, false, -2147483648, 2147483647, true, 0⟩
def rImm : Rw := ⟨true, false, false, true, -2147483648, 2147483647, true, 0⟩
def rSrc : Rw := ⟨true, true, false, false, -2147483648, 2147483647, true, 0⟩
def rShf (most : Int) : Rw := ⟨true, false, false, true, 0, most, true, 0⟩

/-- One operation of a class. -/
def aluOne (l : RT) (cls : Int) (j : Nat) : RT :=
  let op : Int := 16 * j
  if op = 128 then rputs l rNeg [op + cls]
  else rputs (rputs l (if op = 96 ∨ op = 112 ∨ op = 192 then rShf (if cls = 7 then 63 else 31) else rImm) [op + cls]) rSrc [op + 8 + cls]
def aluN (l : RT) (cls : Int) : Nat → RT
  | 0 => l
  | j + 1 => aluOne (aluN l cls j) cls j
def rTurn : Rw := ⟨true, false, false, true, -2147483648, 2147483647, true, 1⟩
def alusT (l : RT) : RT := rputs (aluN (aluN l 4 13) 7 13) rTurn [212, 220]

def rJmpI : Rw := ⟨true, false, true, true, -2147483648, 2147483647, false, 0⟩
def rJmpS : Rw := ⟨true, true, true, false, -2147483648, 2147483647, false, 0⟩
def jmps : List Int := [16, 32, 48, 64, 80, 96, 112, 160, 176, 192, 208]
def jmpN (l : RT) : List Int → RT
  | [] => l
  | op :: ops => jmpN (rputs (rputs l rJmpI [op + 5, op + 6]) rJmpS [op + 8 + 5, op + 8 + 6]) ops
def rMem (op : Int) (l : RT) : RT :=
  rputs (rputs (rputs l ⟨true, true, true, false, -2147483648, 2147483647, true, 0⟩ [96 + op + 1]) ⟨true, false, true, true, -2147483648, 2147483647, false, 0⟩ [96 + op + 2]) ⟨true, true, true, false, -2147483648, 2147483647, false, 0⟩ [96 + op + 3]
def memN (l : RT) : List Int → RT
  | [] => l
  | op :: ops => memN (rMem op l) ops
def half4 (l : RT) : RT :=
  rputs (rputs (rputs (rputs l ⟨false, false, true, false, -2147483648, 2147483647, false, 0⟩ [5]) ⟨false, false, false, true, -2147483648, 2147483647, false, 0⟩ [133]) ⟨false, false, false, false, -2147483648, 2147483647, false, 0⟩ [149])
    ⟨true, true, false, true, -9223372036854775808, 9223372036854775807, true, 2⟩ [24]
def rAtom : Rw := ⟨true, true, true, true, -2147483648, 2147483647, false, 3⟩
def tab : RT := rputs (memN (half4 (jmpN (alusT []) jmps)) [0, 8, 16, 24]) rAtom [195, 219]

/-- The document's row. -/
def refRow (op : Int) : Option Rw :=
  let code := op / 16
  let by8 := op / 8 % 2
  let mode := op / 32
  let c := op % 8
  if op < 0 ∨ op > 255 then none
  else if c = 4 ∨ c = 7 then
    (if code = 13 then (if c = 4 then some rTurn else none)
     else if code > 12 then none
     else if code = 8 then (if by8 = 1 then none else some rNeg)
     else if by8 = 1 then some rSrc
     else if code = 6 ∨ code = 7 ∨ code = 12 then some (rShf (if c = 7 then 63 else 31))
     else some rImm)
  else if c = 5 ∨ c = 6 then
    (if op = 5 then some ⟨false, false, true, false, -2147483648, 2147483647, false, 0⟩
     else if op = 133 then some ⟨false, false, false, true, -2147483648, 2147483647, false, 0⟩
     else if op = 149 then some ⟨false, false, false, false, -2147483648, 2147483647, false, 0⟩
     else if 1 ≤ code ∧ code ≤ 7 ∨ 10 ≤ code ∧ code ≤ 13 then some (if by8 = 1 then rJmpS else rJmpI) else none)
  else if c = 0 then (if op = 24 then some ⟨true, true, false, true, -9223372036854775808, 9223372036854775807, true, 2⟩ else none)
  else if c = 1 then (if mode = 3 then some ⟨true, true, true, false, -2147483648, 2147483647, true, 0⟩ else none)
  else if c = 2 then (if mode = 3 then some ⟨true, false, true, true, -2147483648, 2147483647, false, 0⟩ else none)
  else (if mode = 3 then some ⟨true, true, true, false, -2147483648, 2147483647, false, 0⟩ else if op = 195 ∨ op = 219 then some rAtom else none)

theorem rget_none : ∀ (l : RT) (k : Int), (∀ p ∈ l, p.1 ≠ k) → rget l k = none
  | [], _, _ => rfl
  | (a, u) :: l, k, h => by
    rw [rget, if_neg (h (a, u) (by simp))]
    exact rget_none l k fun p hp => h p (List.mem_cons_of_mem _ hp)

theorem tab_keys : (tab.all fun p => decide (0 ≤ p.1 ∧ p.1 ≤ 255)) = true := by decide +kernel
theorem tab_row (op : Int) : rget tab op = refRow op := by
  by_cases h : op < 0 ∨ op > 255
  · have e : refRow op = none := by unfold refRow; simp only; rw [if_pos h]
    rw [e]
    refine rget_none _ _ fun p hp hk => ?_
    have := List.all_eq_true.1 tab_keys p hp
    simp only [decide_eq_true_eq] at this
    omega
  · have all : ∀ j : Fin 256, rget tab ((j : Nat) : Int) = refRow ((j : Nat) : Int) := by decide +kernel
    obtain ⟨n, rfl⟩ := Int.eq_ofNat_of_zero_le (show 0 ≤ op by omega)
    exact all ⟨n, by omega⟩

def isAtom (imm : Int) : Bool := imm = 0 ∨ imm = 64 ∨ imm = 80 ∨ imm = 160 ∨ imm = 1 ∨ imm = 65 ∨ imm = 81 ∨ imm = 161 ∨ imm = 225 ∨ imm = 241
def fetches (imm : Int) : Bool := imm = 1 ∨ imm = 65 ∨ imm = 81 ∨ imm = 161 ∨ imm = 225 ∨ imm = 241
def onlyI (n : Nat) (x : Ins) : Bool :=
  if n = 0 then true else if n = 1 then x.imm = 16 ∨ x.imm = 32 ∨ x.imm = 64 else if n = 2 then x.src = 0 ∨ 0 ≤ x.imm ∧ x.imm ≤ 2147483647 else isAtom x.imm

/-- What is wrong with an instruction. -/
def chkI (x : Ins) : Int :=
  match refRow x.op with
  | none => 7
  | some r =>
    if ¬ (0 ≤ x.dst ∧ x.dst ≤ 10 ∧ 0 ≤ x.src ∧ x.src ≤ 10 ∧ ¬ (r.wr = true ∧ x.dst = 10) ∧ ¬ ((x.op = 195 ∨ x.op = 219) ∧ fetches x.imm = true ∧ x.src = 10)) then 8
    else if (r.d = false ∧ x.dst ≠ 0) ∨ (r.s = false ∧ x.src ≠ 0) ∨ (r.o = false ∧ x.off ≠ 0) ∨ (r.i = false ∧ x.imm ≠ 0) ∨ (x.op = 24 ∧ x.src > 1) then 9
    else if x.off < -32768 ∨ x.off > 32767 ∨ x.imm < r.low ∨ x.imm > r.high ∨ onlyI r.only x = false then 10
    else 0

theorem row_bd {op : Int} {r : Rw} (h : refRow op = some r) : 0 ≤ op ∧ op ≤ 255 ∧ (op ≠ 24 → -2147483648 ≤ r.low ∧ r.high ≤ 2147483647) ∧ -9223372036854775808 ≤ r.low ∧ r.high ≤ 9223372036854775807 := by
  by_cases hb : op < 0 ∨ op > 255
  · unfold refRow at h; simp only at h; rw [if_pos hb] at h; cases h
  · have all : ∀ j : Fin 256, (match refRow ((j : Nat) : Int) with | none => true | some r => decide ((((j : Nat) : Int) ≠ 24 → -2147483648 ≤ r.low ∧ r.high ≤ 2147483647) ∧ -9223372036854775808 ≤ r.low ∧ r.high ≤ 9223372036854775807)) = true := by decide +kernel
    obtain ⟨n, rfl⟩ := Int.eq_ofNat_of_zero_le (show 0 ≤ op by omega)
    have := all ⟨n, by omega⟩
    simp only [h, decide_eq_true_eq] at this
    exact ⟨by omega, by omega, this⟩

theorem chk_bnd (x : Ins) (h : chkI x = 0) : Bnd x := by
  unfold chkI at h
  cases hr : refRow x.op with
  | none => rw [hr] at h; cases h
  | some r =>
    rw [hr] at h
    simp only at h
    obtain ⟨b1, b2, b3, b4⟩ := row_bd hr
    split at h
    · cases h
    · rename_i h1
      simp only [Classical.not_not] at h1
      split at h
      · cases h
      · split at h
        · cases h
        · rename_i h3
          refine ⟨⟨b1, b2⟩, by omega, by omega, by omega, fun h => ?_, by omega⟩
          have := b3 h; omega
end Go.Proofs.Ytmgkngdbphkmmaa

/-
  Instructions: what the table's and the check's functions do.
-/
namespace Go.Proofs.Ytmgkngdbphkmmaa
open Go Go.AS Go.RowKit
set_option linter.unusedVariables false
variable {H H' : Heap} {R : Value → Heap → Prop} {L : List Asr} {b : Nat} {l : RT}

abbrev I (n : Int) : Value := .int .i64 n

/-- The program's variables. -/
abbrev gHalf : List Value := [I (-2147483648), I 2147483647]
abbrev gAtom : List Value := [I 0, I 64, I 80, I 160, I 1, I 65, I 81, I 161, I 225, I 241]
abbrev gh : Asr := bx 0 (.cells false 0 gHalf)
abbrev ga : Asr := bx 1 (.cells false 0 gAtom)

abbrev opsb (a : Nat) (ops : List Int) : Asr := bx a (.cells true 1 (ops.map fun o => I o))

theorem or_alu : ∀ j : Fin 13, ∀ c : Fin 8, IntKind.i64.wrap ((BitVec.ofInt 64 (16 * ((j : Nat) : Int)) ||| (BitVec.ofInt 64 ((c : Nat) : Int))).toNat : Int) = 16 * ((j : Nat) : Int) + ((c : Nat) : Int) := by decide +kernel
theorem or_alu8 : ∀ j : Fin 13, ∀ c : Fin 8, IntKind.i64.wrap ((BitVec.ofInt 64 (IntKind.i64.wrap ((BitVec.ofInt 64 (16 * ((j : Nat) : Int)) ||| (BitVec.ofInt 64 8)).toNat : Int)) ||| (BitVec.ofInt 64 ((c : Nat) : Int))).toNat : Int) = 16 * ((j : Nat) : Int) + 8 + ((c : Nat) : Int) := by decide +kernel

/-! ### Alu's rows -/
theorem alu_neg (l : RT) (c : Int) {j : Nat} (h : 16 * (j : Int) = 128) : aluOne l c j = rputs l rNeg [16 * (j : Int) + c] := by
  unfold aluOne; simp only; rw [if_pos h]
theorem alu_shf (l : RT) (c : Int) {j : Nat} (h0 : ¬ 16 * (j : Int) = 128) (h : 16 * (j : Int) = 96 ∨ 16 * (j : Int) = 112 ∨ 16 * (j : Int) = 192) : aluOne l c j = rputs (rputs l (rShf (if c = 7 then 63 else 31)) [16 * (j : Int) + c]) rSrc [16 * (j : Int) + 8 + c] := by
  unfold aluOne; simp only; rw [if_neg h0, if_pos h]
theorem alu_imm (l : RT) (c : Int) {j : Nat} (h0 : ¬ 16 * (j : Int) = 128) (h : ¬ (16 * (j : Int) = 96 ∨ 16 * (j : Int) = 112 ∨ 16 * (j : Int) = 192)) : aluOne l c j = rputs (rputs l rImm [16 * (j : Int) + c]) rSrc [16 * (j : Int) + 8 + c] := by
  unfold aluOne; simp only; rw [if_neg h0, if_neg h]
def outT (l : RT) : Nat → RT
  | 0 => l
  | 1 => aluN l 4 13
  | _ => aluN (aluN l 4 13) 7 13

theorem or_jmp : ∀ j : Fin 11, ∀ c : Fin 8, IntKind.i64.wrap ((BitVec.ofInt 64 (jmps.getD j 0) ||| (BitVec.ofInt 64 ((c : Nat) : Int))).toNat : Int) = jmps.getD j 0 + ((c : Nat) : Int) ∧ IntKind.i64.wrap ((BitVec.ofInt 64 (IntKind.i64.wrap ((BitVec.ofInt 64 (jmps.getD j 0) ||| (BitVec.ofInt 64 8)).toNat : Int)) ||| (BitVec.ofInt 64 ((c : Nat) : Int))).toNat : Int) = jmps.getD j 0 + 8 + ((c : Nat) : Int) := by decide +kernel
def mems : List Int := [0, 8, 16, 24]
theorem or_mem : ∀ j : Fin 4, ∀ c : Fin 4, IntKind.i64.wrap ((BitVec.ofInt 64 (IntKind.i64.wrap ((BitVec.ofInt 64 96 ||| (BitVec.ofInt 64 (mems.getD j 0))).toNat : Int)) ||| (BitVec.ofInt 64 ((c : Nat) : Int))).toNat : Int) = 96 + mems.getD j 0 + ((c : Nat) : Int) := by decide +kernel

theorem jmpN_snoc : ∀ (l : RT) (ops : List Int) (op : Int), jmpN l (ops ++ [op]) = rputs (rputs (jmpN l ops) rJmpI [op + 5, op + 6]) rJmpS [op + 8 + 5, op + 8 + 6]
  | l, [], op => rfl
  | l, a :: ops, op => by
    show jmpN _ (ops ++ [op]) = _
    rw [jmpN_snoc]; rfl
theorem memN_snoc : ∀ (l : RT) (ops : List Int) (op : Int), memN l (ops ++ [op]) = rMem op (memN l ops)
  | l, [], op => rfl
  | l, a :: ops, op => by
    show memN _ (ops ++ [op]) = _
    rw [memN_snoc]; rfl
theorem take_snoc {ops : List Int} {j : Nat} (h : j < ops.length) : ops.take (j + 1) = ops.take j ++ [ops.getD j 0] := by
  rw [List.take_add_one, List.getD_eq_getElem?_getD, List.getElem?_eq_getElem h]; rfl

theorem aluN_zero (l : RT) (c : Int) : aluN l c 0 = l := rfl
theorem aluN_succ (l : RT) (c : Int) (j : Nat) : aluN l c (j + 1) = aluOne (aluN l c j) c j := rfl
theorem outT_z (l : RT) : outT l 0 = l := rfl
theorem outT_0 (l : RT) : outT l (0 + 1) = aluN l 4 13 := rfl
theorem outT_1 (l : RT) : outT l (1 + 1) = aluN (aluN l 4 13) 7 13 := rfl
theorem alusT_eq (l : RT) : alusT l = rputs (outT l 2) rTurn [212, 220] := rfl
theorem jmps_map : (jmps.map fun o => I o) = [I 16, I 32, I 48, I 64, I 80, I 96, I 112, I 160, I 176, I 192, I 208] := rfl
theorem mems_map : (mems.map fun o => I o) = [I 0, I 8, I 16, I 24] := rfl
theorem jmps_len : jmps.length = 11 := rfl
theorem mems_len : mems.length = 4 := rfl
theorem jmps_all : jmps.take 11 = jmps := rfl
theorem mems_all : mems.take 4 = mems := rfl
theorem jmpN_nil (l : RT) : jmpN l [] = l := rfl
theorem memN_nil (l : RT) : memN l [] = l := rfl
theorem half4_eq (l : RT) : half4 l = rputs (rputs (rputs (rputs l ⟨false, false, true, false, -2147483648, 2147483647, false, 0⟩ [5]) ⟨false, false, false, true, -2147483648, 2147483647, false, 0⟩ [133]) ⟨false, false, false, false, -2147483648, 2147483647, false, 0⟩ [149])
    ⟨true, true, false, true, -9223372036854775808, 9223372036854775807, true, 2⟩ [24] := rfl
theorem rMem_eq (op : Int) (l : RT) : rMem op l = rputs (rputs (rputs l ⟨true, true, true, false, -2147483648, 2147483647, true, 0⟩ [96 + op + 1]) ⟨true, false, true, true, -2147483648, 2147483647, false, 0⟩ [96 + op + 2]) ⟨true, true, true, false, -2147483648, 2147483647, false, 0⟩ [96 + op + 3] := rfl
theorem tab_eq : tab = rputs (memN (half4 (jmpN (alusT []) jmps)) mems) rAtom [195, 219] := rfl
attribute [local irreducible] rput rputs aluN aluOne outT jmpN memN half4 alusT rMem tab jmps mems

/-! ### The table -/
end Go.Proofs.Ytmgkngdbphkmmaa

/-
  What is wrong with an instruction: the code's check answers chkI.
-/
namespace Go.Proofs.Ytmgkngdbphkmmaa
open Go Go.AS Go.RowKit
set_option linter.unusedVariables false
variable {H H' : Heap} {R : Value → Heap → Prop} {L : List Asr} {b : Nat} {l : RT} {x : Ins} {r : Rw}

abbrev Ins.val (x : Ins) : Value := .agg #[I x.op, I x.dst, I x.src, I x.off, I x.imm]
abbrev Ins.cells (x : Ins) : List Value := [I x.op, I x.dst, I x.src, I x.off, I x.imm]

theorem contains_s {i : Nat} {w : Bool} {z : Nat} {xs : List Int} {v : Int} (hl : xs.length < 4611686018427387904) (h : H.get i = some (.cells w z (xs.map fun o => I o))) (hR : R (.bool (decide (v ∈ xs))) H) :
    CA en F.slices_Contains_int_int [.slice (some ⟨i, 0, none⟩) xs.length 0, I v] H R := by
  apply vc_slices_Contains_int_int
  apply vc_slices_Index_int_int
  refine use_slices_Index_int_int_0 (fun k t4 t8 H' => ∃ j : Nat, j ≤ xs.length ∧ k = xs.length - j ∧ t8 = (j : Int) ∧ H' = H ∧ v ∉ xs.take j) xs.length ⟨0, by omega, rfl, rfl, rfl, by simp⟩ ?_
  rintro k t4 t8 ys H' ⟨j, hj, rfl, rfl, rfl, hn⟩
  refine cond_of (fun h1 => ?_) fun h1 => ?_
  · simp only [decide_eq_true_eq] at h1
    have hj' : j < xs.length := by omega
    refine ⟨by unfold inB; omega, asRow_in ⟨xs[j], by rw [cell_of h]; simp [List.getElem?_eq_getElem hj'], cond_of (fun e => ?_) fun e => ?_⟩⟩
    · have e : v = xs[j] := by simpa using e
      refine asInt_in ⟨_, rfl, ?_⟩
      have : decide (v ∈ xs) = true := decide_eq_true (by rw [e]; exact List.getElem_mem _)
      rw [this] at hR
      have e2 : decide (((j : Nat) : Int) ≥ 0) = true := by simp
      rw [e2]
      exact hR
    · have e : ¬ v = xs[j] := by simpa using e
      refine ⟨xs.length - (j + 1), by omega, j + 1, by omega, rfl, ?_, rfl, ?_⟩
      · rw [wrap_i64 (by omega)]; omega
      · rw [List.take_add_one, List.getElem?_eq_getElem hj']
        simp only [Option.toList_some, List.mem_append, List.mem_singleton, not_or]
        exact ⟨hn, e⟩
  · simp only [decide_eq_false_iff_not] at h1
    obtain rfl : j = xs.length := by omega
    rw [List.take_length] at hn
    refine asInt_in ⟨_, rfl, ?_⟩
    rw [decide_eq_false hn] at hR
    exact hR

theorem fetch_and (imm : Int) : (isAtom imm && (IntKind.i64.wrap ((BitVec.ofInt 64 imm &&& (BitVec.ofInt 64 1)).toNat : Int) == 1)) = fetches imm := by
  by_cases h : imm = 0 ∨ imm = 64 ∨ imm = 80 ∨ imm = 160 ∨ imm = 1 ∨ imm = 65 ∨ imm = 81 ∨ imm = 161 ∨ imm = 225 ∨ imm = 241
  · rcases h with rfl | rfl | rfl | rfl | rfl | rfl | rfl | rfl | rfl | rfl <;> decide
  · have e1 : isAtom imm = false := decide_eq_false h
    have e2 : fetches imm = false := decide_eq_false fun h' => h (by omega)
    rw [e1, e2]; rfl

theorem atom_mem (imm : Int) : decide (imm ∈ [0, 64, 80, 160, 1, 65, 81, 161, 225, (241 : Int)]) = isAtom imm := by
  unfold isAtom
  simp only [List.mem_cons, List.not_mem_nil, or_false]

/-- What a row asks of registers. -/
def opA (op : Int) : Bool := (IntKind.i64.wrap ((BitVec.ofInt 64 op &&& (BitVec.ofInt 64 7)).toNat : Int) == 3) && (IntKind.i64.wrap ((BitVec.ofInt 64 op &&& (BitVec.ofInt 64 224)).toNat : Int) == 192)
def regI (r : Rw) (x : Ins) : Bool := decide (0 ≤ x.dst ∧ x.dst ≤ 10 ∧ 0 ≤ x.src ∧ x.src ≤ 10 ∧ ¬ (r.wr = true ∧ x.dst = 10) ∧ ¬ (opA x.op = true ∧ fetches x.imm = true ∧ x.src = 10))
def oddI (r : Rw) (x : Ins) : Bool := decide ((r.d = false ∧ x.dst ≠ 0) ∨ (r.s = false ∧ x.src ≠ 0) ∨ (r.o = false ∧ x.off ≠ 0) ∨ (r.i = false ∧ x.imm ≠ 0))

theorem asFnNil_func {f : Fn} {fs cs : Array Value} {K : Bool → Prop} (h : K false) : asFnNil (.func f fs cs) K := h
theorem asFnNil_nil {K : Bool → Prop} (h : K true) : asFnNil .nilFunc K := h

theorem row_more {op : Int} {r : Rw} (h : refRow op = some r) : opA op = decide (op = 195 ∨ op = 219) ∧ (r.only = 0 ∨ r.only = 1 ∨ r.only = 2 ∨ r.only = 3) := by
  have hb := row_bd h
  have all : ∀ j : Fin 256, (match refRow ((j : Nat) : Int) with | none => true | some r => decide (opA ((j : Nat) : Int) = decide (((j : Nat) : Int) = 195 ∨ ((j : Nat) : Int) = 219) ∧ (r.only = 0 ∨ r.only = 1 ∨ r.only = 2 ∨ r.only = 3))) = true := by decide +kernel
  obtain ⟨n, rfl⟩ := Int.eq_ofNat_of_zero_le hb.1
  have := all ⟨n, by omega⟩
  simp only [h, decide_eq_true_eq] at this
  exact this

theorem chk_some {r : Rw} (h : refRow x.op = some r) : chkI x = if regI r x = false then 8 else if oddI r x = true ∨ (x.op = 24 ∧ x.src > 1) then 9
    else if x.off < -32768 ∨ x.off > 32767 ∨ (x.imm < r.low ∨ x.imm > r.high) ∨ onlyI r.only x = false then 10 else 0 := by
  unfold chkI
  rw [h]
  have ha := (row_more h).1
  simp only
  have e1 : (regI r x = false) ↔ ¬ (0 ≤ x.dst ∧ x.dst ≤ 10 ∧ 0 ≤ x.src ∧ x.src ≤ 10 ∧ ¬ (r.wr = true ∧ x.dst = 10) ∧ ¬ ((x.op = 195 ∨ x.op = 219) ∧ fetches x.imm = true ∧ x.src = 10)) := by
    unfold regI
    rw [decide_eq_false_iff_not, ha, decide_eq_true_eq]
  have e2 : (oddI r x = true ∨ (x.op = 24 ∧ x.src > 1)) ↔ ((r.d = false ∧ x.dst ≠ 0) ∨ (r.s = false ∧ x.src ≠ 0) ∨ (r.o = false ∧ x.off ≠ 0) ∨ (r.i = false ∧ x.imm ≠ 0) ∨ (x.op = 24 ∧ x.src > 1)) := by
    unfold oddI
    rw [decide_eq_true_eq]
    constructor
    · rintro ((h | h | h | h) | h)
      · exact .inl h
      · exact .inr (.inl h)
      · exact .inr (.inr (.inl h))
      · exact .inr (.inr (.inr (.inl h)))
      · exact .inr (.inr (.inr (.inr h)))
    · rintro (h | h | h | h | h)
      · exact .inl (.inl h)
      · exact .inl (.inr (.inl h))
      · exact .inl (.inr (.inr (.inl h)))
      · exact .inl (.inr (.inr (.inr h)))
      · exact .inr h
  have e3 : (x.off < -32768 ∨ x.off > 32767 ∨ (x.imm < r.low ∨ x.imm > r.high) ∨ onlyI r.only x = false) ↔ (x.off < -32768 ∨ x.off > 32767 ∨ x.imm < r.low ∨ x.imm > r.high ∨ onlyI r.only x = false) := by
    rw [or_assoc]
  by_cases c1 : regI r x = false
  · rw [if_pos c1, if_pos (e1.1 c1)]
  · rw [if_neg c1, if_neg (fun h => c1 (e1.2 h))]
    by_cases c2 : oddI r x = true ∨ (x.op = 24 ∧ x.src > 1)
    · rw [if_pos c2, if_pos (e2.1 c2)]
    · rw [if_neg c2, if_neg (fun h => c2 (e2.2 h))]
      by_cases c3 : x.off < -32768 ∨ x.off > 32767 ∨ (x.imm < r.low ∨ x.imm > r.high) ∨ onlyI r.only x = false
      · rw [if_pos c3, if_pos (e3.1 c3)]
      · rw [if_neg c3, if_neg (fun h => c3 (e3.2 h))]

end Go.Proofs.Ytmgkngdbphkmmaa

/-
  Bytes of numbers in memory: word.Get, word.Put, insn.number.
-/
namespace Go.Proofs.Ytmgkngdbphkmmaa
open Go Go.AS Go.RowKit
set_option linter.unusedVariables false
variable {H H' : Heap} {R : Value → Heap → Prop} {L : List Asr} {i z o n at' size : Nat} {w : Bool} {c : List Value}

abbrev Y (b : Nat) : Value := .int .u8 (b : Int)

theorem wrap_i64' (n : Int) : IntKind.i64.wrap n = if 9223372036854775808 ≤ n % 18446744073709551616 then n % 18446744073709551616 - 18446744073709551616 else n % 18446744073709551616 := by
  show (let m := n % (2 ^ IntKind.i64.bits : Int); if (IntKind.i64.signed && decide (m ≥ (2 ^ (IntKind.i64.bits - 1) : Int))) = true then m - (2 ^ IntKind.i64.bits : Int) else m) = _
  have h1 : (2 ^ IntKind.i64.bits : Int) = 18446744073709551616 := rfl
  have h2 : (2 ^ (IntKind.i64.bits - 1) : Int) = 9223372036854775808 := rfl
  have h3 : IntKind.i64.signed = true := rfl
  rw [h1, h2, h3]
  simp
theorem wrap_u64' (n : Int) : IntKind.u64.wrap n = n % 18446744073709551616 := rfl
theorem wrap_u8' (n : Int) : IntKind.u8.wrap n = n % 256 := rfl

theorem num2 {N : Nat} (h : N < 65536) : Int.fdiv (IntKind.i64.wrap (IntKind.u64.wrap ((N : Int) * 2 ^ (min (IntKind.i64.wrap (64 - (IntKind.i64.wrap (8 * 2)))).toNat 64)))) (2 ^ (min (IntKind.i64.wrap (64 - (IntKind.i64.wrap (8 * 2)))).toNat 64)) = sgn 65536 N := by
  have e : (2 : Int) ^ (min (IntKind.i64.wrap (64 - (IntKind.i64.wrap (8 * 2)))).toNat 64) = 281474976710656 := by decide
  rw [e, Int.fdiv_eq_ediv_of_nonneg _ (by decide), wrap_u64', wrap_i64']
  unfold sgn
  split <;> split <;> omega
theorem num4 {N : Nat} (h : N < 4294967296) : Int.fdiv (IntKind.i64.wrap (IntKind.u64.wrap ((N : Int) * 2 ^ (min (IntKind.i64.wrap (64 - (IntKind.i64.wrap (8 * 4)))).toNat 64)))) (2 ^ (min (IntKind.i64.wrap (64 - (IntKind.i64.wrap (8 * 4)))).toNat 64)) = sgn 4294967296 N := by
  have e : (2 : Int) ^ (min (IntKind.i64.wrap (64 - (IntKind.i64.wrap (8 * 4)))).toNat 64) = 4294967296 := by decide
  rw [e, Int.fdiv_eq_ediv_of_nonneg _ (by decide), wrap_u64', wrap_i64']
  unfold sgn
  split <;> split <;> omega

theorem pow256 (j : Nat) : 2 ^ (8 * j) = 256 ^ j := by rw [Nat.pow_mul]
theorem shift_eq {j : Nat} (hj : j < 8) : min (IntKind.i64.wrap (8 * (j : Int))).toNat 64 = 8 * j := by
  rw [wrap_i64 (by omega)]; omega

theorem or_step {a b j : Nat} (ha : a < 256 ^ j) (hb : b < 256) (hj : j < 8) :
    IntKind.u64.wrap ((BitVec.ofInt 64 (a : Int) ||| (BitVec.ofInt 64 (IntKind.u64.wrap ((IntKind.u64.wrap (b : Int)) * 2 ^ (min (IntKind.i64.wrap (8 * (j : Int))).toNat 64))))).toNat : Int) = ((a + b * 256 ^ j : Nat) : Int) := by
  rw [shift_eq hj]
  have hp : 256 ^ j ≤ 256 ^ 7 := Nat.pow_le_pow_right (by decide) (by omega)
  have p7 : (256 : Nat) ^ 7 = 72057594037927936 := by decide
  have hm : b * 256 ^ j ≤ 255 * 256 ^ j := Nat.mul_le_mul_right _ (by omega)
  have e1 : IntKind.u64.wrap (b : Int) = (b : Int) := by rw [wrap_u64']; omega
  have e2 : (b : Int) * 2 ^ (8 * j) = ((b * 256 ^ j : Nat) : Int) := by
    rw [← pow256]; push_cast; rfl
  rw [e1, e2]
  generalize hq : b * 256 ^ j = q at *
  have e3 : IntKind.u64.wrap (q : Int) = (q : Int) := by rw [wrap_u64']; omega
  rw [e3, BitVec.ofInt_natCast, BitVec.ofInt_natCast, BitVec.toNat_or, BitVec.toNat_ofNat, BitVec.toNat_ofNat, Nat.mod_eq_of_lt (by omega), Nat.mod_eq_of_lt (by omega)]
  have e4 : a ||| q = a + q := by
    have := Nat.shiftLeft_add_eq_or_of_lt (i := 8 * j) (b := a) (by rw [pow256]; exact ha) b
    rw [Nat.shiftLeft_eq, pow256, hq] at this
    rw [Nat.or_comm, ← this, Nat.add_comm]
  rw [e4, wrap_u64']
  omega

theorem leNum_snoc : ∀ (l : List Nat) (b : Nat), leNum (l ++ [b]) = leNum l + b * 256 ^ l.length
  | [], b => by simp [leNum]
  | a :: l, b => by
    simp only [List.cons_append, leNum, leNum_snoc l b, List.length_cons, Nat.pow_succ]
    rw [Nat.mul_add, Nat.add_assoc]
    congr 2
    rw [Nat.mul_comm (256 ^ l.length) 256, ← Nat.mul_assoc, ← Nat.mul_assoc, Nat.mul_comm b 256]

/-- The bytes that lie there. -/
def Bytes (c : List Value) (p : Nat) (bs : List Nat) : Prop := ∀ k b, bs[k]? = some b → c[p + k]? = some (Y b)

/-! ### Put -/
abbrev upd (c : List Value) (p : Nat) (l : List Value) : List Value := setAt c p l
theorem upd_snoc : ∀ (l : List Value) (c : List Value) (p : Nat) (v : Value), upd c p (l ++ [v]) = (upd c p l).set (p + l.length) v
  | [], c, p, v => rfl
  | a :: l, c, p, v => by
    show upd (c.set p a) (p + 1) (l ++ [v]) = _
    rw [upd_snoc l]
    show _ = (upd (c.set p a) (p + 1) l).set (p + (l.length + 1)) v
    rw [show p + 1 + l.length = p + (l.length + 1) by omega]
theorem upd_len : ∀ (l : List Value) (c : List Value) (p : Nat), (upd c p l).length = c.length
  | [], c, p => rfl
  | a :: l, c, p => by
    show (upd (c.set p a) (p + 1) l).length = _
    rw [upd_len l, List.length_set]

theorem le_get : ∀ (n V k : Nat), k < n → (le n V)[k]? = some (V / 256 ^ k % 256)
  | 0, V, k, h => by omega
  | n + 1, V, 0, _ => by simp [le]
  | n + 1, V, k + 1, h => by
    simp only [le, List.getElem?_cons_succ]
    rw [le_get n (V / 256) k (by omega), Nat.div_div_eq_div_mul, Nat.pow_succ, Nat.mul_comm 256]

theorem setAt_one (c : List Value) (p : Nat) (v : Value) (h : p < c.length) : setAt c p [v] = c.set p v := rfl

end Go.Proofs.Ytmgkngdbphkmmaa

/-
  Instructions as bytes: insn.Put answers puts.
-/
namespace Go.Proofs.Ytmgkngdbphkmmaa
open Go Go.AS Go.RowKit
set_option linter.unusedVariables false
variable {H H' : Heap} {R : Value → Heap → Prop} {L : List Asr}

def firstE : List Ins → Int
  | [] => 0
  | x :: l => if chkI x ≠ 0 then chkI x else firstE l
def putErr (l : List Ins) : Int := if l.length > 256 then 19 else firstE l

theorem firstE_zero : ∀ {l : List Ins}, firstE l = 0 ↔ ∀ x ∈ l, chkI x = 0
  | [] => by simp [firstE]
  | x :: l => by
    simp only [firstE, List.mem_cons, forall_eq_or_imp]
    split
    · rename_i h; exact ⟨fun h' => absurd h' h, fun h' => absurd h'.1 h⟩
    · rename_i h
      rw [firstE_zero]
      simp only [ne_eq, Classical.not_not] at h
      exact ⟨fun h' => ⟨h, h'⟩, fun h' => h'.2⟩

theorem drop_cons {α : Type} {l : List α} {j : Nat} {x : α} (h : l[j]? = some x) : l.drop j = x :: l.drop (j + 1) := by
  obtain ⟨hj, e⟩ := List.getElem?_eq_some_iff.1 h
  rw [List.drop_eq_getElem_cons hj, e]
theorem take_snoc' {α : Type} {l : List α} {j : Nat} {x : α} (h : l[j]? = some x) : l.take (j + 1) = l.take j ++ [x] := by
  rw [List.take_add_one, h]; rfl

/-- Where the instructions of a slice lie. -/
def Rds (L : List Asr) (a : Option Addr) (l : List Ins) : Prop :=
  ∀ H', Sep H' L → ∀ (j : Nat) x, l[j]? = some x → ∃ i, a = some ⟨i, 0, none⟩ ∧ H'.cellsAt i (0 + j * 5) 5 = some x.cells

theorem byte2 : ∀ s d : Fin 11, IntKind.u8.wrap (IntKind.i64.wrap ((BitVec.ofInt 64 (IntKind.i64.wrap (((s : Nat) : Int) * 16)) ||| (BitVec.ofInt 64 ((d : Nat) : Int))).toNat : Int)) = (((((s : Nat) : Int) * 16 + ((d : Nat) : Int)) % 256).toNat : Int) := by decide +kernel

theorem chk_regs {x : Ins} (h : chkI x = 0) : (0 ≤ x.dst ∧ x.dst ≤ 10) ∧ (0 ≤ x.src ∧ x.src ≤ 10) := by
  unfold chkI at h
  cases hr : refRow x.op with
  | none => rw [hr] at h; cases h
  | some r =>
    rw [hr] at h
    simp only at h
    split at h
    · cases h
    · rename_i h1
      simp only [Classical.not_not] at h1
      omega

theorem putI_n {x : Ins} (h : ¬ x.op = 24) : putI x = [(x.op % 256).toNat, ((x.src * 16 + x.dst) % 256).toNat] ++ (le 2 (u64 x.off) ++ le 4 (u64 x.imm)) := by
  unfold putI; rw [if_neg h]; simp
theorem putI_w {x : Ins} (h : x.op = 24) : putI x = [(x.op % 256).toNat, ((x.src * 16 + x.dst) % 256).toNat] ++ (le 2 (u64 x.off) ++ (le 4 (u64 x.imm) ++ ([0, 0, 0, 0] ++ le 4 (u64 x.imm / 4294967296)))) := by
  unfold putI; rw [if_pos h]

theorem puts_le : ∀ l : List Ins, (puts l).length ≤ 16 * l.length
  | [] => by simp [puts]
  | x :: l => by
    have := puts_le l
    have h2 := sizI_pos x
    rw [puts_cons, List.length_append, putI_len, List.length_cons]; omega
theorem puts_one (x : Ins) : puts [x] = putI x := by simp [puts]

theorem u64_eq (v : Int) : IntKind.u64.wrap v = ((u64 v : Nat) : Int) := by
  rw [wrap_u64']; unfold u64; omega

end Go.Proofs.Ytmgkngdbphkmmaa

/-
  The instruction that bytes begin with: insn.one answers getOne.
-/
namespace Go.Proofs.Ytmgkngdbphkmmaa
open Go Go.AS Go.RowKit
set_option linter.unusedVariables false
variable {H H' : Heap} {R : Value → Heap → Prop} {L : List Asr} {i z o : Nat} {w : Bool} {c : List Value}

theorem byte_parts : ∀ b : Fin 256, IntKind.i64.wrap (IntKind.u8.wrap ((BitVec.ofInt 8 ((b : Nat) : Int) &&& (BitVec.ofInt 8 15)).toNat : Int)) = (((b : Nat) % 16 : Nat) : Int) ∧ IntKind.i64.wrap (Int.fdiv ((b : Nat) : Int) 16) = (((b : Nat) / 16 : Nat) : Int) := by decide +kernel

theorem ofInt_wrap (v : Int) : BitVec.ofInt 64 (IntKind.i64.wrap v) = BitVec.ofInt 64 v := by
  apply BitVec.eq_of_toNat_eq
  rw [BitVec.toNat_ofInt, BitVec.toNat_ofInt, wrap_i64']
  congr 1
  show (_ : Int) % 18446744073709551616 = v % 18446744073709551616
  split <;> omega

theorem wide_imm {lo hi : Nat} (hl : lo < 4294967296) (hh : hi < 4294967296) :
    IntKind.i64.wrap ((BitVec.ofInt 64 (IntKind.i64.wrap (sgn 4294967296 hi * 4294967296)) ||| (BitVec.ofInt 64 (IntKind.i64.wrap (lo : Int)))).toNat : Int) = sgn 18446744073709551616 (lo + 4294967296 * hi) := by
  rw [ofInt_wrap, ofInt_wrap, BitVec.toNat_or, BitVec.toNat_ofInt, BitVec.toNat_ofInt]
  have e1 : ((sgn 4294967296 hi * 4294967296) % ((2 ^ 64 : Nat) : Int)).toNat = hi * 4294967296 := by
    show ((sgn 4294967296 hi * 4294967296) % 18446744073709551616).toNat = _
    unfold sgn
    split <;> omega
  have e2 : ((lo : Int) % ((2 ^ 64 : Nat) : Int)).toNat = lo := by
    show ((lo : Int) % 18446744073709551616).toNat = _
    omega
  rw [e1, e2]
  have e3 : hi * 4294967296 ||| lo = hi * 4294967296 + lo := by
    have := Nat.shiftLeft_add_eq_or_of_lt (i := 32) (b := lo) hl hi
    rw [Nat.shiftLeft_eq] at this
    exact this.symm
  rw [e3, wrap_i64']
  unfold sgn
  split <;> split <;> omega

theorem Bytes.sub {p : Nat} {bs : List Nat} (h : Bytes c p bs) (k n : Nat) : Bytes c (p + k) ((bs.drop k).take n) := by
  intro j b hj
  have h1 : (bs.drop k)[j]? = some b := by
    rw [List.getElem?_take] at hj
    split at hj
    · exact hj
    · cases hj
  rw [List.getElem?_drop] at h1
  rw [Nat.add_assoc]
  exact h (k + j) b h1

theorem same5 (a b c d e : Int) : sameN 8 (.agg #[.int .i64 a, .int .i64 b, .int .i64 c, .int .i64 d, .int .i64 e]) (.agg #[.int .i64 a, .int .i64 b, .int .i64 c, .int .i64 d, .int .i64 e]) = true := by simp [sameN, sameN.sameL]

def in0 : Ins := ⟨0, 0, 0, 0, 0⟩

end Go.Proofs.Ytmgkngdbphkmmaa

/-
  The instructions that bytes are: insn.Get answers getF.
-/
namespace Go.Proofs.Ytmgkngdbphkmmaa
open Go Go.AS Go.RowKit
set_option linter.unusedVariables false
variable {H H' : Heap} {R : Value → Heap → Prop} {L : List Asr} {i z o : Nat} {w : Bool} {c : List Value}

def flatI (l : List Ins) : List Value := (l.map Ins.cells).flatten
theorem flatI_snoc (l : List Ins) (x : Ins) : flatI (l ++ [x]) = flatI l ++ x.cells := by simp [flatI]
theorem flatI_len : ∀ l : List Ins, (flatI l).length = l.length * 5
  | [] => rfl
  | x :: l => by
    have e : flatI (x :: l) = x.cells ++ flatI l := rfl
    rw [e, List.length_append, flatI_len l]
    simp only [List.length_cons, List.length_nil]
    omega

def pre (m : List Ins) : Except Int (List Ins) → Except Int (List Ins)
  | .ok l => .ok (m ++ l)
  | .error e => .error e
theorem pre_nil (r : Except Int (List Ins)) : pre [] r = r := by cases r <;> rfl

theorem Bytes.drop {p : Nat} {bs : List Nat} (h : Bytes c p bs) (k : Nat) : Bytes c (p + k) (bs.drop k) := by
  intro j b hj
  rw [List.getElem?_drop] at hj
  rw [Nat.add_assoc]
  exact h (k + j) b hj

def gets (bs : List Nat) : Except Int (List Ins) := getF chkI bs.length 0 bs

end Go.Proofs.Ytmgkngdbphkmmaa

/-
  Lists of bytes and of instructions: copies, comparisons; the known ones.
-/
namespace Go.Proofs.Ytmgkngdbphkmmaa
open Go Go.AS Go.RowKit
set_option linter.unusedVariables false
variable {H H' : Heap} {R : Value → Heap → Prop} {L M : List Asr} {a b : Option Addr} {cs bs : List Nat} {l m : List Ins}

def RdB (L : List Asr) (a : Option Addr) (bs : List Nat) : Prop :=
  ∀ H', Sep H' L → ∀ (j : Nat) b, bs[j]? = some b → ∃ i, a = some ⟨i, 0, none⟩ ∧ H'.cell i (0 + j * 1) = some (Y b)

theorem flatI_take (l : List Ins) {j : Nat} {x : Ins} (h : l[j]? = some x) : takeAt (flatI l) (j * 5) 5 = some x.cells := by
  have hw : ∀ c ∈ l.map Ins.cells, c.length = 5 := by intro c hc; obtain ⟨y, _, rfl⟩ := List.mem_map.1 hc; rfl
  obtain ⟨hj, e⟩ := List.getElem?_eq_some_iff.1 h
  have := rowsFlat_takeAt hw (j := j) (by simpa using hj)
  rw [List.getElem_map, e] at this
  exact this

theorem rds_gl {q : Option Nat} (hm : gl 5 q (flatI l) ∈ L) (hq : q = none → l = []) : Rds L (addr q) l := by
  intro H' hs j x hx
  cases q with
  | none => rw [hq rfl] at hx; simp at hx
  | some q =>
    have hg : H'.get q = some (.cells true 5 (flatI l)) := (hs.all _ hm) (bx q (.cells true 5 (flatI l))) (by simp)
    exact ⟨q, rfl, by rw [cellsAt_of hg, Nat.zero_add]; exact flatI_take l hx⟩
theorem rds_arg {n : Nat} (ha : Arg a n (l.map Ins.cells) M) (hM : ∀ A ∈ M, A ∈ L) : Rds L a l := by
  intro H' hs j x hx
  have hw : ∀ c ∈ l.map Ins.cells, c.length = 5 := by intro c hc; obtain ⟨y, _, rfl⟩ := List.mem_map.1 hc; rfl
  obtain ⟨hj, e⟩ := List.getElem?_eq_some_iff.1 hx
  obtain ⟨i, h1, h2, _⟩ := ha.row hs hM hw (j := j) (by simpa using hj)
  refine ⟨i, h1, ?_⟩
  rw [List.getElem_map, e] at h2
  exact h2
theorem rdb_gl {q : Option Nat} (hm : gl 1 q (bs.map Y) ∈ L) (hq : q = none → bs = []) : RdB L (addr q) bs := by
  intro H' hs j x hx
  cases q with
  | none => rw [hq rfl] at hx; simp at hx
  | some q =>
    have hg : H'.get q = some (.cells true 1 (bs.map Y)) := (hs.all _ hm) (bx q (.cells true 1 (bs.map Y))) (by simp)
    exact ⟨q, rfl, by rw [cell_of hg, Nat.zero_add, Nat.mul_one, List.getElem?_map, hx]; rfl⟩
theorem rdb_bx {i z : Nat} {w : Bool} {c : List Value} (hm : bx i (.cells w z c) ∈ L) (hc : Bytes c 0 bs) : RdB L (some ⟨i, 0, none⟩) bs := by
  intro H' hs j x hx
  have hg : H'.get i = some (.cells w z c) := hs.all _ hm
  exact ⟨i, rfl, by rw [cell_of hg, Nat.mul_one]; exact hc j x hx⟩

theorem ins_ext (x y : Ins) : ((x.op == y.op) && ((x.dst == y.dst) && ((x.src == y.src) && ((x.off == y.off) && (x.imm == y.imm))))) = decide (x = y) := by
  obtain ⟨a, b, c, d, e⟩ := x
  obtain ⟨a', b', c', d', e'⟩ := y
  rw [Bool.eq_iff_iff]
  simp

/-- An append of any number. -/
theorem apd_any {es : Nat} {q : Option Nat} {cs new : List Value} {bytes len n : Nat} {K : Option Addr → Nat → Heap → Prop} (h : Sep H (gl es q cs :: L)) (hb : q = none → cs = []) (hes : 0 < es) (hlen : cs.length = len * es)
    (hnew : new.length = n * es) (hby : (len + n) * bytes ≤ 140737488355328) (k : ∀ H' q', (q' = none → cs ++ new = []) → Sep H' (gl es q' (cs ++ new) :: L) → K (addr q') (len + n) H') : apd H bytes es (addr q) len n new K := by
  rcases Nat.eq_zero_or_pos n with rfl | hn
  · have e : new = [] := List.eq_nil_of_length_eq_zero (by rw [hnew, Nat.zero_mul])
    subst e
    refine .inl ⟨rfl, ?_⟩
    have := k H q (fun e => by rw [hb e]; rfl)
    rw [List.append_nil] at this
    exact this h
  · exact apd_gl h hb hes hlen hn hnew hby fun H' q' h' => k H' (some q') (fun e => by cases e) h'

theorem rowOf_nil {es : Nat} {q : Option Nat} : rowOf H es (addr q) 0 = some [] := by
  cases q with
  | none => rfl
  | some i =>
    show (if 0 * es = 0 then some [] else match H.get i with | some (.cells _ _ c) => takeAt c 0 (0 * es) | _ => none) = some []
    rw [if_pos (Nat.zero_mul _)]

theorem rowOf_arg {n w : Nat} {css : List (List Value)} (ha : Arg a n css M) (hs : Sep H L) (hM : ∀ A ∈ M, A ∈ L) (hw : ∀ c ∈ css, c.length = w) (h0 : 0 < w) : rowOf H w a n = some css.flatten := by
  cases ha with
  | none => exact rowOf_nil (q := none)
  | some i css =>
    rcases Nat.eq_zero_or_pos css.length with e | e
    · rw [e, List.eq_nil_of_length_eq_zero e]; exact rowOf_nil (q := some i)
    · have hg : H.get i = some (.cells false 0 css.flatten) := hs.all (bx i (.cells false 0 css.flatten)) (hM _ (by simp))
      refine rowOf_bx hg (Nat.mul_pos e h0) ?_
      rw [← rowsFlat_len css hw]
      exact takeAt_all' _

theorem rowOf_gl {es n : Nat} {q : Option Nat} {cs : List Value} (hs : Sep H L) (hm : gl es q cs ∈ L) (hq : q = none → cs = []) (hl : cs.length = n * es) (h0 : 0 < es) : rowOf H es (addr q) n = some cs := by
  rcases Nat.eq_zero_or_pos n with e | e
  · subst e
    rw [List.eq_nil_of_length_eq_zero (l := cs) (by rw [hl, Nat.zero_mul])]; exact rowOf_nil
  · cases q with
    | none =>
      rw [hq rfl] at hl
      have := Nat.mul_pos e h0
      simp only [List.length_nil] at hl
      omega
    | some q =>
      have hg : H.get q = some (.cells true es cs) := (hs.all _ hm) (bx q (.cells true es cs)) (by simp)
      refine rowOf_bx hg (Nat.mul_pos e h0) ?_
      rw [← hl]
      exact takeAt_all' _

/-! ### The known ones -/
end Go.Proofs.Ytmgkngdbphkmmaa

/-
  'crossbarlaw02.InsnBack' returns true: instructions, their bytes, and back.
-/
namespace Go.Proofs.Ytmgkngdbphkmmaa
open Go Go.AS Go.RowKit
set_option linter.unusedVariables false
variable {H H' : Heap} {R : Value → Heap → Prop} {L M : List Asr} {a b : Option Addr} {l m : List Ins}

theorem puts_ge : ∀ l : List Ins, 8 * l.length ≤ (puts l).length
  | [] => by simp
  | x :: l => by
    have := puts_ge l
    have h2 := sizI_pos x
    rw [puts_cons, List.length_append, putI_len, List.length_cons]; omega

theorem gets_puts {l : List Ins} (hl : l.length ≤ 256) (hc : ∀ x ∈ l, chkI x = 0) : gets (puts l) = .ok l :=
  getF_puts chk_bnd l _ 0 (by have := puts_ge l; omega) (by omega) hc

theorem flatI_op (l : List Ins) {j : Nat} {x : Ins} (h : l[j]? = some x) : (flatI l)[j * 5]? = some (I x.op) := by
  have hw : ∀ c ∈ l.map Ins.cells, c.length = 5 := by intro c hc; obtain ⟨y, _, rfl⟩ := List.mem_map.1 hc; rfl
  obtain ⟨hj, e⟩ := List.getElem?_eq_some_iff.1 h
  have := rowsFlat_cell hw (j := j) (k := 0) (by simpa using hj) (by decide)
  rw [List.getElem_map, e, Nat.add_zero] at this
  exact this

theorem flatI_append (l m : List Ins) : flatI (l ++ m) = flatI l ++ flatI m := by simp [flatI]

theorem ins_of : ∀ (css : List (List Value)), (∀ c ∈ css, ∃ x : Ins, c = x.cells) → ∃ l : List Ins, css = l.map Ins.cells
  | [], _ => ⟨[], rfl⟩
  | c :: css, h => by
    obtain ⟨x, rfl⟩ := h c (by simp)
    obtain ⟨l, rfl⟩ := ins_of css fun c hc => h c (List.mem_cons_of_mem _ hc)
    exact ⟨x :: l, rfl⟩

/-- The program's variables, at the outset. -/
theorem sepG (hG : ∀ p ∈ [(0, gHalf), (1, gAtom)], p.1 < H.next ∧ H.get p.1 = some (.cells false 0 p.2)) : Sep H [gh, ga] := by
  have h0 := hG (0, gHalf) (by simp)
  have h1 := hG (1, gAtom) (by simp)
  refine ⟨fun A hA => ?_, by simp [feet, bx], fun i hi => ?_⟩
  · simp only [List.mem_cons, List.not_mem_nil, or_false] at hA
    rcases hA with rfl | rfl
    · exact h0.2
    · exact h1.2
  · simp [feet, bx] at hi
    rcases hi with rfl | rfl
    · exact h0.1
    · exact h1.1

end Go.Proofs.Ytmgkngdbphkmmaa

/-
  'crossbarlaw02.InsnAgain' returns true: what bytes were read as has these bytes; cut they are none.
-/
namespace Go.Proofs.Ytmgkngdbphkmmaa
open Go Go.AS Go.RowKit
set_option linter.unusedVariables false
variable {H H' : Heap} {R : Value → Heap → Prop} {L M : List Asr} {a b : Option Addr} {l m : List Ins}

/-- Bytes that were handed in: none, or a block. -/
def inb (q : Option Nat) (bs : List Nat) : Asr := many (match q with | none => [] | some i => [bx i (.cells false 0 (bs.map Y))])
theorem inb_some {i : Nat} {bs : List Nat} : Sep H (inb (some i) bs :: L) ↔ Sep H (bx i (.cells false 0 (bs.map Y)) :: L) := Sep.many_iff
theorem inb_none {bs : List Nat} : Sep H (inb none bs :: L) ↔ Sep H L := Sep.many_iff

theorem rdb_inb {q : Option Nat} {bs : List Nat} (hm : inb q bs ∈ L) (hq : q = none → bs = []) : RdB L (addr q) bs := by
  intro H' hs j x hx
  cases q with
  | none => rw [hq rfl] at hx; simp at hx
  | some q =>
    have hg : H'.get q = some (.cells false 0 (bs.map Y)) := (hs.all _ hm) (bx q (.cells false 0 (bs.map Y))) (by simp)
    exact ⟨q, rfl, by rw [cell_of hg, Nat.zero_add, Nat.mul_one, List.getElem?_map, hx]; rfl⟩

theorem gets_back {bs : List Nat} (hlt : ∀ b ∈ bs, b < 256) (h : gets bs = .ok l) : puts l = bs ∧ (∀ x ∈ l, chkI x = 0) ∧ l.length ≤ 256 := by
  have := getF_back chk_bnd bs.length 0 bs l (Nat.le_refl _) (by omega) hlt h
  exact ⟨this.1, this.2.1, by omega⟩

theorem getF_err : ∀ (f k : Nat) (bs : List Nat) (e : Int), getF chkI f k bs = .error e → e ≠ 0
  | 0, k, bs, e, h => by simp [getF] at h
  | f + 1, k, bs, e, h => by
    rw [getF] at h
    split at h
    · cases h
    · split at h
      · cases h; decide
      · split at h
        · rename_i h0; cases h; exact h0
        · split at h
          · cases h
          · rename_i e' he
            cases h
            exact getF_err f _ _ _ he

theorem getF_fuel : ∀ (f f' k : Nat) (bs : List Nat), (∀ b ∈ bs, b < 256) → bs.length ≤ f → bs.length ≤ f' → getF chkI f k bs = getF chkI f' k bs
  | 0, 0, k, bs, _, _, _ => rfl
  | 0, f' + 1, k, bs, _, h, _ => by
    have : bs = [] := List.eq_nil_of_length_eq_zero (by omega)
    subst this
    simp [getF]
  | f + 1, 0, k, bs, _, _, h => by
    have : bs = [] := List.eq_nil_of_length_eq_zero (by omega)
    subst this
    simp [getF]
  | f + 1, f' + 1, k, bs, hlt, h, h' => by
    rw [getF, getF]
    by_cases h0 : bs = []
    · rw [if_pos h0, if_pos h0]
    rw [if_neg h0, if_neg h0]
    by_cases h1 : k = 256
    · rw [if_pos h1, if_pos h1]
    rw [if_neg h1, if_neg h1]
    obtain ⟨x, n, e, hgo⟩ : ∃ x n e, getOne chkI bs = (x, n, e) := ⟨_, _, _, rfl⟩
    rw [hgo]
    simp only
    by_cases h2 : e ≠ 0
    · rw [if_pos h2, if_pos h2]
    rw [if_neg h2, if_neg h2]
    have he : e = 0 := by omega
    subst he
    obtain ⟨n1, n2, _, _⟩ := getOne_back hlt hgo
    have := sizI_pos x
    rw [getF_fuel f f' (k + 1) (bs.drop n) (fun b hb => hlt b (List.mem_of_mem_drop hb)) (by rw [List.length_drop]; omega) (by rw [List.length_drop]; omega)]

theorem gets_cut {bs : List Nat} (hlt : ∀ b ∈ bs, b < 256) (h : gets bs = .ok l) (c : Nat) (hc : c ≤ bs.length) :
    (∃ j, j ≤ l.length ∧ gets (bs.take c) = .ok (l.take j) ∧ puts (l.take j) = bs.take c) ∨ gets (bs.take c) = .error 20 := by
  obtain ⟨hp, hck, h256⟩ := gets_back hlt h
  have hge := puts_ge l
  have e : gets (bs.take c) = getF chkI bs.length 0 (bs.take c) := getF_fuel _ _ _ _ (fun b hb => hlt b (List.mem_of_mem_take hb)) (Nat.le_refl _) (by rw [List.length_take]; omega)
  rw [e]
  have := getF_cut chk_bnd l bs.length 0 c (by rw [hp] at hge; omega) (by omega) hck (by rw [hp]; exact hc)
  rw [hp] at this
  exact this

theorem slK_inb {q : Option Nat} {bs : List Nat} {n : Nat} {K : Value → Prop} (hs : Sep H L) (hm : inb q bs ∈ L) (hq : q = none → bs = []) (hn : n ≤ bs.length) (hK : K (.slice (addr q) n 0)) : slK H (addr q) 1 0 n K := by
  cases q with
  | none =>
    have : n = 0 := by rw [hq rfl] at hn; simpa using hn
    subst this
    exact hK
  | some i =>
    have hg : H.get i = some (.cells false 0 (bs.map Y)) := (hs.all _ hm) (bx i (.cells false 0 (bs.map Y))) (by simp)
    exact ⟨⟨_, _, _, hg, .inl rfl⟩, hK⟩

theorem slK_gl {q : Option Nat} {n : Nat} {K : Value → Prop} (hs : Sep H L) (hm : gl 5 q (flatI l) ∈ L) (hq : q = none → l = []) (hn : n ≤ l.length) (hK : K (.slice (addr q) n 0)) : slK H (addr q) 5 0 n K := by
  cases q with
  | none =>
    have : n = 0 := by rw [hq rfl] at hn; simpa using hn
    subst this
    exact hK
  | some i =>
    have hg : H.get i = some (.cells true 5 (flatI l)) := (hs.all _ hm) (bx i (.cells true 5 (flatI l))) (by simp)
    exact ⟨⟨_, _, _, hg, .inr rfl⟩, hK⟩

theorem rds_take {n : Nat} (h : Rds L a l) : Rds L a (l.take n) := by
  intro H' hs j x hx
  rw [List.getElem?_take] at hx
  split at hx
  · exact h H' hs j x hx
  · cases hx

theorem bytes_of : ∀ (css : List (List Value)), (∀ c ∈ css, ∃ n : Int, c = [.int .u8 n] ∧ (Lit.int .u8 n).wf = true) → ∃ bs : List Nat, css = bs.map (fun b => [Y b]) ∧ ∀ b ∈ bs, b < 256
  | [], _ => ⟨[], rfl, by simp⟩
  | c :: css, h => by
    obtain ⟨n, rfl, hn⟩ := h c (by simp)
    obtain ⟨bs, rfl, hb⟩ := bytes_of css fun c hc => h c (List.mem_cons_of_mem _ hc)
    have hw : 0 ≤ n ∧ n < 256 := by
      simp only [Lit.wf, IntKind.min, IntKind.max, Bool.and_eq_true, decide_eq_true_eq] at hn
      have e1 : IntKind.u8.signed = false := rfl
      have e2 : IntKind.u8.bits = 8 := rfl
      simp [e1, e2] at hn
      omega
    obtain ⟨k, rfl⟩ := Int.eq_ofNat_of_zero_le hw.1
    refine ⟨k :: bs, rfl, fun b hb' => ?_⟩
    rcases List.mem_cons.1 hb' with rfl | hb'
    · omega
    · exact hb b hb'

theorem flat_one : ∀ bs : List Nat, (bs.map fun b => [Y b]).flatten = bs.map Y
  | [] => rfl
  | b :: bs => by simp [flat_one bs]

end Go.Proofs.Ytmgkngdbphkmmaa

