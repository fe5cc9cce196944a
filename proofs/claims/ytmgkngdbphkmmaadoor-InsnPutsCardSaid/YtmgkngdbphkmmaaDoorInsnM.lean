/-
  Written by merge.py: InsnPure InsnTab InsnFns InsnCheck InsnWord InsnPut InsnOne InsnGet InsnKit InsnBack InsnAgain
-/
import Derived.Test.YtmgkngdbphkmmaaDoorAs45
import Derived.Test.YtmgkngdbphkmmaaDoorAs46
import Derived.Test.YtmgkngdbphkmmaaDoorAs43
import Derived.Test.YtmgkngdbphkmmaaDoorVcI
import Derived.Test.YtmgkngdbphkmmaaDoorAs44
import Derived.Test.YtmgkngdbphkmmaaDoorVcG
import Derived.Test.YtmgkngdbphkmmaaDoorVcJ
import Derived.Test.YtmgkngdbphkmmaaDoorArgs
/-
  Instructions and their bytes, without the program: there and back.
-/
namespace Go.Proofs.YtmgkngdbphkmmaaDoor
set_option linter.unusedVariables false

structure Ins where
  op : Int
  dst : Int
  src : Int
  off : Int
  imm : Int
 deriving DecidableEq

/-! ### Bytes of numbers -/
def le : Nat → Nat → List Nat
  | 0, _ => []
  | n + 1, v => v % 256 :: le n (v / 256)
def leNum : List Nat → Nat
  | [] => 0
  | b :: l => b + 256 * leNum l

theorem le_len : ∀ n v, (le n v).length = n
  | 0, _ => rfl
  | n + 1, v => by simp [le, le_len n]
theorem le_lt : ∀ n v, ∀ b ∈ le n v, b < 256
  | 0, _, b, h => by simp [le] at h
  | n + 1, v, b, h => by
    simp only [le, List.mem_cons] at h
    rcases h with rfl | h
    · exact Nat.mod_lt _ (by decide)
    · exact le_lt n _ b h
theorem leNum_le : ∀ n v, leNum (le n v) = v % 256 ^ n
  | 0, v => by simp [le, leNum, Nat.mod_one]
  | n + 1, v => by
    rw [le, leNum, leNum_le n, Nat.pow_succ, Nat.mul_comm (256 ^ n) 256, Nat.mod_mul]
theorem le_leNum : ∀ l : List Nat, (∀ b ∈ l, b < 256) → le l.length (leNum l) = l
  | [], _ => rfl
  | b :: l, h => by
    have hb := h b (by simp)
    have ih := le_leNum l fun c hc => h c (List.mem_cons_of_mem _ hc)
    simp only [List.length_cons, le, leNum]
    rw [show (b + 256 * leNum l) % 256 = b by omega, show (b + 256 * leNum l) / 256 = leNum l by omega, ih]
theorem leNum_lt : ∀ l : List Nat, (∀ b ∈ l, b < 256) → leNum l < 256 ^ l.length
  | [], _ => by simp [leNum]
  | b :: l, h => by
    have hb := h b (by simp)
    have ih := leNum_lt l fun c hc => h c (List.mem_cons_of_mem _ hc)
    simp only [List.length_cons, leNum, Nat.pow_succ]
    omega

/-- A number of so many values, with a sign. -/
def sgn (m : Nat) (n : Nat) : Int := if 2 * n < m then n else (n : Int) - m
def u64 (v : Int) : Nat := (v % 18446744073709551616).toNat

theorem sgn_u64 {m : Nat} {v : Int} (h : -(m : Int) ≤ 2 * v ∧ 2 * v < m) (hm : m = 65536 ∨ m = 4294967296 ∨ m = 18446744073709551616) : sgn m (u64 v % m) = v := by
  unfold sgn u64
  rcases hm with rfl | rfl | rfl <;> split <;> omega
theorem u64_sgn {m n : Nat} (h : n < m) (hm : m = 65536 ∨ m = 4294967296 ∨ m = 18446744073709551616) : u64 (sgn m n) % m = n ∧ -(m : Int) ≤ 2 * sgn m n ∧ 2 * sgn m n < m := by
  unfold sgn u64
  rcases hm with rfl | rfl | rfl <;> split <;> omega

/-! ### One instruction -/
def putI (x : Ins) : List Nat :=
  [(x.op % 256).toNat, ((x.src * 16 + x.dst) % 256).toNat] ++ (le 2 (u64 x.off) ++ (le 4 (u64 x.imm) ++ (if x.op = 24 then [0, 0, 0, 0] ++ le 4 (u64 x.imm / 4294967296) else [])))
def sizI (x : Ins) : Nat := if x.op = 24 then 16 else 8

theorem putI_len (x : Ins) : (putI x).length = sizI x := by
  unfold putI sizI
  split <;> simp [le_len]

theorem putI_lt (x : Ins) : ∀ b ∈ putI x, b < 256 := by
  intro b hb
  unfold putI at hb
  simp only [List.mem_append, List.mem_cons, List.not_mem_nil, or_false] at hb
  rcases hb with (rfl | rfl) | hb | hb | hb
  · omega
  · omega
  · exact le_lt _ _ b hb
  · exact le_lt _ _ b hb
  · split at hb
    · simp only [List.mem_append, List.mem_cons, List.not_mem_nil, or_false] at hb
      rcases hb with (rfl | rfl | rfl | rfl) | hb
      · omega
      · omega
      · omega
      · omega
      · exact le_lt _ _ b hb
    · simp at hb

variable {chk : Ins → Int}

/-- The instruction that bytes begin with. -/
def getOne (chk : Ins → Int) (b : List Nat) : Ins × Nat × Int :=
  if b.length < 8 ∨ b.getD 0 0 = 24 ∧ b.length < 16 then (⟨0, 0, 0, 0, 0⟩, 0, 20)
  else if b.getD 0 0 = 24 then
    (if leNum ((b.drop 8).take 4) = 0 then
      (⟨24, (b.getD 1 0 % 16 : Nat), (b.getD 1 0 / 16 : Nat), sgn 65536 (leNum ((b.drop 2).take 2)), sgn 18446744073709551616 (leNum ((b.drop 4).take 4) + 4294967296 * leNum ((b.drop 12).take 4))⟩, 16,
        chk ⟨24, (b.getD 1 0 % 16 : Nat), (b.getD 1 0 / 16 : Nat), sgn 65536 (leNum ((b.drop 2).take 2)), sgn 18446744073709551616 (leNum ((b.drop 4).take 4) + 4294967296 * leNum ((b.drop 12).take 4))⟩)
    else (⟨0, 0, 0, 0, 0⟩, 0, 9))
  else (⟨(b.getD 0 0 : Nat), (b.getD 1 0 % 16 : Nat), (b.getD 1 0 / 16 : Nat), sgn 65536 (leNum ((b.drop 2).take 2)), sgn 4294967296 (leNum ((b.drop 4).take 4))⟩, 8,
    chk ⟨(b.getD 0 0 : Nat), (b.getD 1 0 % 16 : Nat), (b.getD 1 0 / 16 : Nat), sgn 65536 (leNum ((b.drop 2).take 2)), sgn 4294967296 (leNum ((b.drop 4).take 4))⟩)

structure Bnd (x : Ins) : Prop where
  op : 0 ≤ x.op ∧ x.op ≤ 255
  dst : 0 ≤ x.dst ∧ x.dst ≤ 15
  src : 0 ≤ x.src ∧ x.src ≤ 15
  off : -32768 ≤ x.off ∧ x.off ≤ 32767
  imm : x.op ≠ 24 → -2147483648 ≤ x.imm ∧ x.imm ≤ 2147483647
  wide : -9223372036854775808 ≤ x.imm ∧ x.imm ≤ 9223372036854775807

theorem app_take {α : Type} {a b : List α} {n : Nat} (h : a.length = n) : (a ++ b).take n = a := by rw [← h]; simp
theorem app_drop {α : Type} {a b : List α} {n : Nat} (h : a.length = n) : (a ++ b).drop n = b := by rw [← h]; simp

theorem getOne_put {x : Ins} (h : Bnd x) (rest : List Nat) : getOne chk (putI x ++ rest) = (x, sizI x, chk x) := by
  obtain ⟨op, dst, src, off, imm⟩ := x
  obtain ⟨ho, hd, hs, hf, hi, hw⟩ := h
  simp only at ho hd hs hf hi hw
  have e0 : ((op % 256).toNat : Int) = op := by omega
  have e0n : (op % 256).toNat = op.toNat := by omega
  have hb1 : (src * 16 + dst) % 256 = src * 16 + dst := by omega
  obtain ⟨d, rfl⟩ := Int.eq_ofNat_of_zero_le hd.1
  obtain ⟨s, rfl⟩ := Int.eq_ofNat_of_zero_le hs.1
  have hb2 : ((s : Int) * 16 + (d : Int)).toNat = s * 16 + d := by omega
  have f1 : sgn 65536 (leNum (le 2 (u64 off))) = off := by rw [leNum_le]; exact sgn_u64 (by omega) (.inl rfl)
  by_cases hop : op = 24
  · subst hop
    have hp : putI ⟨24, d, s, off, imm⟩ = [24, s * 16 + d] ++ (le 2 (u64 off) ++ (le 4 (u64 imm) ++ ([0, 0, 0, 0] ++ le 4 (u64 imm / 4294967296)))) := by
      unfold putI
      simp only [if_true, hb1, hb2]
      rfl
    have hl := putI_len ⟨24, d, s, off, imm⟩
    rw [hp] at hl ⊢
    have hsz : sizI ⟨24, d, s, off, imm⟩ = 16 := rfl
    rw [hsz] at hl ⊢
    have q0 : ([24, s * 16 + d] ++ (le 2 (u64 off) ++ (le 4 (u64 imm) ++ ([0, 0, 0, 0] ++ le 4 (u64 imm / 4294967296))))) ++ rest = [24, s * 16 + d] ++ (le 2 (u64 off) ++ (le 4 (u64 imm) ++ ([0, 0, 0, 0] ++ (le 4 (u64 imm / 4294967296) ++ rest)))) := by simp [List.append_assoc]
    have d2 : (([24, s * 16 + d] ++ (le 2 (u64 off) ++ (le 4 (u64 imm) ++ ([0, 0, 0, 0] ++ (le 4 (u64 imm / 4294967296) ++ rest))))).drop 2) = le 2 (u64 off) ++ (le 4 (u64 imm) ++ ([0, 0, 0, 0] ++ (le 4 (u64 imm / 4294967296) ++ rest))) := rfl
    have d4 : (([24, s * 16 + d] ++ (le 2 (u64 off) ++ (le 4 (u64 imm) ++ ([0, 0, 0, 0] ++ (le 4 (u64 imm / 4294967296) ++ rest))))).drop 4) = le 4 (u64 imm) ++ ([0, 0, 0, 0] ++ (le 4 (u64 imm / 4294967296) ++ rest)) := by
      rw [show (4 : Nat) = 2 + 2 from rfl, ← List.drop_drop, d2, app_drop (le_len _ _)]
    have d8 : (([24, s * 16 + d] ++ (le 2 (u64 off) ++ (le 4 (u64 imm) ++ ([0, 0, 0, 0] ++ (le 4 (u64 imm / 4294967296) ++ rest))))).drop 8) = [0, 0, 0, 0] ++ (le 4 (u64 imm / 4294967296) ++ rest) := by
      rw [show (8 : Nat) = 4 + 4 from rfl, ← List.drop_drop, d4, app_drop (le_len _ _)]
    have d12 : (([24, s * 16 + d] ++ (le 2 (u64 off) ++ (le 4 (u64 imm) ++ ([0, 0, 0, 0] ++ (le 4 (u64 imm / 4294967296) ++ rest))))).drop 12) = le 4 (u64 imm / 4294967296) ++ rest := by
      rw [show (12 : Nat) = 8 + 4 from rfl, ← List.drop_drop, d8]; rfl
    have hlen : ¬ (([24, s * 16 + d] ++ (le 2 (u64 off) ++ (le 4 (u64 imm) ++ ([0, 0, 0, 0] ++ (le 4 (u64 imm / 4294967296) ++ rest))))).length < 8 ∨ ([24, s * 16 + d] ++ (le 2 (u64 off) ++ (le 4 (u64 imm) ++ ([0, 0, 0, 0] ++ (le 4 (u64 imm / 4294967296) ++ rest))))).getD 0 0 = 24 ∧ ([24, s * 16 + d] ++ (le 2 (u64 off) ++ (le 4 (u64 imm) ++ ([0, 0, 0, 0] ++ (le 4 (u64 imm / 4294967296) ++ rest))))).length < 16) := by
      rw [← q0, List.length_append, hl]; omega
    have g1 : ([24, s * 16 + d] ++ (le 2 (u64 off) ++ (le 4 (u64 imm) ++ ([0, 0, 0, 0] ++ (le 4 (u64 imm / 4294967296) ++ rest))))).getD 1 0 = s * 16 + d := rfl
    rw [q0]
    unfold getOne
    have g0 : ([24, s * 16 + d] ++ (le 2 (u64 off) ++ (le 4 (u64 imm) ++ ([0, 0, 0, 0] ++ (le 4 (u64 imm / 4294967296) ++ rest))))).getD 0 0 = 24 := rfl
    rw [if_neg hlen, g0, if_pos rfl, d2, d4, d8, d12, g1, app_take (le_len _ _), app_take (le_len _ _), app_take (le_len _ _)]
    have z : leNum (([0, 0, 0, 0] ++ (le 4 (u64 imm / 4294967296) ++ rest)).take 4) = 0 := rfl
    rw [if_pos z, f1, leNum_le, leNum_le]
    have m1 : (s * 16 + d) % 16 = d := by omega
    have m2 : (s * 16 + d) / 16 = s := by omega
    have w : sgn 18446744073709551616 (u64 imm % 256 ^ 4 + 4294967296 * (u64 imm / 4294967296 % 256 ^ 4)) = imm := by
      have hu : u64 imm < 18446744073709551616 := by unfold u64; omega
      have e : u64 imm % 256 ^ 4 + 4294967296 * (u64 imm / 4294967296 % 256 ^ 4) = u64 imm % 18446744073709551616 := by
        show u64 imm % 4294967296 + 4294967296 * (u64 imm / 4294967296 % 4294967296) = _
        omega
      rw [e]
      exact sgn_u64 (by omega) (.inr (.inr rfl))
    rw [m1, m2, w]
  · have hp : putI ⟨op, d, s, off, imm⟩ = [op.toNat, s * 16 + d] ++ (le 2 (u64 off) ++ le 4 (u64 imm)) := by
      unfold putI
      simp only [if_neg hop, hb1, hb2, e0n, List.append_nil]
    have hl := putI_len ⟨op, d, s, off, imm⟩
    rw [hp] at hl ⊢
    have hsz : sizI ⟨op, d, s, off, imm⟩ = 8 := if_neg hop
    rw [hsz] at hl ⊢
    have q0 : ([op.toNat, s * 16 + d] ++ (le 2 (u64 off) ++ le 4 (u64 imm))) ++ rest = [op.toNat, s * 16 + d] ++ (le 2 (u64 off) ++ (le 4 (u64 imm) ++ rest)) := by simp [List.append_assoc]
    have g0 : ([op.toNat, s * 16 + d] ++ (le 2 (u64 off) ++ (le 4 (u64 imm) ++ rest))).getD 0 0 = op.toNat := rfl
    have g1 : ([op.toNat, s * 16 + d] ++ (le 2 (u64 off) ++ (le 4 (u64 imm) ++ rest))).getD 1 0 = s * 16 + d := rfl
    have d2 : ([op.toNat, s * 16 + d] ++ (le 2 (u64 off) ++ (le 4 (u64 imm) ++ rest))).drop 2 = le 2 (u64 off) ++ (le 4 (u64 imm) ++ rest) := rfl
    have d4 : ([op.toNat, s * 16 + d] ++ (le 2 (u64 off) ++ (le 4 (u64 imm) ++ rest))).drop 4 = le 4 (u64 imm) ++ rest := by
      rw [show (4 : Nat) = 2 + 2 from rfl, ← List.drop_drop, d2, app_drop (le_len _ _)]
    have hlen : ¬ (([op.toNat, s * 16 + d] ++ (le 2 (u64 off) ++ (le 4 (u64 imm) ++ rest))).length < 8 ∨ ([op.toNat, s * 16 + d] ++ (le 2 (u64 off) ++ (le 4 (u64 imm) ++ rest))).getD 0 0 = 24 ∧ ([op.toNat, s * 16 + d] ++ (le 2 (u64 off) ++ (le 4 (u64 imm) ++ rest))).length < 16) := by
      rw [g0, ← q0, List.length_append, hl]; omega
    rw [q0]
    unfold getOne
    rw [if_neg hlen, g0, if_neg (by omega), d2, d4, g1, app_take (le_len _ _), app_take (le_len _ _), f1, leNum_le]
    have m1 : (s * 16 + d) % 16 = d := by omega
    have m2 : (s * 16 + d) / 16 = s := by omega
    have w : sgn 4294967296 (u64 imm % 256 ^ 4) = imm := sgn_u64 (by have := hi hop; omega) (.inr (.inl rfl))
    have o : ((op.toNat : Nat) : Int) = op := by omega
    rw [m1, m2, w, o]

theorem le_mod : ∀ n v, le n v = le n (v % 256 ^ n)
  | 0, _ => rfl
  | n + 1, v => by
    have e1 : v % 256 ^ (n + 1) % 256 = v % 256 := by
      rw [Nat.pow_succ, Nat.mul_comm, Nat.mod_mul_right_mod]
    have e2 : v % 256 ^ (n + 1) / 256 = v / 256 % 256 ^ n := by
      rw [Nat.pow_succ, Nat.mul_comm, Nat.mod_mul_right_div_self]
    rw [le, le, e1, e2, ← le_mod n]

theorem le_back {l : List Nat} {m n : Nat} (hl : l.length = n) (hb : ∀ b ∈ l, b < 256) {v : Nat} (hv : v % 256 ^ n = leNum l) : le n v = l := by
  rw [le_mod, hv, ← hl]; exact le_leNum l hb

theorem mem_sub {b : List Nat} (h : ∀ c ∈ b, c < 256) (i n : Nat) : ∀ c ∈ (b.drop i).take n, c < 256 :=
  fun c hc => h c (List.mem_of_mem_drop (List.mem_of_mem_take hc))

theorem sub_len {b : List Nat} {i n : Nat} (h : i + n ≤ b.length) : ((b.drop i).take n).length = n := by
  rw [List.length_take, List.length_drop]; omega

theorem two_head {b : List Nat} (h : 2 ≤ b.length) : b.take 2 = [b.getD 0 0, b.getD 1 0] := by
  match b, h with
  | a :: c :: l, _ => rfl

/-- What was read has these bytes. -/
theorem getOne_back {b : List Nat} (hlt : ∀ c ∈ b, c < 256) {x : Ins} {n : Nat} (h : getOne chk b = (x, n, 0)) : n = sizI x ∧ n ≤ b.length ∧ b.take n = putI x ∧ chk x = 0 := by
  unfold getOne at h
  by_cases h1 : b.length < 8 ∨ b.getD 0 0 = 24 ∧ b.length < 16
  · rw [if_pos h1] at h
    simp at h
  rw [if_neg h1] at h
  have hl8 : 8 ≤ b.length := by omega
  have hb0 : b.getD 0 0 < 256 := by
    rw [List.getD_eq_getElem?_getD, List.getElem?_eq_getElem (by omega)]
    exact hlt _ (List.getElem_mem _)
  have hb1 : b.getD 1 0 < 256 := by
    rw [List.getD_eq_getElem?_getD, List.getElem?_eq_getElem (by omega)]
    exact hlt _ (List.getElem_mem _)
  have n2 := leNum_lt _ (mem_sub hlt 2 2)
  have n4 := leNum_lt _ (mem_sub hlt 4 4)
  rw [sub_len (by omega)] at n2 n4
  have L2 : le 2 (u64 (sgn 65536 (leNum ((b.drop 2).take 2)))) = (b.drop 2).take 2 :=
    le_back (m := 0) (sub_len (by omega)) (mem_sub hlt 2 2) (u64_sgn n2 (.inl rfl)).1
  by_cases h2 : b.getD 0 0 = 24
  · rw [if_pos h2] at h
    have hl16 : 16 ≤ b.length := by omega
    by_cases h3 : leNum ((b.drop 8).take 4) = 0
    · rw [if_pos h3] at h
      simp only [Prod.mk.injEq] at h
      obtain ⟨rfl, rfl, hc⟩ := h
      refine ⟨rfl, hl16, ?_, hc⟩
      have n12 := leNum_lt _ (mem_sub hlt 12 4)
      rw [sub_len (by omega)] at n12
      have hN : leNum ((b.drop 4).take 4) + 4294967296 * leNum ((b.drop 12).take 4) < 18446744073709551616 := by
        have : (256 : Nat) ^ 4 = 4294967296 := by decide
        omega
      have u := u64_sgn hN (.inr (.inr rfl))
      have ub : u64 (sgn 18446744073709551616 (leNum ((b.drop 4).take 4) + 4294967296 * leNum ((b.drop 12).take 4))) = leNum ((b.drop 4).take 4) + 4294967296 * leNum ((b.drop 12).take 4) := by
        have : ∀ v, u64 v < 18446744073709551616 := fun v => by unfold u64; omega
        have := this (sgn 18446744073709551616 (leNum ((b.drop 4).take 4) + 4294967296 * leNum ((b.drop 12).take 4)))
        omega
      have p4 : (256 : Nat) ^ 4 = 4294967296 := by decide
      have z8 : (b.drop 8).take 4 = [0, 0, 0, 0] := by
        have := le_leNum _ (mem_sub hlt 8 4)
        rw [sub_len (by omega), h3] at this
        exact this.symm
      have t16 : b.take 16 = b.take 2 ++ ((b.drop 2).take 2 ++ ((b.drop 4).take 4 ++ ((b.drop 8).take 4 ++ (b.drop 12).take 4))) := by
        rw [show (16 : Nat) = 2 + (2 + (4 + (4 + 4))) from rfl, List.take_add, List.take_add, List.take_add, List.take_add]
        simp only [List.drop_drop]
      rw [t16, two_head (by omega), h2, z8]
      unfold putI
      simp only [if_true]
      rw [L2, ub]
      have q1 : le 4 (leNum ((b.drop 4).take 4) + 4294967296 * leNum ((b.drop 12).take 4)) = (b.drop 4).take 4 := le_back (m := 0) (sub_len (by omega)) (mem_sub hlt 4 4) (by omega)
      have q2 : le 4 ((leNum ((b.drop 4).take 4) + 4294967296 * leNum ((b.drop 12).take 4)) / 4294967296) = (b.drop 12).take 4 := le_back (m := 0) (sub_len (by omega)) (mem_sub hlt 12 4) (by omega)
      rw [q1, q2]
      have e1 : (((b.getD 1 0 / 16 : Nat) : Int) * 16 + ((b.getD 1 0 % 16 : Nat) : Int)) % 256 = (b.getD 1 0 : Int) := by omega
      rw [e1]
      rfl
    · rw [if_neg h3] at h
      simp at h
  · rw [if_neg h2] at h
    simp only [Prod.mk.injEq] at h
    obtain ⟨rfl, rfl, hc⟩ := h
    have hop : ¬ ((b.getD 0 0 : Nat) : Int) = 24 := by omega
    refine ⟨(if_neg hop).symm, hl8, ?_, hc⟩
    have t8 : b.take 8 = b.take 2 ++ ((b.drop 2).take 2 ++ (b.drop 4).take 4) := by
      rw [show (8 : Nat) = 2 + (2 + 4) from rfl, List.take_add, List.take_add]
      simp only [List.drop_drop]
    rw [t8, two_head (by omega)]
    unfold putI
    simp only [if_neg hop, List.append_nil]
    have L4 : le 4 (u64 (sgn 4294967296 (leNum ((b.drop 4).take 4)))) = (b.drop 4).take 4 :=
      le_back (m := 0) (sub_len (by omega)) (mem_sub hlt 4 4) (u64_sgn n4 (.inr (.inl rfl))).1
    rw [L2, L4]
    have e1 : (((b.getD 1 0 / 16 : Nat) : Int) * 16 + ((b.getD 1 0 % 16 : Nat) : Int)) % 256 = (b.getD 1 0 : Int) := by omega
    have e0 : ((b.getD 0 0 : Nat) : Int) % 256 = (b.getD 0 0 : Int) := by omega
    rw [e1, e0]
    rfl

theorem sizI_pos (x : Ins) : 8 ≤ sizI x ∧ sizI x ≤ 16 := by unfold sizI; split <;> omega

/-- Cut within an instruction they are short. -/
theorem getOne_short {x : Ins} (h : Bnd x) (rest : List Nat) {c : Nat} (h1 : c < sizI x) : getOne chk ((putI x ++ rest).take c) = (⟨0, 0, 0, 0, 0⟩, 0, 20) := by
  have hl := putI_len x
  have hlen : ((putI x ++ rest).take c).length = c := by rw [List.length_take, List.length_append, hl]; omega
  unfold getOne
  rw [if_pos]
  rw [hlen]
  by_cases h8 : c < 8
  · exact .inl h8
  · right
    have hop : x.op = 24 := by
      unfold sizI at h1
      split at h1
      · assumption
      · omega
    have hc : c < 16 := by unfold sizI at h1; rw [if_pos hop] at h1; exact h1
    refine ⟨?_, hc⟩
    rw [List.getD_eq_getElem?_getD, List.getElem?_take]
    rw [if_pos (by omega)]
    unfold putI
    rw [hop]
    rfl

/-! ### Lists of them -/
def puts (l : List Ins) : List Nat := l.flatMap putI
theorem puts_cons (x : Ins) (l : List Ins) : puts (x :: l) = putI x ++ puts l := rfl
theorem puts_append (l m : List Ins) : puts (l ++ m) = puts l ++ puts m := by simp [puts]
theorem puts_lt (l : List Ins) : ∀ b ∈ puts l, b < 256 := by
  intro b hb
  obtain ⟨x, _, hx⟩ := List.mem_flatMap.1 hb
  exact putI_lt x b hx

/-- The instructions that bytes are; so many stand ahead. -/
def getF (chk : Ins → Int) : Nat → Nat → List Nat → Except Int (List Ins)
  | 0, _, _ => .ok []
  | f + 1, k, b =>
    if b = [] then .ok [] else if k = 256 then .error 19
    else if (getOne chk b).2.2 ≠ 0 then .error (getOne chk b).2.2
    else match getF chk f (k + 1) (b.drop (getOne chk b).2.1) with
      | .ok l => .ok ((getOne chk b).1 :: l)
      | .error e => .error e

theorem putI_ne (x : Ins) : putI x ≠ [] := by
  intro h
  have := putI_len x
  rw [h] at this
  have := sizI_pos x
  simp at *; omega

theorem getF_puts (hb : ∀ x, chk x = 0 → Bnd x) : ∀ (l : List Ins) (f k : Nat), l.length ≤ f → l.length + k ≤ 256 → (∀ x ∈ l, chk x = 0) → getF chk f k (puts l) = .ok l
  | [], 0, k, _, _, _ => rfl
  | [], f + 1, k, _, _, _ => by simp [getF, puts]
  | x :: l, 0, k, h, _, _ => by simp at h
  | x :: l, f + 1, k, h, hk, hc => by
    have hx := hc x (by simp)
    have ih := getF_puts hb l f (k + 1) (by simpa using h) (by simp at hk; omega) fun y hy => hc y (List.mem_cons_of_mem _ hy)
    have e := getOne_put (chk := chk) (hb x hx) (puts l)
    rw [getF, puts_cons]
    rw [if_neg (by intro h; exact putI_ne x (List.append_eq_nil_iff.1 h).1), if_neg (by simp at hk; omega), e]
    simp only
    rw [if_neg (by rw [hx]; simp), app_drop (putI_len x), ih]

theorem getF_back (hb : ∀ x, chk x = 0 → Bnd x) : ∀ (f k : Nat) (b : List Nat) (l : List Ins), b.length ≤ f → k ≤ 256 → (∀ c ∈ b, c < 256) → getF chk f k b = .ok l → puts l = b ∧ (∀ x ∈ l, chk x = 0) ∧ l.length + k ≤ 256
  | 0, k, b, l, h, hk, _, e => by
    have : b = [] := List.eq_nil_of_length_eq_zero (by omega)
    subst this
    simp only [getF, Except.ok.injEq] at e
    subst e
    exact ⟨rfl, by simp, by simpa using hk⟩
  | f + 1, k, b, l, h, hk, hlt, e => by
    rw [getF] at e
    by_cases h0 : b = []
    · rw [if_pos h0] at e
      cases e
      exact ⟨by rw [h0]; rfl, by simp, by simpa using hk⟩
    rw [if_neg h0] at e
    by_cases h1 : k = 256
    · rw [if_pos h1] at e; cases e
    rw [if_neg h1] at e
    by_cases h2 : (getOne chk b).2.2 ≠ 0
    · rw [if_pos h2] at e; cases e
    rw [if_neg h2] at e
    generalize hg : getOne chk b = g at *
    obtain ⟨x, n, r⟩ := g
    simp only at e h2
    have hr : r = 0 := by omega
    subst hr
    obtain ⟨e1, e2, e3, e4⟩ := getOne_back hlt hg
    split at e
    · rename_i l' hl'
      cases e
      have hp := sizI_pos x
      have ih := getF_back hb f (k + 1) (b.drop n) l' (by rw [List.length_drop]; omega) (by omega) (fun c hc => hlt c (List.mem_of_mem_drop hc)) hl'
      refine ⟨?_, ?_, ?_⟩
      · rw [puts_cons, ih.1, ← e3, List.take_append_drop]
      · intro y hy
        rcases List.mem_cons.1 hy with rfl | hy
        · exact e4
        · exact ih.2.1 y hy
      · have := ih.2.2; simp; omega
    · cases e

/-- Cut anywhere: some of the first ones, or short. -/
theorem getF_cut (hb : ∀ x, chk x = 0 → Bnd x) : ∀ (l : List Ins) (f k c : Nat), l.length ≤ f → l.length + k ≤ 256 → (∀ x ∈ l, chk x = 0) → c ≤ (puts l).length →
    (∃ j, j ≤ l.length ∧ getF chk f k ((puts l).take c) = .ok (l.take j) ∧ (puts (l.take j)) = (puts l).take c) ∨ getF chk f k ((puts l).take c) = .error 20
  | [], f, k, c, _, _, _, _ => by
    left
    refine ⟨0, Nat.le_refl _, ?_, by simp [puts]⟩
    cases f with
    | zero => simp [getF]
    | succ f => simp [getF, puts]
  | x :: l, 0, k, c, h, _, _, _ => by simp at h
  | x :: l, f + 1, k, c, h, hk, hc, hcl => by
    have hx := hc x (by simp)
    rw [puts_cons] at hcl ⊢
    have hl := putI_len x
    have hsz := sizI_pos x
    rw [List.length_append, hl] at hcl
    by_cases h0 : c = 0
    · subst h0
      left
      refine ⟨0, by omega, ?_, by simp [puts]⟩
      simp [getF]
    by_cases h1 : c < sizI x
    · right
      rw [getF, getOne_short (hb x hx) _ h1]
      have : ¬ (putI x ++ puts l).take c = [] := by
        intro hn
        have := congrArg List.length hn
        rw [List.length_take, List.length_append, hl] at this
        simp at this; omega
      rw [if_neg this, if_neg (by simp at hk; omega)]
      simp
    · have e : (putI x ++ puts l).take c = putI x ++ (puts l).take (c - sizI x) := by
        rw [List.take_append, hl, List.take_of_length_le (by omega)]
      rw [e]
      have g := getOne_put (chk := chk) (hb x hx) ((puts l).take (c - sizI x))
      have hne : ¬ putI x ++ (puts l).take (c - sizI x) = [] := by intro h; exact putI_ne x (List.append_eq_nil_iff.1 h).1
      have ih := getF_cut hb l f (k + 1) (c - sizI x) (by simpa using h) (by simp at hk; omega) (fun y hy => hc y (List.mem_cons_of_mem _ hy)) (by omega)
      rw [getF, if_neg hne, if_neg (by simp at hk; omega), g]
      simp only
      rw [if_neg (by rw [hx]; simp), app_drop hl]
      rcases ih with ⟨j, hj, i1, i2⟩ | ih
      · left
        refine ⟨j + 1, by simpa using hj, ?_, ?_⟩
        · rw [i1]; simp
        · simp only [List.take_succ_cons]; rw [puts_cons, i2]
      · right
        rw [ih]
end Go.Proofs.YtmgkngdbphkmmaaDoor

/-
  The table of opcodes, without the program: the code's rows, the document's rows; what is wrong with an instruction.
-/
namespace Go.Proofs.YtmgkngdbphkmmaaDoor
set_option linter.unusedVariables false

/-- A row: the fields that it names, from where to where Imm is, whether Dst is written, what else must be (0: nothing, 1: turns, 2: wide, 3: atomic). -/
structure Rw where
  d : Bool
  s : Bool
  o : Bool
  i : Bool
  low : Int
  high : Int
  wr : Bool
  only : Nat
 deriving DecidableEq

abbrev RT := List (Int × Rw)
def rput : RT → Int → Rw → RT
  | [], k, r => [(k, r)]
  | (a, u) :: l, k, r => if a = k then (k, r) :: l else (a, u) :: rput l k r
def rget : RT → Int → Option Rw
  | [], _ => none
  | (a, u) :: l, k => if a = k then some u else rget l k
def rputs (l : RT) (r : Rw) (ops : List Int) : RT := ops.foldl (fun l k => rput l k r) l

def h31 : Int := 2147483648
def rNeg : Rw := ⟨true, false, false, false, -2147483648, 2147483647, true, 0⟩
def rImm : Rw := ⟨true, false, false, true, -2147483648, 2147483647, true, 0⟩
def rSrc : Rw := ⟨true, true, false, false, -2147483648, 2147483647, true, 0⟩
def rShf (most : Int) : Rw := ⟨true, false, false, true, 0, most, true, 0⟩

/-- One operation of a class. -/
def aluOne (l : RT) (cls : Int) (j : Nat) : RT :=
  let op : Int := 16 * j
  if op = 128 then rputs l rNeg [op + cls]
  else rputs (rputs l (if op = 96 ∨ op = 112 ∨ op = 192 then rShf (if cls = 7 then 63 else 31) else rImm) [op + cls]) rSrc [op + 8 + cls]
def aluN (l : RT) (cls : Int) : Nat → RT
  | 0 => l
  | j + 1 => aluOne (aluN l cls j) cls j
def rTurn : Rw := ⟨true, false, false, true, -2147483648, 2147483647, true, 1⟩
def alusT (l : RT) : RT := rputs (aluN (aluN l 4 13) 7 13) rTurn [212, 220]

def rJmpI : Rw := ⟨true, false, true, true, -2147483648, 2147483647, false, 0⟩
def rJmpS : Rw := ⟨true, true, true, false, -2147483648, 2147483647, false, 0⟩
def jmps : List Int := [16, 32, 48, 64, 80, 96, 112, 160, 176, 192, 208]
def jmpN (l : RT) : List Int → RT
  | [] => l
  | op :: ops => jmpN (rputs (rputs l rJmpI [op + 5, op + 6]) rJmpS [op + 8 + 5, op + 8 + 6]) ops
def rMem (op : Int) (l : RT) : RT :=
  rputs (rputs (rputs l ⟨true, true, true, false, -2147483648, 2147483647, true, 0⟩ [96 + op + 1]) ⟨true, false, true, true, -2147483648, 2147483647, false, 0⟩ [96 + op + 2]) ⟨true, true, true, false, -2147483648, 2147483647, false, 0⟩ [96 + op + 3]
def memN (l : RT) : List Int → RT
  | [] => l
  | op :: ops => memN (rMem op l) ops
def half4 (l : RT) : RT :=
  rputs (rputs (rputs (rputs l ⟨false, false, true, false, -2147483648, 2147483647, false, 0⟩ [5]) ⟨false, false, false, true, -2147483648, 2147483647, false, 0⟩ [133]) ⟨false, false, false, false, -2147483648, 2147483647, false, 0⟩ [149])
    ⟨true, true, false, true, -9223372036854775808, 9223372036854775807, true, 2⟩ [24]
def rAtom : Rw := ⟨true, true, true, true, -2147483648, 2147483647, false, 3⟩
def tab : RT := rputs (memN (half4 (jmpN (alusT []) jmps)) [0, 8, 16, 24]) rAtom [195, 219]

/-- The document's row. -/
def refRow (op : Int) : Option Rw :=
  let code := op / 16
  let by8 := op / 8 % 2
  let mode := op / 32
  let c := op % 8
  if op < 0 ∨ op > 255 then none
  else if c = 4 ∨ c = 7 then
    (if code = 13 then (if c = 4 then some rTurn else none)
     else if code > 12 then none
     else if code = 8 then (if by8 = 1 then none else some rNeg)
     else if by8 = 1 then some rSrc
     else if code = 6 ∨ code = 7 ∨ code = 12 then some (rShf (if c = 7 then 63 else 31))
     else some rImm)
  else if c = 5 ∨ c = 6 then
    (if op = 5 then some ⟨false, false, true, false, -2147483648, 2147483647, false, 0⟩
     else if op = 133 then some ⟨false, false, false, true, -2147483648, 2147483647, false, 0⟩
     else if op = 149 then some ⟨false, false, false, false, -2147483648, 2147483647, false, 0⟩
     else if 1 ≤ code ∧ code ≤ 7 ∨ 10 ≤ code ∧ code ≤ 13 then some (if by8 = 1 then rJmpS else rJmpI) else none)
  else if c = 0 then (if op = 24 then some ⟨true, true, false, true, -9223372036854775808, 9223372036854775807, true, 2⟩ else none)
  else if c = 1 then (if mode = 3 then some ⟨true, true, true, false, -2147483648, 2147483647, true, 0⟩ else none)
  else if c = 2 then (if mode = 3 then some ⟨true, false, true, true, -2147483648, 2147483647, false, 0⟩ else none)
  else (if mode = 3 then some ⟨true, true, true, false, -2147483648, 2147483647, false, 0⟩ else if op = 195 ∨ op = 219 then some rAtom else none)

theorem rget_none : ∀ (l : RT) (k : Int), (∀ p ∈ l, p.1 ≠ k) → rget l k = none
  | [], _, _ => rfl
  | (a, u) :: l, k, h => by
    rw [rget, if_neg (h (a, u) (by simp))]
    exact rget_none l k fun p hp => h p (List.mem_cons_of_mem _ hp)

theorem tab_keys : (tab.all fun p => decide (0 ≤ p.1 ∧ p.1 ≤ 255)) = true := by decide +kernel
theorem tab_row (op : Int) : rget tab op = refRow op := by
  by_cases h : op < 0 ∨ op > 255
  · have e : refRow op = none := by unfold refRow; simp only; rw [if_pos h]
    rw [e]
    refine rget_none _ _ fun p hp hk => ?_
    have := List.all_eq_true.1 tab_keys p hp
    simp only [decide_eq_true_eq] at this
    omega
  · have all : ∀ j : Fin 256, rget tab ((j : Nat) : Int) = refRow ((j : Nat) : Int) := by decide +kernel
    obtain ⟨n, rfl⟩ := Int.eq_ofNat_of_zero_le (show 0 ≤ op by omega)
    exact all ⟨n, by omega⟩

def isAtom (imm : Int) : Bool := imm = 0 ∨ imm = 64 ∨ imm = 80 ∨ imm = 160 ∨ imm = 1 ∨ imm = 65 ∨ imm = 81 ∨ imm = 161 ∨ imm = 225 ∨ imm = 241
def fetches (imm : Int) : Bool := imm = 1 ∨ imm = 65 ∨ imm = 81 ∨ imm = 161 ∨ imm = 225 ∨ imm = 241
def onlyI (n : Nat) (x : Ins) : Bool :=
  if n = 0 then true else if n = 1 then x.imm = 16 ∨ x.imm = 32 ∨ x.imm = 64 else if n = 2 then x.src = 0 ∨ 0 ≤ x.imm ∧ x.imm ≤ 2147483647 else isAtom x.imm

/-- What is wrong with an instruction. -/
def chkI (x : Ins) : Int :=
  match refRow x.op with
  | none => 7
  | some r =>
    if ¬ (0 ≤ x.dst ∧ x.dst ≤ 10 ∧ 0 ≤ x.src ∧ x.src ≤ 10 ∧ ¬ (r.wr = true ∧ x.dst = 10) ∧ ¬ ((x.op = 195 ∨ x.op = 219) ∧ fetches x.imm = true ∧ x.src = 10)) then 8
    else if (r.d = false ∧ x.dst ≠ 0) ∨ (r.s = false ∧ x.src ≠ 0) ∨ (r.o = false ∧ x.off ≠ 0) ∨ (r.i = false ∧ x.imm ≠ 0) ∨ (x.op = 24 ∧ x.src > 1) then 9
    else if x.off < -32768 ∨ x.off > 32767 ∨ x.imm < r.low ∨ x.imm > r.high ∨ onlyI r.only x = false then 10
    else 0

theorem row_bd {op : Int} {r : Rw} (h : refRow op = some r) : 0 ≤ op ∧ op ≤ 255 ∧ (op ≠ 24 → -2147483648 ≤ r.low ∧ r.high ≤ 2147483647) ∧ -9223372036854775808 ≤ r.low ∧ r.high ≤ 9223372036854775807 := by
  by_cases hb : op < 0 ∨ op > 255
  · unfold refRow at h; simp only at h; rw [if_pos hb] at h; cases h
  · have all : ∀ j : Fin 256, (match refRow ((j : Nat) : Int) with | none => true | some r => decide ((((j : Nat) : Int) ≠ 24 → -2147483648 ≤ r.low ∧ r.high ≤ 2147483647) ∧ -9223372036854775808 ≤ r.low ∧ r.high ≤ 9223372036854775807)) = true := by decide +kernel
    obtain ⟨n, rfl⟩ := Int.eq_ofNat_of_zero_le (show 0 ≤ op by omega)
    have := all ⟨n, by omega⟩
    simp only [h, decide_eq_true_eq] at this
    exact ⟨by omega, by omega, this⟩

theorem chk_bnd (x : Ins) (h : chkI x = 0) : Bnd x := by
  unfold chkI at h
  cases hr : refRow x.op with
  | none => rw [hr] at h; cases h
  | some r =>
    rw [hr] at h
    simp only at h
    obtain ⟨b1, b2, b3, b4⟩ := row_bd hr
    split at h
    · cases h
    · rename_i h1
      simp only [Classical.not_not] at h1
      split at h
      · cases h
      · split at h
        · cases h
        · rename_i h3
          refine ⟨⟨b1, b2⟩, by omega, by omega, by omega, fun h => ?_, by omega⟩
          have := b3 h; omega
end Go.Proofs.YtmgkngdbphkmmaaDoor

/-
  Instructions: what the table's and the check's functions do.
-/
namespace Go.Proofs.YtmgkngdbphkmmaaDoor
open Go Go.AS Go.RowKit
set_option linter.unusedVariables false
variable {H H' : Heap} {R : Value → Heap → Prop} {L : List Asr} {b : Nat} {l : RT}

abbrev I (n : Int) : Value := .int .i64 n

/-- The program's variables. -/
abbrev gHalf : List Value := [I (-2147483648), I 2147483647]
abbrev gAtom : List Value := [I 0, I 64, I 80, I 160, I 1, I 65, I 81, I 161, I 225, I 241]
abbrev gh : Asr := bx 0 (.cells false 0 gHalf)
abbrev ga : Asr := bx 1 (.cells false 0 gAtom)

def onlyV (n : Nat) : Value := if n = 0 then .nilFunc else .func (.func (if n = 1 then F.insn_alus_1 else if n = 2 then F.insn_table_1 else F.insn_table_2)) #[] #[]
theorem onlyV_cases (n : Nat) : onlyV n = .nilFunc ∨ ∃ f, onlyV n = .func (.func f) #[] #[] := by
  unfold onlyV
  split
  · exact .inl rfl
  · exact .inr ⟨_, rfl⟩
def rcells (r : Rw) : List Value := [.bool r.d, .bool r.s, .bool r.o, .bool r.i, I r.low, I r.high, .bool r.wr, onlyV r.only]
abbrev rv (r : Rw) : Value := .agg #[.bool r.d, .bool r.s, .bool r.o, .bool r.i, I r.low, I r.high, .bool r.wr, onlyV r.only]
def tv (l : RT) : KV := l.map fun p => (p.1, rv p.2)

theorem aput_tv : ∀ (l : RT) (k : Int) (r : Rw), aput (tv l) k (rv r) = tv (rput l k r)
  | [], k, r => rfl
  | (a, u) :: l, k, r => by
    show (if a = k then _ else _) = tv (if a = k then _ else _)
    split
    · rfl
    · rw [show tv ((a, u) :: rput l k r) = (a, rv u) :: tv (rput l k r) from rfl, ← aput_tv l k r]; rfl
theorem alook_tv : ∀ (l : RT) (k : Int), alook (tv l) k = (rget l k).map rv
  | [], k => rfl
  | (a, u) :: l, k => by
    show (if a = k then _ else _) = (if a = k then some u else rget l k).map rv
    split
    · rfl
    · exact alook_tv l k

abbrev tb (b : Nat) (l : RT) : Asr := im .i64 b (tv l)
abbrev opsb (a : Nat) (ops : List Int) : Asr := bx a (.cells true 1 (ops.map fun o => I o))

theorem rows_s {r : Rw} {a : Nat} {ops : List Int} (hn : ops.length < 1000) (h : Sep H (tb b l :: opsb a ops :: L)) (hR : ∀ H', Sep H' (tb b (rputs l r ops) :: L) → R undef H') :
    CA en F.insn_rows [.map (some b), rv r, .slice (some ⟨a, 0, none⟩) ops.length 0] H R := by
  apply vc_insn_rows (hx1_7 := onlyV_cases r.only)
  refine Sep.nw h fun i1 H2 h2 => ?_
  refine use_insn_rows_0 (fun k t10 H => ∃ j : Nat, j ≤ ops.length ∧ k = ops.length - j ∧ t10 = (j : Int) ∧ Sep H (bx i1 (.cells true 0 (rcells r)) :: tb b (rputs l r (ops.take j)) :: opsb a ops :: L)) ops.length ⟨0, by omega, rfl, rfl, h2⟩ ?_
  clear h2 h
  rintro k t10 ys H3 ⟨j, hj, rfl, rfl, hs⟩
  refine cond_of (fun h1 => ?_) fun h1 => ?_
  · simp only [decide_eq_true_eq] at h1
    have hj' : j < ops.length := by omega
    have e : ops.take (j + 1) = ops.take j ++ [ops[j]] := by rw [List.take_add_one, List.getElem?_eq_getElem hj']; rfl
    refine ⟨by unfold inB; omega, asRow_in ⟨ops[j], ?_, ?_⟩⟩
    · refine Sep.ld2 hs ?_
      simp [List.getElem?_eq_getElem hj']
    · have fin : ∀ H4, Sep H4 (im .i64 b (aput (tv (rputs l r (ops.take j))) ops[j] (rv r)) :: bx i1 (.cells true 0 (rcells r)) :: opsb a ops :: L) → ∃ k, k < ops.length - j ∧ ∃ j' : Nat, j' ≤ ops.length ∧ k = ops.length - j' ∧ IntKind.i64.wrap ((j : Int) + 1) = (j' : Int) ∧ Sep H4 (bx i1 (.cells true 0 (rcells r)) :: tb b (rputs l r (ops.take j')) :: opsb a ops :: L) := by
        intro H4 h4
        refine ⟨ops.length - (j + 1), by omega, j + 1, by omega, rfl, ?_, ?_⟩
        · rw [wrap_i64 (by omega)]; omega
        have h5 := Sep.up1 h4
        rw [e]
        have e3 := aput_tv (rputs l r (ops.take j)) ops[j] r
        have e4 : rputs l r (ops.take j ++ [ops[j]]) = rput (rputs l r (ops.take j)) ops[j] r := by unfold rputs; rw [List.foldl_append]; rfl
        rw [e3] at h5
        rw [e4]
        exact h5
      have hc : H3.cellsAt i1 0 8 = some (rcells r) := Sep.lds0 hs rfl
      have put := im_put (K := fun H4 => ∃ k, k < ops.length - j ∧ ∃ j' : Nat, j' ≤ ops.length ∧ k = ops.length - j' ∧ IntKind.i64.wrap ((j : Int) + 1) = (j' : Int) ∧ Sep H4 (bx i1 (.cells true 0 (rcells r)) :: tb b (rputs l r (ops.take j')) :: opsb a ops :: L)) (Sep.up1 hs) fin
      rcases onlyV_cases r.only with ho | ⟨f, ho⟩
      · unfold rcells at hc
        unfold rv at put
        rw [ho] at hc put
        exact ⟨_, _, _, _, _, _, _, .inl ⟨hc, put⟩⟩
      · unfold rcells at hc
        unfold rv at put
        rw [ho] at hc put
        exact ⟨_, _, _, _, _, _, _, .inr ⟨f, hc, put⟩⟩
  · simp only [decide_eq_false_iff_not] at h1
    obtain rfl : j = ops.length := by omega
    have := hR H3
    rw [List.take_length] at hs
    exact this (Sep.rm1 hs.tail)

theorem or_alu : ∀ j : Fin 13, ∀ c : Fin 8, IntKind.i64.wrap ((BitVec.ofInt 64 (16 * ((j : Nat) : Int)) ||| (BitVec.ofInt 64 ((c : Nat) : Int))).toNat : Int) = 16 * ((j : Nat) : Int) + ((c : Nat) : Int) := by decide +kernel
theorem or_alu8 : ∀ j : Fin 13, ∀ c : Fin 8, IntKind.i64.wrap ((BitVec.ofInt 64 (IntKind.i64.wrap ((BitVec.ofInt 64 (16 * ((j : Nat) : Int)) ||| (BitVec.ofInt 64 8)).toNat : Int)) ||| (BitVec.ofInt 64 ((c : Nat) : Int))).toNat : Int) = 16 * ((j : Nat) : Int) + 8 + ((c : Nat) : Int) := by decide +kernel

/-! ### Alu's rows -/
theorem alu_neg (l : RT) (c : Int) {j : Nat} (h : 16 * (j : Int) = 128) : aluOne l c j = rputs l rNeg [16 * (j : Int) + c] := by
  unfold aluOne; simp only; rw [if_pos h]
theorem alu_shf (l : RT) (c : Int) {j : Nat} (h0 : ¬ 16 * (j : Int) = 128) (h : 16 * (j : Int) = 96 ∨ 16 * (j : Int) = 112 ∨ 16 * (j : Int) = 192) : aluOne l c j = rputs (rputs l (rShf (if c = 7 then 63 else 31)) [16 * (j : Int) + c]) rSrc [16 * (j : Int) + 8 + c] := by
  unfold aluOne; simp only; rw [if_neg h0, if_pos h]
theorem alu_imm (l : RT) (c : Int) {j : Nat} (h0 : ¬ 16 * (j : Int) = 128) (h : ¬ (16 * (j : Int) = 96 ∨ 16 * (j : Int) = 112 ∨ 16 * (j : Int) = 192)) : aluOne l c j = rputs (rputs l rImm [16 * (j : Int) + c]) rSrc [16 * (j : Int) + 8 + c] := by
  unfold aluOne; simp only; rw [if_neg h0, if_neg h]
def outT (l : RT) : Nat → RT
  | 0 => l
  | 1 => aluN l 4 13
  | _ => aluN (aluN l 4 13) 7 13

theorem or_jmp : ∀ j : Fin 11, ∀ c : Fin 8, IntKind.i64.wrap ((BitVec.ofInt 64 (jmps.getD j 0) ||| (BitVec.ofInt 64 ((c : Nat) : Int))).toNat : Int) = jmps.getD j 0 + ((c : Nat) : Int) ∧ IntKind.i64.wrap ((BitVec.ofInt 64 (IntKind.i64.wrap ((BitVec.ofInt 64 (jmps.getD j 0) ||| (BitVec.ofInt 64 8)).toNat : Int)) ||| (BitVec.ofInt 64 ((c : Nat) : Int))).toNat : Int) = jmps.getD j 0 + 8 + ((c : Nat) : Int) := by decide +kernel
def mems : List Int := [0, 8, 16, 24]
theorem or_mem : ∀ j : Fin 4, ∀ c : Fin 4, IntKind.i64.wrap ((BitVec.ofInt 64 (IntKind.i64.wrap ((BitVec.ofInt 64 96 ||| (BitVec.ofInt 64 (mems.getD j 0))).toNat : Int)) ||| (BitVec.ofInt 64 ((c : Nat) : Int))).toNat : Int) = 96 + mems.getD j 0 + ((c : Nat) : Int) := by decide +kernel

theorem jmpN_snoc : ∀ (l : RT) (ops : List Int) (op : Int), jmpN l (ops ++ [op]) = rputs (rputs (jmpN l ops) rJmpI [op + 5, op + 6]) rJmpS [op + 8 + 5, op + 8 + 6]
  | l, [], op => rfl
  | l, a :: ops, op => by
    show jmpN _ (ops ++ [op]) = _
    rw [jmpN_snoc]; rfl
theorem memN_snoc : ∀ (l : RT) (ops : List Int) (op : Int), memN l (ops ++ [op]) = rMem op (memN l ops)
  | l, [], op => rfl
  | l, a :: ops, op => by
    show memN _ (ops ++ [op]) = _
    rw [memN_snoc]; rfl
theorem take_snoc {ops : List Int} {j : Nat} (h : j < ops.length) : ops.take (j + 1) = ops.take j ++ [ops.getD j 0] := by
  rw [List.take_add_one, List.getD_eq_getElem?_getD, List.getElem?_eq_getElem h]; rfl

theorem aluN_zero (l : RT) (c : Int) : aluN l c 0 = l := rfl
theorem aluN_succ (l : RT) (c : Int) (j : Nat) : aluN l c (j + 1) = aluOne (aluN l c j) c j := rfl
theorem outT_z (l : RT) : outT l 0 = l := rfl
theorem outT_0 (l : RT) : outT l (0 + 1) = aluN l 4 13 := rfl
theorem outT_1 (l : RT) : outT l (1 + 1) = aluN (aluN l 4 13) 7 13 := rfl
theorem alusT_eq (l : RT) : alusT l = rputs (outT l 2) rTurn [212, 220] := rfl
theorem jmps_map : (jmps.map fun o => I o) = [I 16, I 32, I 48, I 64, I 80, I 96, I 112, I 160, I 176, I 192, I 208] := rfl
theorem mems_map : (mems.map fun o => I o) = [I 0, I 8, I 16, I 24] := rfl
theorem jmps_len : jmps.length = 11 := rfl
theorem mems_len : mems.length = 4 := rfl
theorem jmps_all : jmps.take 11 = jmps := rfl
theorem mems_all : mems.take 4 = mems := rfl
theorem jmpN_nil (l : RT) : jmpN l [] = l := rfl
theorem memN_nil (l : RT) : memN l [] = l := rfl
theorem half4_eq (l : RT) : half4 l = rputs (rputs (rputs (rputs l ⟨false, false, true, false, -2147483648, 2147483647, false, 0⟩ [5]) ⟨false, false, false, true, -2147483648, 2147483647, false, 0⟩ [133]) ⟨false, false, false, false, -2147483648, 2147483647, false, 0⟩ [149])
    ⟨true, true, false, true, -9223372036854775808, 9223372036854775807, true, 2⟩ [24] := rfl
theorem rMem_eq (op : Int) (l : RT) : rMem op l = rputs (rputs (rputs l ⟨true, true, true, false, -2147483648, 2147483647, true, 0⟩ [96 + op + 1]) ⟨true, false, true, true, -2147483648, 2147483647, false, 0⟩ [96 + op + 2]) ⟨true, true, true, false, -2147483648, 2147483647, false, 0⟩ [96 + op + 3] := rfl
theorem tab_eq : tab = rputs (memN (half4 (jmpN (alusT []) jmps)) mems) rAtom [195, 219] := rfl
attribute [local irreducible] rput rputs aluN aluOne outT jmpN memN half4 alusT rMem tab jmps mems

set_option maxHeartbeats 1000000 in
theorem alus_s (h : Sep H (tb b l :: gh :: ga :: L)) (hR : ∀ H', Sep H' (tb b (alusT l) :: gh :: ga :: L) → R undef H') : CA en F.insn_alus [.map (some b)] H R := by
  apply vc_insn_alus
  refine Sep.nw h fun i1 H2 h2 => ?_
  refine use_insn_alus_0 (fun k t10 H => ∃ p : Nat, p ≤ 2 ∧ k = 2 - p ∧ t10 = (p : Int) ∧ Sep H (tb b (outT l p) :: gh :: ga :: bx i1 (.cells true 1 [I 4, I 7]) :: L)) 2 ⟨0, by omega, rfl, rfl, by rw [outT_z]; exact Sep.up3 (Sep.up3 (Sep.up3 h2))⟩ ?_
  clear h2 h
  rintro k t10 ys H3 ⟨p, hp, rfl, rfl, hs⟩
  refine cond_of (fun h1 => ?_) fun h1 => ?_
  · simp only [decide_eq_true_eq] at h1
    obtain rfl | rfl : p = 0 ∨ p = 1 := by omega
    · refine ⟨by unfold inB; omega, _, Sep.ld3 hs rfl, cond_no rfl ?_⟩
      refine use_insn_alus_1 (fun k t5 H => ∃ j : Nat, j ≤ 13 ∧ k = 13 - j ∧ t5 = 16 * (j : Int) ∧ Sep H (tb b (aluN l 4 j) :: gh :: ga :: bx i1 (.cells true 1 [I 4, I 7]) :: L)) 13 ⟨0, by omega, rfl, rfl, by rw [aluN_zero]; rw [outT_z] at hs; exact hs⟩ ?_
      clear hs
      rintro k5 t5 ys5 H5' ⟨j, hj, rfl, rfl, hs⟩
      refine cond_of (fun h1 => ?_) fun h1 => ?_
      · have hj' : j < 13 := by simp only [decide_eq_true_eq] at h1; omega
        have o1 : IntKind.i64.wrap ((BitVec.ofInt 64 (16 * (j : Int)) ||| (BitVec.ofInt 64 4)).toNat : Int) = 16 * (j : Int) + 4 := or_alu ⟨j, hj'⟩ 4
        have o2 : IntKind.i64.wrap ((BitVec.ofInt 64 (IntKind.i64.wrap ((BitVec.ofInt 64 (16 * (j : Int)) ||| (BitVec.ofInt 64 8)).toNat : Int)) ||| (BitVec.ofInt 64 4)).toNat : Int) = 16 * (j : Int) + 8 + 4 := or_alu8 ⟨j, hj'⟩ 4
        have fin : ∀ H', Sep H' (tb b (aluOne (aluN (l) 4 j) 4 j) :: gh :: ga :: bx i1 (.cells true 1 [I 4, I 7]) :: L) → ∃ k, k < 13 - j ∧ ∃ j' : Nat, j' ≤ 13 ∧ k = 13 - j' ∧ IntKind.i64.wrap (16 * (j : Int) + 16) = 16 * (j' : Int) ∧ Sep H' (tb b (aluN (l) 4 j') :: gh :: ga :: bx i1 (.cells true 1 [I 4, I 7]) :: L) := fun H' h' => ⟨13 - (j + 1), by omega, j + 1, by omega, rfl, (by rw [wrap_i64 (by omega)]; omega), (by rw [aluN_succ]; exact h')⟩
        refine ⟨_, _, Sep.lds1 hs rfl, Sep.nw hs fun i3 H4 h4 => Sep.st0 h4 (Nat.le_of_ble_eq_true rfl) fun H5 h5 => ?_⟩
        refine cond_of (fun e128 => ?_) fun e128 => ?_
        · have e128 : 16 * (j : Int) = 128 := by simpa using e128
          refine ⟨_, _, Sep.lds2 h5 rfl, Sep.nw h5 fun i8 H9 h9 => ?_⟩
          rw [o1] at h9
          refine rows_s (r := rNeg) (ops := [16 * (j : Int) + 4]) (by simp) (Sep.up2 h9) fun H11 h11 => ⟨rfl, fin H11 ?_⟩
          rw [alu_neg _ _ e128]
          exact Sep.rm1 h11
        have e128 : ¬ 16 * (j : Int) = 128 := by simpa using e128
        refine cond_of (fun e96 => ?_) fun e96 => ?_
        · have e96 : 16 * (j : Int) = 96 := by simpa using e96
          have hs3 : 16 * (j : Int) = 96 ∨ 16 * (j : Int) = 112 ∨ 16 * (j : Int) = 192 := by omega
          refine Sep.st0 h5 (Nat.le_of_ble_eq_true rfl) fun H13 h13 => ?_
          refine ⟨_, _, _, _, _, _, _, .inl ⟨Sep.lds0 h13 rfl, Sep.nw h13 fun i22 H23 h23 => ?_⟩⟩
          rw [o1] at h23
          refine rows_s (r := rShf 31) (ops := [16 * (j : Int) + 4]) (by simp) (Sep.up2 h23) fun H25 h25 => ⟨rfl, _, _, Sep.lds2 h25 rfl, Sep.nw h25 fun i28 H29 h29 => ?_⟩
          rw [o2] at h29
          refine rows_s (r := rSrc) (ops := [16 * (j : Int) + 8 + 4]) (by simp) (Sep.up1 h29) fun H31 h31 => ⟨rfl, fin H31 ?_⟩
          rw [alu_shf _ _ e128 hs3]
          exact Sep.rm1 h31
        have e96 : ¬ 16 * (j : Int) = 96 := by simpa using e96
        refine cond_of (fun e112 => ?_) fun e112 => ?_
        · have e112 : 16 * (j : Int) = 112 := by simpa using e112
          have hs3 : 16 * (j : Int) = 96 ∨ 16 * (j : Int) = 112 ∨ 16 * (j : Int) = 192 := by omega
          refine Sep.st0 h5 (Nat.le_of_ble_eq_true rfl) fun H13 h13 => ?_
          refine ⟨_, _, _, _, _, _, _, .inl ⟨Sep.lds0 h13 rfl, Sep.nw h13 fun i22 H23 h23 => ?_⟩⟩
          rw [o1] at h23
          refine rows_s (r := rShf 31) (ops := [16 * (j : Int) + 4]) (by simp) (Sep.up2 h23) fun H25 h25 => ⟨rfl, _, _, Sep.lds2 h25 rfl, Sep.nw h25 fun i28 H29 h29 => ?_⟩
          rw [o2] at h29
          refine rows_s (r := rSrc) (ops := [16 * (j : Int) + 8 + 4]) (by simp) (Sep.up1 h29) fun H31 h31 => ⟨rfl, fin H31 ?_⟩
          rw [alu_shf _ _ e128 hs3]
          exact Sep.rm1 h31
        have e112 : ¬ 16 * (j : Int) = 112 := by simpa using e112
        refine cond_of (fun e192 => ?_) fun e192 => ?_
        · have e192 : 16 * (j : Int) = 192 := by simpa using e192
          have hs3 : 16 * (j : Int) = 96 ∨ 16 * (j : Int) = 112 ∨ 16 * (j : Int) = 192 := by omega
          refine Sep.st0 h5 (Nat.le_of_ble_eq_true rfl) fun H13 h13 => ?_
          refine ⟨_, _, _, _, _, _, _, .inl ⟨Sep.lds0 h13 rfl, Sep.nw h13 fun i22 H23 h23 => ?_⟩⟩
          rw [o1] at h23
          refine rows_s (r := rShf 31) (ops := [16 * (j : Int) + 4]) (by simp) (Sep.up2 h23) fun H25 h25 => ⟨rfl, _, _, Sep.lds2 h25 rfl, Sep.nw h25 fun i28 H29 h29 => ?_⟩
          rw [o2] at h29
          refine rows_s (r := rSrc) (ops := [16 * (j : Int) + 8 + 4]) (by simp) (Sep.up1 h29) fun H31 h31 => ⟨rfl, fin H31 ?_⟩
          rw [alu_shf _ _ e128 hs3]
          exact Sep.rm1 h31
        · have e192 : ¬ 16 * (j : Int) = 192 := by simpa using e192
          refine ⟨_, _, _, _, _, _, _, .inl ⟨Sep.lds0 h5 rfl, Sep.nw h5 fun i22 H23 h23 => ?_⟩⟩
          rw [o1] at h23
          refine rows_s (r := rImm) (ops := [16 * (j : Int) + 4]) (by simp) (Sep.up2 h23) fun H25 h25 => ⟨rfl, _, _, Sep.lds2 h25 rfl, Sep.nw h25 fun i28 H29 h29 => ?_⟩
          rw [o2] at h29
          refine rows_s (r := rSrc) (ops := [16 * (j : Int) + 8 + 4]) (by simp) (Sep.up1 h29) fun H31 h31 => ⟨rfl, fin H31 ?_⟩
          rw [alu_imm _ _ e128 (by omega)]
          exact Sep.rm1 h31
      · simp only [decide_eq_false_iff_not] at h1
        obtain rfl : j = 13 := by omega
        exact ⟨2 - (0 + 1), by omega, 0 + 1, by omega, rfl, rfl, by rw [outT_0]; exact hs⟩
    · refine ⟨by unfold inB; omega, _, Sep.ld3 hs rfl, cond_yes rfl ?_⟩
      refine use_insn_alus_1 (fun k t5 H => ∃ j : Nat, j ≤ 13 ∧ k = 13 - j ∧ t5 = 16 * (j : Int) ∧ Sep H (tb b (aluN (aluN l 4 13) 7 j) :: gh :: ga :: bx i1 (.cells true 1 [I 4, I 7]) :: L)) 13 ⟨0, by omega, rfl, rfl, by rw [aluN_zero]; have hs := hs; rw [show (1 : Nat) = 0 + 1 from rfl, outT_0] at hs; exact hs⟩ ?_
      clear hs
      rintro k5 t5 ys5 H5' ⟨j, hj, rfl, rfl, hs⟩
      refine cond_of (fun h1 => ?_) fun h1 => ?_
      · have hj' : j < 13 := by simp only [decide_eq_true_eq] at h1; omega
        have o1 : IntKind.i64.wrap ((BitVec.ofInt 64 (16 * (j : Int)) ||| (BitVec.ofInt 64 7)).toNat : Int) = 16 * (j : Int) + 7 := or_alu ⟨j, hj'⟩ 7
        have o2 : IntKind.i64.wrap ((BitVec.ofInt 64 (IntKind.i64.wrap ((BitVec.ofInt 64 (16 * (j : Int)) ||| (BitVec.ofInt 64 8)).toNat : Int)) ||| (BitVec.ofInt 64 7)).toNat : Int) = 16 * (j : Int) + 8 + 7 := or_alu8 ⟨j, hj'⟩ 7
        have fin : ∀ H', Sep H' (tb b (aluOne (aluN (aluN l 4 13) 7 j) 7 j) :: gh :: ga :: bx i1 (.cells true 1 [I 4, I 7]) :: L) → ∃ k, k < 13 - j ∧ ∃ j' : Nat, j' ≤ 13 ∧ k = 13 - j' ∧ IntKind.i64.wrap (16 * (j : Int) + 16) = 16 * (j' : Int) ∧ Sep H' (tb b (aluN (aluN l 4 13) 7 j') :: gh :: ga :: bx i1 (.cells true 1 [I 4, I 7]) :: L) := fun H' h' => ⟨13 - (j + 1), by omega, j + 1, by omega, rfl, (by rw [wrap_i64 (by omega)]; omega), (by rw [aluN_succ]; exact h')⟩
        refine ⟨_, _, Sep.lds1 hs rfl, Sep.nw hs fun i3 H4 h4 => Sep.st0 h4 (Nat.le_of_ble_eq_true rfl) fun H5 h5 => ?_⟩
        refine cond_of (fun e128 => ?_) fun e128 => ?_
        · have e128 : 16 * (j : Int) = 128 := by simpa using e128
          refine ⟨_, _, Sep.lds2 h5 rfl, Sep.nw h5 fun i8 H9 h9 => ?_⟩
          rw [o1] at h9
          refine rows_s (r := rNeg) (ops := [16 * (j : Int) + 7]) (by simp) (Sep.up2 h9) fun H11 h11 => ⟨rfl, fin H11 ?_⟩
          rw [alu_neg _ _ e128]
          exact Sep.rm1 h11
        have e128 : ¬ 16 * (j : Int) = 128 := by simpa using e128
        refine cond_of (fun e96 => ?_) fun e96 => ?_
        · have e96 : 16 * (j : Int) = 96 := by simpa using e96
          have hs3 : 16 * (j : Int) = 96 ∨ 16 * (j : Int) = 112 ∨ 16 * (j : Int) = 192 := by omega
          refine Sep.st0 h5 (Nat.le_of_ble_eq_true rfl) fun H13 h13 => ?_
          refine ⟨_, _, _, _, _, _, _, .inl ⟨Sep.lds0 h13 rfl, Sep.nw h13 fun i22 H23 h23 => ?_⟩⟩
          rw [o1] at h23
          refine rows_s (r := rShf 63) (ops := [16 * (j : Int) + 7]) (by simp) (Sep.up2 h23) fun H25 h25 => ⟨rfl, _, _, Sep.lds2 h25 rfl, Sep.nw h25 fun i28 H29 h29 => ?_⟩
          rw [o2] at h29
          refine rows_s (r := rSrc) (ops := [16 * (j : Int) + 8 + 7]) (by simp) (Sep.up1 h29) fun H31 h31 => ⟨rfl, fin H31 ?_⟩
          rw [alu_shf _ _ e128 hs3]
          exact Sep.rm1 h31
        have e96 : ¬ 16 * (j : Int) = 96 := by simpa using e96
        refine cond_of (fun e112 => ?_) fun e112 => ?_
        · have e112 : 16 * (j : Int) = 112 := by simpa using e112
          have hs3 : 16 * (j : Int) = 96 ∨ 16 * (j : Int) = 112 ∨ 16 * (j : Int) = 192 := by omega
          refine Sep.st0 h5 (Nat.le_of_ble_eq_true rfl) fun H13 h13 => ?_
          refine ⟨_, _, _, _, _, _, _, .inl ⟨Sep.lds0 h13 rfl, Sep.nw h13 fun i22 H23 h23 => ?_⟩⟩
          rw [o1] at h23
          refine rows_s (r := rShf 63) (ops := [16 * (j : Int) + 7]) (by simp) (Sep.up2 h23) fun H25 h25 => ⟨rfl, _, _, Sep.lds2 h25 rfl, Sep.nw h25 fun i28 H29 h29 => ?_⟩
          rw [o2] at h29
          refine rows_s (r := rSrc) (ops := [16 * (j : Int) + 8 + 7]) (by simp) (Sep.up1 h29) fun H31 h31 => ⟨rfl, fin H31 ?_⟩
          rw [alu_shf _ _ e128 hs3]
          exact Sep.rm1 h31
        have e112 : ¬ 16 * (j : Int) = 112 := by simpa using e112
        refine cond_of (fun e192 => ?_) fun e192 => ?_
        · have e192 : 16 * (j : Int) = 192 := by simpa using e192
          have hs3 : 16 * (j : Int) = 96 ∨ 16 * (j : Int) = 112 ∨ 16 * (j : Int) = 192 := by omega
          refine Sep.st0 h5 (Nat.le_of_ble_eq_true rfl) fun H13 h13 => ?_
          refine ⟨_, _, _, _, _, _, _, .inl ⟨Sep.lds0 h13 rfl, Sep.nw h13 fun i22 H23 h23 => ?_⟩⟩
          rw [o1] at h23
          refine rows_s (r := rShf 63) (ops := [16 * (j : Int) + 7]) (by simp) (Sep.up2 h23) fun H25 h25 => ⟨rfl, _, _, Sep.lds2 h25 rfl, Sep.nw h25 fun i28 H29 h29 => ?_⟩
          rw [o2] at h29
          refine rows_s (r := rSrc) (ops := [16 * (j : Int) + 8 + 7]) (by simp) (Sep.up1 h29) fun H31 h31 => ⟨rfl, fin H31 ?_⟩
          rw [alu_shf _ _ e128 hs3]
          exact Sep.rm1 h31
        · have e192 : ¬ 16 * (j : Int) = 192 := by simpa using e192
          refine ⟨_, _, _, _, _, _, _, .inl ⟨Sep.lds0 h5 rfl, Sep.nw h5 fun i22 H23 h23 => ?_⟩⟩
          rw [o1] at h23
          refine rows_s (r := rImm) (ops := [16 * (j : Int) + 7]) (by simp) (Sep.up2 h23) fun H25 h25 => ⟨rfl, _, _, Sep.lds2 h25 rfl, Sep.nw h25 fun i28 H29 h29 => ?_⟩
          rw [o2] at h29
          refine rows_s (r := rSrc) (ops := [16 * (j : Int) + 8 + 7]) (by simp) (Sep.up1 h29) fun H31 h31 => ⟨rfl, fin H31 ?_⟩
          rw [alu_imm _ _ e128 (by omega)]
          exact Sep.rm1 h31
      · simp only [decide_eq_false_iff_not] at h1
        obtain rfl : j = 13 := by omega
        exact ⟨2 - (1 + 1), by omega, 1 + 1, by omega, rfl, rfl, by rw [outT_1]; exact hs⟩
  · simp only [decide_eq_false_iff_not] at h1
    obtain rfl : p = 2 := by omega
    refine ⟨_, _, Sep.lds1 hs rfl, Sep.nw hs fun i7 H8 h8 => ?_⟩
    refine rows_s (r := rTurn) (ops := [212, 220]) (by simp) (Sep.up1 h8) fun H10 h10 => ⟨rfl, hR H10 ?_⟩
    rw [alusT_eq]
    exact Sep.rm3 h10

/-! ### The table -/
set_option maxHeartbeats 1000000 in
theorem table_s (h : Sep H (gh :: ga :: L)) (hR : ∀ H' b, Sep H' (tb b tab :: gh :: ga :: L) → R (.map (some b)) H') : CA en F.insn_table [] H R := by
  apply vc_insn_table
  refine im_new (ik := .i64) h fun b H2 h2 => ?_
  refine alus_s (l := []) h2 fun H4 h4 => ⟨rfl, Sep.nw h4 fun i5 H6 h6 => ?_⟩
  refine use_insn_table_0 (fun k t13 H => ∃ j : Nat, j ≤ 11 ∧ k = 11 - j ∧ t13 = (j : Int) ∧ Sep H (bx i5 (.cells true 1 (jmps.map fun o => I o)) :: tb b (jmpN (alusT []) (jmps.take j)) :: gh :: ga :: L)) 11 ⟨0, by omega, rfl, rfl, by rw [List.take_zero, jmpN_nil, jmps_map]; exact h6⟩ ?_
  clear h6 h4 h2 h
  rintro k t13 ys H3 ⟨j, hj, rfl, rfl, hs⟩
  refine cond_of (fun h1 => ?_) fun h1 => ?_
  · have hj' : j < 11 := by simp only [decide_eq_true_eq] at h1; omega
    have o5 := or_jmp ⟨j, hj'⟩ 5
    have o6 := or_jmp ⟨j, hj'⟩ 6
    have hop : (jmps.map fun o => I o)[j]? = some (I (jmps.getD j 0)) := by
      rw [List.getElem?_map, List.getD_eq_getElem?_getD, List.getElem?_eq_getElem (show j < jmps.length by rw [jmps_len]; exact hj')]; rfl
    obtain ⟨p5, q5⟩ := o5
    obtain ⟨p6, q6⟩ := o6
    have e := take_snoc (ops := jmps) (j := j) (by rw [jmps_len]; exact hj')
    generalize hx : jmps.getD j 0 = x at *
    have p5 : IntKind.i64.wrap ((BitVec.ofInt 64 x ||| (BitVec.ofInt 64 5)).toNat : Int) = x + 5 := p5
    have p6 : IntKind.i64.wrap ((BitVec.ofInt 64 x ||| (BitVec.ofInt 64 6)).toNat : Int) = x + 6 := p6
    have q5 : IntKind.i64.wrap ((BitVec.ofInt 64 (IntKind.i64.wrap ((BitVec.ofInt 64 x ||| (BitVec.ofInt 64 8)).toNat : Int)) ||| (BitVec.ofInt 64 5)).toNat : Int) = x + 8 + 5 := q5
    have q6 : IntKind.i64.wrap ((BitVec.ofInt 64 (IntKind.i64.wrap ((BitVec.ofInt 64 x ||| (BitVec.ofInt 64 8)).toNat : Int)) ||| (BitVec.ofInt 64 6)).toNat : Int) = x + 8 + 6 := q6
    refine ⟨by unfold inB; omega, x, Sep.ld0 hs (by rw [Nat.zero_add, Int.toNat_natCast, Nat.mul_one]; exact hop), _, _, Sep.lds2 hs rfl, Sep.nw hs fun i4 H5 h5 => ?_⟩
    rw [p5, p6] at h5
    refine rows_s (r := rJmpI) (ops := [x + 5, x + 6]) (by simp) (Sep.up2 h5) fun H7 h7 => ⟨rfl, _, _, Sep.lds2 h7 rfl, Sep.nw h7 fun i10 H11 h11 => ?_⟩
    rw [q5, q6] at h11
    refine rows_s (r := rJmpS) (ops := [x + 8 + 5, x + 8 + 6]) (by simp) (Sep.up1 h11) fun H13 h13 => ⟨rfl, 11 - (j + 1), by omega, j + 1, by omega, rfl, ?_, ?_⟩
    · rw [wrap_i64 (by omega)]; omega
    · rw [e, jmpN_snoc]
      exact Sep.up1 h13
  · simp only [decide_eq_false_iff_not] at h1
    obtain rfl : j = 11 := by omega
    have hs : Sep H3 (tb b (jmpN (alusT []) jmps) :: gh :: ga :: L) := by rw [jmps_all] at hs; exact hs.tail
    refine ⟨_, _, Sep.lds1 hs rfl, Sep.nw hs fun i11 H12 h12 => ?_⟩
    refine rows_s (r := ⟨false, false, true, false, -2147483648, 2147483647, false, 0⟩) (ops := [5]) (by simp) (Sep.up1 h12) fun H14 h14 => ⟨rfl, _, _, Sep.lds1 h14 rfl, Sep.nw h14 fun i17 H18 h18 => ?_⟩
    refine rows_s (r := ⟨false, false, false, true, -2147483648, 2147483647, false, 0⟩) (ops := [133]) (by simp) (Sep.up1 h18) fun H20 h20 => ⟨rfl, _, _, Sep.lds1 h20 rfl, Sep.nw h20 fun i23 H24 h24 => ?_⟩
    refine rows_s (r := ⟨false, false, false, false, -2147483648, 2147483647, false, 0⟩) (ops := [149]) (by simp) (Sep.up1 h24) fun H26 h26 => ⟨rfl, Sep.nw h26 fun i27 H28 h28 => ?_⟩
    refine rows_s (r := ⟨true, true, false, true, -9223372036854775808, 9223372036854775807, true, 2⟩) (ops := [24]) (by simp) (Sep.up1 h28) fun H30 h30 => ⟨rfl, Sep.nw h30 fun i31 H32 h32 => ?_⟩
    refine use_insn_table_1 (fun k t66 H => ∃ j : Nat, j ≤ 4 ∧ k = 4 - j ∧ t66 = (j : Int) ∧ Sep H (bx i31 (.cells true 1 (mems.map fun o => I o)) :: tb b (memN (half4 (jmpN (alusT []) jmps)) (mems.take j)) :: gh :: ga :: L)) 4 ⟨0, by omega, rfl, rfl, by rw [List.take_zero, memN_nil, mems_map, half4_eq]; exact h32⟩ ?_
    clear h32 h30 h28 h26 h24 h20 h18 h14 h12 hs
    rintro k2 t66 ys2 H4 ⟨j, hj, rfl, rfl, hs⟩
    refine cond_of (fun h1 => ?_) fun h1 => ?_
    · have hj' : j < 4 := by simp only [decide_eq_true_eq] at h1; omega
      have o1 := or_mem ⟨j, hj'⟩ 1
      have o2 := or_mem ⟨j, hj'⟩ 2
      have o3 := or_mem ⟨j, hj'⟩ 3
      have hop : (mems.map fun o => I o)[j]? = some (I (mems.getD j 0)) := by
        rw [List.getElem?_map, List.getD_eq_getElem?_getD, List.getElem?_eq_getElem (show j < mems.length by rw [mems_len]; exact hj')]; rfl
      have e := take_snoc (ops := mems) (j := j) (by rw [mems_len]; exact hj')
      generalize hx : mems.getD j 0 = x at *
      have o1 : IntKind.i64.wrap ((BitVec.ofInt 64 (IntKind.i64.wrap ((BitVec.ofInt 64 96 ||| (BitVec.ofInt 64 x)).toNat : Int)) ||| (BitVec.ofInt 64 1)).toNat : Int) = 96 + x + 1 := o1
      have o2 : IntKind.i64.wrap ((BitVec.ofInt 64 (IntKind.i64.wrap ((BitVec.ofInt 64 96 ||| (BitVec.ofInt 64 x)).toNat : Int)) ||| (BitVec.ofInt 64 2)).toNat : Int) = 96 + x + 2 := o2
      have o3 : IntKind.i64.wrap ((BitVec.ofInt 64 (IntKind.i64.wrap ((BitVec.ofInt 64 96 ||| (BitVec.ofInt 64 x)).toNat : Int)) ||| (BitVec.ofInt 64 3)).toNat : Int) = 96 + x + 3 := o3
      refine ⟨by unfold inB; omega, x, Sep.ld0 hs (by rw [Nat.zero_add, Int.toNat_natCast, Nat.mul_one]; exact hop), _, _, Sep.lds2 hs rfl, Sep.nw hs fun i4 H5 h5 => ?_⟩
      rw [o1] at h5
      refine rows_s (r := ⟨true, true, true, false, -2147483648, 2147483647, true, 0⟩) (ops := [96 + x + 1]) (by simp) (Sep.up2 h5) fun H7 h7 => ⟨rfl, _, _, Sep.lds2 h7 rfl, Sep.nw h7 fun i10 H11 h11 => ?_⟩
      rw [o2] at h11
      refine rows_s (r := ⟨true, false, true, true, -2147483648, 2147483647, false, 0⟩) (ops := [96 + x + 2]) (by simp) (Sep.up1 h11) fun H13 h13 => ⟨rfl, _, _, Sep.lds2 h13 rfl, Sep.nw h13 fun i16 H17 h17 => ?_⟩
      rw [o3] at h17
      refine rows_s (r := ⟨true, true, true, false, -2147483648, 2147483647, false, 0⟩) (ops := [96 + x + 3]) (by simp) (Sep.up1 h17) fun H19 h19 => ⟨rfl, 4 - (j + 1), by omega, j + 1, by omega, rfl, ?_, ?_⟩
      · rw [wrap_i64 (by omega)]; omega
      · rw [e, memN_snoc, rMem_eq]
        exact Sep.up1 h19
    · simp only [decide_eq_false_iff_not] at h1
      obtain rfl : j = 4 := by omega
      rw [mems_all] at hs
      have hs := hs.tail
      refine ⟨_, _, Sep.lds1 hs rfl, Sep.nw hs fun i37 H38 h38 => ?_⟩
      exact rows_s (r := rAtom) (ops := [195, 219]) (by simp) (Sep.up1 h38) fun H40 h40 => ⟨rfl, hR H40 b (by rw [tab_eq]; exact h40)⟩
end Go.Proofs.YtmgkngdbphkmmaaDoor

/-
  What is wrong with an instruction: the code's check answers chkI.
-/
namespace Go.Proofs.YtmgkngdbphkmmaaDoor
open Go Go.AS Go.RowKit
set_option linter.unusedVariables false
variable {H H' : Heap} {R : Value → Heap → Prop} {L : List Asr} {b : Nat} {l : RT} {x : Ins} {r : Rw}

abbrev Ins.val (x : Ins) : Value := .agg #[I x.op, I x.dst, I x.src, I x.off, I x.imm]
abbrev Ins.cells (x : Ins) : List Value := [I x.op, I x.dst, I x.src, I x.off, I x.imm]

theorem contains_s {i : Nat} {w : Bool} {z : Nat} {xs : List Int} {v : Int} (hl : xs.length < 4611686018427387904) (h : H.get i = some (.cells w z (xs.map fun o => I o))) (hR : R (.bool (decide (v ∈ xs))) H) :
    CA en F.slices_Contains_int_int [.slice (some ⟨i, 0, none⟩) xs.length 0, I v] H R := by
  apply vc_slices_Contains_int_int
  apply vc_slices_Index_int_int
  refine use_slices_Index_int_int_0 (fun k t4 t8 H' => ∃ j : Nat, j ≤ xs.length ∧ k = xs.length - j ∧ t8 = (j : Int) ∧ H' = H ∧ v ∉ xs.take j) xs.length ⟨0, by omega, rfl, rfl, rfl, by simp⟩ ?_
  rintro k t4 t8 ys H' ⟨j, hj, rfl, rfl, rfl, hn⟩
  refine cond_of (fun h1 => ?_) fun h1 => ?_
  · simp only [decide_eq_true_eq] at h1
    have hj' : j < xs.length := by omega
    refine ⟨by unfold inB; omega, asRow_in ⟨xs[j], by rw [cell_of h]; simp [List.getElem?_eq_getElem hj'], cond_of (fun e => ?_) fun e => ?_⟩⟩
    · have e : v = xs[j] := by simpa using e
      refine asInt_in ⟨_, rfl, ?_⟩
      have : decide (v ∈ xs) = true := decide_eq_true (by rw [e]; exact List.getElem_mem _)
      rw [this] at hR
      have e2 : decide (((j : Nat) : Int) ≥ 0) = true := by simp
      rw [e2]
      exact hR
    · have e : ¬ v = xs[j] := by simpa using e
      refine ⟨xs.length - (j + 1), by omega, j + 1, by omega, rfl, ?_, rfl, ?_⟩
      · rw [wrap_i64 (by omega)]; omega
      · rw [List.take_add_one, List.getElem?_eq_getElem hj']
        simp only [Option.toList_some, List.mem_append, List.mem_singleton, not_or]
        exact ⟨hn, e⟩
  · simp only [decide_eq_false_iff_not] at h1
    obtain rfl : j = xs.length := by omega
    rw [List.take_length] at hn
    refine asInt_in ⟨_, rfl, ?_⟩
    rw [decide_eq_false hn] at hR
    exact hR

theorem fetch_and (imm : Int) : (isAtom imm && (IntKind.i64.wrap ((BitVec.ofInt 64 imm &&& (BitVec.ofInt 64 1)).toNat : Int) == 1)) = fetches imm := by
  by_cases h : imm = 0 ∨ imm = 64 ∨ imm = 80 ∨ imm = 160 ∨ imm = 1 ∨ imm = 65 ∨ imm = 81 ∨ imm = 161 ∨ imm = 225 ∨ imm = 241
  · rcases h with rfl | rfl | rfl | rfl | rfl | rfl | rfl | rfl | rfl | rfl <;> decide
  · have e1 : isAtom imm = false := decide_eq_false h
    have e2 : fetches imm = false := decide_eq_false fun h' => h (by omega)
    rw [e1, e2]; rfl

theorem atom_mem (imm : Int) : decide (imm ∈ [0, 64, 80, 160, 1, 65, 81, 161, 225, (241 : Int)]) = isAtom imm := by
  unfold isAtom
  simp only [List.mem_cons, List.not_mem_nil, or_false]

theorem atomic_s {imm : Int} (h : Sep H (gh :: ga :: L)) (hR : R (.tuple #[.bool (isAtom imm), .bool (fetches imm)]) H) : CA en F.insn_Atomic [I imm] H R := by
  apply vc_insn_Atomic
  refine ⟨⟨_, _, Sep.get1 h⟩, contains_s (i := 1) (xs := [0, 64, 80, 160, 1, 65, 81, 161, 225, 241]) (by decide) (Sep.get1 h) ⟨_, rfl, ?_⟩⟩
  rw [atom_mem]
  have := fetch_and imm
  cases ha : isAtom imm
  · rw [ha] at this hR
    rw [← this] at hR
    exact cond_no rfl hR
  · rw [ha, Bool.true_and] at this
    rw [ha, ← this] at hR
    exact cond_yes rfl hR

/-- What a row asks of registers. -/
def opA (op : Int) : Bool := (IntKind.i64.wrap ((BitVec.ofInt 64 op &&& (BitVec.ofInt 64 7)).toNat : Int) == 3) && (IntKind.i64.wrap ((BitVec.ofInt 64 op &&& (BitVec.ofInt 64 224)).toNat : Int) == 192)
def regI (r : Rw) (x : Ins) : Bool := decide (0 ≤ x.dst ∧ x.dst ≤ 10 ∧ 0 ≤ x.src ∧ x.src ≤ 10 ∧ ¬ (r.wr = true ∧ x.dst = 10) ∧ ¬ (opA x.op = true ∧ fetches x.imm = true ∧ x.src = 10))
def oddI (r : Rw) (x : Ins) : Bool := decide ((r.d = false ∧ x.dst ≠ 0) ∨ (r.s = false ∧ x.src ≠ 0) ∨ (r.o = false ∧ x.off ≠ 0) ∨ (r.i = false ∧ x.imm ≠ 0))

theorem rgstr_s {v : Int} (hR : R (.bool (decide (0 ≤ v ∧ v ≤ 10))) H) : CA en F.insn_register [I v] H R := by
  apply vc_insn_register
  refine cond_of (fun h => ?_) fun h => ?_
  · have h : 0 ≤ v := by simpa using h
    have e : decide (0 ≤ v ∧ v ≤ 10) = decide (v ≤ 10) := by simp [h]
    rw [e] at hR; exact hR
  · have h : ¬ 0 ≤ v := by simpa using h
    rw [decide_eq_false (fun h' => h h'.1)] at hR; exact hR

theorem registers_s (h : Sep H (gh :: ga :: L)) (hR : ∀ H', Sep H' (gh :: ga :: L) → R (.bool (regI r x)) H') : CA en F.insn_row_registers [rv r, x.val] H R := by
  apply vc_insn_row_registers (hx0_7 := onlyV_cases r.only)
  refine Sep.nw h fun i1 H2 h2 => Sep.nw h2 fun i3 H4 h4 => ⟨_, Sep.ld0 h4 rfl, atomic_s (Sep.up3 (Sep.up3 h4)) ⟨_, _, rfl, _, Sep.ld0 h4 rfl, ?_⟩⟩
  apply vc_insn_Class
  refine ⟨_, rfl, ?_⟩
  have hr := hR H4 h4.tail.tail
  -- the answer, by its parts
  have ans : ∀ b : Bool, b = regI r x → R (.bool b) H4 := fun b e => e ▸ hr
  refine cond_of (fun c3 => ?_) fun c3 => ?_
  · refine ⟨_, Sep.ld0 h4 rfl, _, Sep.ld0 h4 rfl, rgstr_s ⟨_, rfl, cond_of (fun d => ?_) fun d => ?_⟩⟩
    · refine ⟨_, Sep.ld0 h4 rfl, rgstr_s ⟨_, rfl, cond_of (fun s => ?_) fun s => ?_⟩⟩
      · simp only [decide_eq_true_eq] at d s
        refine ⟨_, Sep.ld1 h4 rfl, cond_of (fun w => ?_) fun w => ?_⟩
        · refine ⟨_, Sep.ld0 h4 rfl, cond_of (fun t => ?_) fun t => ?_⟩
          · refine cond_of (fun m => cond_of (fun f => ⟨_, Sep.ld0 h4 rfl, ans _ ?_⟩) fun f => ans _ ?_) fun m => ans _ ?_
            all_goals simp_all [regI, opA]
            all_goals first | rfl | (rw [Bool.eq_iff_iff]; simp; done) | (intros; omega)
          · refine ans _ ?_
            simp_all [regI, opA]
        · refine cond_of (fun m => cond_of (fun f => ⟨_, Sep.ld0 h4 rfl, ans _ ?_⟩) fun f => ans _ ?_) fun m => ans _ ?_
          all_goals simp_all [regI, opA]
          all_goals first | rfl | (rw [Bool.eq_iff_iff]; simp; done) | (intros; omega)
      · refine ans _ ?_
        simp only [decide_eq_false_iff_not] at s
        unfold regI
        rw [eq_comm, decide_eq_false_iff_not]; omega
    · refine ans _ ?_
      simp only [decide_eq_false_iff_not] at d
      unfold regI
      rw [eq_comm, decide_eq_false_iff_not]; omega
  · refine ⟨_, Sep.ld0 h4 rfl, rgstr_s ⟨_, rfl, cond_of (fun d => ?_) fun d => ?_⟩⟩
    · refine ⟨_, Sep.ld0 h4 rfl, rgstr_s ⟨_, rfl, cond_of (fun s => ?_) fun s => ?_⟩⟩
      · simp only [decide_eq_true_eq] at d s
        refine ⟨_, Sep.ld1 h4 rfl, cond_of (fun w => ?_) fun w => ?_⟩
        · refine ⟨_, Sep.ld0 h4 rfl, cond_of (fun t => ans _ ?_) fun t => ans _ ?_⟩
          all_goals simp_all [regI, opA]
        · refine ans _ ?_
          simp_all [regI, opA]
      · refine ans _ ?_
        simp only [decide_eq_false_iff_not] at s
        unfold regI
        rw [eq_comm, decide_eq_false_iff_not]; omega
    · refine ans _ ?_
      simp only [decide_eq_false_iff_not] at d
      unfold regI
      rw [eq_comm, decide_eq_false_iff_not]; omega

theorem odd_s (h : Sep H L) (hR : ∀ H', Sep H' L → R (.bool (oddI r x)) H') : CA en F.insn_names_odd [.agg #[.bool r.d, .bool r.s, .bool r.o, .bool r.i], x.val] H R := by
  apply vc_insn_names_odd
  refine Sep.nw h fun i1 H2 h2 => Sep.nw h2 fun i3 H4 h4 => ?_
  have ans : ∀ b : Bool, b = oddI r x → R (.bool b) H4 := fun b e => e ▸ hR H4 h4.tail.tail
  repeat' first
    | (refine ans _ ?_)
    | (refine ⟨_, Sep.ld1 h4 rfl, ?_⟩)
    | (refine ⟨_, Sep.ld0 h4 rfl, ?_⟩)
    | (refine cond_of (fun _ => ?_) fun _ => ?_)
    | fail
  all_goals simp_all [oddI]
  all_goals first | rfl | (rw [Bool.eq_iff_iff]; simp; done) | (intros; omega)

theorem out_s {lo hi v : Int} (h : Sep H L) (hR : ∀ H', Sep H' L → R (.bool (decide (v < lo ∨ v > hi))) H') : CA en F.insn_bounds_out [.agg #[I lo, I hi], I v] H R := by
  apply vc_insn_bounds_out
  refine Sep.nw h fun i1 H2 h2 => ⟨_, Sep.ld0 h2 rfl, cond_of (fun c => ?_) fun c => ⟨_, Sep.ld0 h2 rfl, ?_⟩⟩
  · have := hR H2 h2.tail
    rw [decide_eq_true (.inl (by simpa using c))] at this
    exact this
  · have := hR H2 h2.tail
    have e : decide (v < lo ∨ v > hi) = decide (v > hi) := by
      have c : ¬ v < lo := by simpa using c
      simp [c]
    rw [e] at this
    exact this

def fid (n : Nat) : Nat := if n = 1 then F.insn_alus_1 else if n = 2 then F.insn_table_1 else F.insn_table_2
theorem only_s {n : Nat} (hn : n = 1 ∨ n = 2 ∨ n = 3) (h : Sep H (gh :: ga :: L)) (hR : ∀ H', Sep H' (gh :: ga :: L) → R (.bool (onlyI n x)) H') : CA en (fid n) [x.val] H R := by
  rcases hn with rfl | rfl | rfl
  · show CA en F.insn_alus_1 [x.val] H R
    apply vc_insn_alus_1
    refine Sep.nw h fun i1 H2 h2 => ?_
    have ans : ∀ b : Bool, b = onlyI 1 x → R (.bool b) H2 := fun b e => e ▸ hR H2 h2.tail
    refine ⟨_, Sep.ld0 h2 rfl, cond_of (fun c => ans _ ?_) fun c => ⟨_, Sep.ld0 h2 rfl, cond_of (fun d => ans _ ?_) fun d => ⟨_, Sep.ld0 h2 rfl, ans _ ?_⟩⟩⟩
    all_goals simp_all [onlyI]
    all_goals rw [Bool.eq_iff_iff]; simp
  · show CA en F.insn_table_1 [x.val] H R
    apply vc_insn_table_1
    refine Sep.nw h fun i1 H2 h2 => ?_
    have ans : ∀ b : Bool, b = onlyI 2 x → R (.bool b) H2 := fun b e => e ▸ hR H2 h2.tail
    refine ⟨_, Sep.ld0 h2 rfl, cond_of (fun c => ans _ ?_) fun c => ⟨_, Sep.ld0 h2 rfl, cond_of (fun d => ⟨_, Sep.ld0 h2 rfl, ans _ ?_⟩) fun d => ans _ ?_⟩⟩
    all_goals simp_all [onlyI]
    all_goals first | rfl | (rw [Bool.eq_iff_iff]; simp; done) | (intros; omega)
  · show CA en F.insn_table_2 [x.val] H R
    apply vc_insn_table_2
    refine Sep.nw h fun i1 H2 h2 => ⟨_, Sep.ld0 h2 rfl, atomic_s (Sep.up2 (Sep.up2 h2)) ⟨_, _, rfl, ?_⟩⟩
    exact hR H2 h2.tail

theorem asFnNil_func {f : Fn} {fs cs : Array Value} {K : Bool → Prop} (h : K false) : asFnNil (.func f fs cs) K := h
theorem asFnNil_nil {K : Bool → Prop} (h : K true) : asFnNil .nilFunc K := h

theorem row_more {op : Int} {r : Rw} (h : refRow op = some r) : opA op = decide (op = 195 ∨ op = 219) ∧ (r.only = 0 ∨ r.only = 1 ∨ r.only = 2 ∨ r.only = 3) := by
  have hb := row_bd h
  have all : ∀ j : Fin 256, (match refRow ((j : Nat) : Int) with | none => true | some r => decide (opA ((j : Nat) : Int) = decide (((j : Nat) : Int) = 195 ∨ ((j : Nat) : Int) = 219) ∧ (r.only = 0 ∨ r.only = 1 ∨ r.only = 2 ∨ r.only = 3))) = true := by decide +kernel
  obtain ⟨n, rfl⟩ := Int.eq_ofNat_of_zero_le hb.1
  have := all ⟨n, by omega⟩
  simp only [h, decide_eq_true_eq] at this
  exact this

theorem chk_some {r : Rw} (h : refRow x.op = some r) : chkI x = if regI r x = false then 8 else if oddI r x = true ∨ (x.op = 24 ∧ x.src > 1) then 9
    else if x.off < -32768 ∨ x.off > 32767 ∨ (x.imm < r.low ∨ x.imm > r.high) ∨ onlyI r.only x = false then 10 else 0 := by
  unfold chkI
  rw [h]
  have ha := (row_more h).1
  simp only
  have e1 : (regI r x = false) ↔ ¬ (0 ≤ x.dst ∧ x.dst ≤ 10 ∧ 0 ≤ x.src ∧ x.src ≤ 10 ∧ ¬ (r.wr = true ∧ x.dst = 10) ∧ ¬ ((x.op = 195 ∨ x.op = 219) ∧ fetches x.imm = true ∧ x.src = 10)) := by
    unfold regI
    rw [decide_eq_false_iff_not, ha, decide_eq_true_eq]
  have e2 : (oddI r x = true ∨ (x.op = 24 ∧ x.src > 1)) ↔ ((r.d = false ∧ x.dst ≠ 0) ∨ (r.s = false ∧ x.src ≠ 0) ∨ (r.o = false ∧ x.off ≠ 0) ∨ (r.i = false ∧ x.imm ≠ 0) ∨ (x.op = 24 ∧ x.src > 1)) := by
    unfold oddI
    rw [decide_eq_true_eq]
    constructor
    · rintro ((h | h | h | h) | h)
      · exact .inl h
      · exact .inr (.inl h)
      · exact .inr (.inr (.inl h))
      · exact .inr (.inr (.inr (.inl h)))
      · exact .inr (.inr (.inr (.inr h)))
    · rintro (h | h | h | h | h)
      · exact .inl (.inl h)
      · exact .inl (.inr (.inl h))
      · exact .inl (.inr (.inr (.inl h)))
      · exact .inl (.inr (.inr (.inr h)))
      · exact .inr h
  have e3 : (x.off < -32768 ∨ x.off > 32767 ∨ (x.imm < r.low ∨ x.imm > r.high) ∨ onlyI r.only x = false) ↔ (x.off < -32768 ∨ x.off > 32767 ∨ x.imm < r.low ∨ x.imm > r.high ∨ onlyI r.only x = false) := by
    rw [or_assoc]
  by_cases c1 : regI r x = false
  · rw [if_pos c1, if_pos (e1.1 c1)]
  · rw [if_neg c1, if_neg (fun h => c1 (e1.2 h))]
    by_cases c2 : oddI r x = true ∨ (x.op = 24 ∧ x.src > 1)
    · rw [if_pos c2, if_pos (e2.1 c2)]
    · rw [if_neg c2, if_neg (fun h => c2 (e2.2 h))]
      by_cases c3 : x.off < -32768 ∨ x.off > 32767 ∨ (x.imm < r.low ∨ x.imm > r.high) ∨ onlyI r.only x = false
      · rw [if_pos c3, if_pos (e3.1 c3)]
      · rw [if_neg c3, if_neg (fun h => c3 (e3.2 h))]

set_option maxHeartbeats 2000000 in
theorem check_s (h : Sep H (gh :: ga :: L)) (hR : ∀ H', Sep H' (gh :: ga :: L) → R (I (chkI x)) H') : CA en F.insn_Check [x.val] H R := by
  apply vc_insn_Check
  refine Sep.nw h fun i1 H2 h2 => ?_
  have hT := h2.fore1 (n := 10) (a := 7) (.cells true 0 [.bool false, .bool false, .bool false, .bool false, I 0, I 0, .bool false, .nilFunc]) (by decide)
  refine table_s (Sep.up3 (Sep.up3 hT)) fun H4 b h4 => ⟨_, rfl, ?_⟩
  refine ⟨_, Sep.ld4 h4 rfl, im_look h4 x.op fun r7 hr7 => ?_⟩
  rw [alook_tv, tab_row] at hr7
  have duty := And.intro (And.intro (⟨_, Sep.get0 hT, rfl⟩ : ∃ c18, _ = some (AS.Obj.cells true 0 c18) ∧ sameN.sameL 8 [.bool false, .bool false, .bool false, .bool false, I 0, I 0, .bool false, .nilFunc] c18 = true) (And.intro (⟨_, Sep.get3 h4, rfl⟩ : ∃ c17, _ = some (AS.Obj.cells true 0 c17) ∧ sameN.sameL 8 [.bool false, .bool false, .bool false, .bool false, I 0, I 0, .bool false, .nilFunc] c17 = true) trivial))
    (And.intro (And.intro (⟨_, Sep.ld1 hT (o := 0) rfl, rfl⟩ : ∃ n20, _ = some (I n20) ∧ x.op = n20) (And.intro (⟨_, Sep.ld4 h4 (o := 0) rfl, rfl⟩ : ∃ n19, _ = some (I n19) ∧ x.op = n19) trivial)) trivial)
  cases hrow : refRow x.op with
  | none =>
    rw [hrow] at hr7
    have e7 : r7 = none := by cases r7 with | none => rfl | some p => cases hr7
    subst e7
    refine ⟨_, _, _, _, _, _, _, .inl ⟨rfl, Sep.st3 h4 (Nat.le_of_ble_eq_true rfl) fun H16 h16 => ⟨cond_yes rfl ?_, duty⟩⟩⟩
    have := hR H16 (Sep.rm2 (Sep.rm2 (Sep.rm2 (Sep.up2 (Sep.up2 h16)))))
    have e : chkI x = 7 := by unfold chkI; rw [hrow]
    rw [e] at this
    exact this
  | some r =>
    rw [hrow] at hr7
    have hchk := chk_some hrow
    have hon := (row_more hrow).2
    obtain ⟨d, s, o, i, low, high, wr, only⟩ := r
    obtain ⟨n7, e7⟩ : ∃ n7, r7 = some (n7, rv ⟨d, s, o, i, low, high, wr, only⟩) := by
      cases r7 with
      | none => cases hr7
      | some p => exact ⟨p.1, by have := Option.some.inj hr7; rw [← this]⟩
    subst e7
    have ans : ∀ (H : Heap) (v : Int) {A B C : Asr}, v = chkI x → Sep H (gh :: ga :: A :: B :: C :: L) → R (I v) H := fun H v A B C e h => by rw [e]; exact hR H (Sep.rm2 (Sep.rm2 (Sep.rm2 h)))
    simp only at hon hchk
    rcases hon with rfl | rfl | rfl | rfl
    · refine ⟨_, _, _, _, _, _, _, .inl ⟨rfl, Sep.st3 h4 (Nat.le_of_ble_eq_true rfl) fun H16 h16 => ⟨cond_no rfl ?_, duty⟩⟩⟩
      have h16 : Sep H16 (tb b tab :: gh :: ga :: bx (H2.next + 7) (.cells true 0 (rcells ⟨d, s, o, i, low, high, wr, 0⟩)) :: bx i1 (.cells true 0 x.cells) :: L) := h16
      refine ⟨_, _, _, _, _, _, _, .inl ⟨Sep.lds3 h16 rfl, _, _, _, _, _, Sep.lds4 h16 rfl, ?_⟩⟩
      refine registers_s (r := ⟨d, s, o, i, low, high, wr, 0⟩) (x := x) (Sep.up2 (Sep.up2 h16)) fun H35 h35 => ⟨_, rfl, cond_of (fun g8 => ans _ _ ?_ h35) fun g8 => ?_⟩
      · rw [hchk, if_pos (by simpa using g8)]
      have g8 : regI ⟨d, s, o, i, low, high, wr, 0⟩ x = true := by simpa using g8
      refine ⟨_, _, _, _, Sep.lds3 h35 rfl, _, _, _, _, _, Sep.lds4 h35 rfl, odd_s (r := ⟨d, s, o, i, low, high, wr, 0⟩) (x := x) h35 fun H47 h47 => ⟨_, rfl, cond_of (fun g9 => ans _ _ ?_ h47) fun g9 => ⟨_, Sep.ld4 h47 rfl, cond_of (fun w => ⟨_, Sep.ld4 h47 rfl, cond_of (fun h50 => ans _ _ ?_ h47) fun h50 => ?_⟩) fun w => ?_⟩⟩⟩
      · rw [hchk, if_neg (by rw [g8]; decide), if_pos (.inl g9)]
      · rw [hchk, if_neg (by rw [g8]; decide), if_pos (.inr ⟨by simpa using w, by simpa using h50⟩)]
      · refine ⟨_, Sep.ld4 h47 rfl, cond_of (fun h51 => ans _ _ ?_ h47) fun h51 => ⟨_, Sep.ld4 h47 rfl, cond_of (fun h52 => ans _ _ ?_ h47) fun h52 => ?_⟩⟩
        · rw [hchk, if_neg (by rw [g8]; decide), if_neg (fun q => q.elim (fun q => Bool.noConfusion (g9.symm.trans q)) fun q => absurd q.2 (of_decide_eq_false h50)), if_pos (.inl (by simpa using h51))]
        · rw [hchk, if_neg (by rw [g8]; decide), if_neg (fun q => q.elim (fun q => Bool.noConfusion (g9.symm.trans q)) fun q => absurd q.2 (of_decide_eq_false h50)), if_pos (.inr (.inl (by simpa using h52)))]
        simp only [decide_eq_false_iff_not] at h51 h52
        refine ⟨_, _, Sep.lds3 h47 rfl, _, Sep.ld4 h47 rfl, out_s h47 fun H57 h57 => ⟨_, rfl, cond_of (fun gout => ans _ _ ?_ h57) fun gout => ?_⟩⟩
        · rw [hchk, if_neg (by rw [g8]; decide), if_neg (fun q => q.elim (fun q => Bool.noConfusion (g9.symm.trans q)) fun q => absurd q.2 (of_decide_eq_false h50)), if_pos (.inr (.inr (.inl (of_decide_eq_true gout))))]
        · have gout := of_decide_eq_false gout
          refine ⟨_, Sep.ld3 h57 rfl, asFnNil_nil (cond_no rfl (ans _ _ ?_ h57))⟩
          rw [hchk, if_neg (by rw [g8]; decide), if_neg (fun q => q.elim (fun q => Bool.noConfusion (g9.symm.trans q)) fun q => absurd q.2 (of_decide_eq_false h50)), if_neg (fun q => q.elim h51 fun q => q.elim h52 fun q => q.elim gout fun q => by cases q)]
      · refine ⟨_, Sep.ld4 h47 rfl, cond_of (fun h51 => ans _ _ ?_ h47) fun h51 => ⟨_, Sep.ld4 h47 rfl, cond_of (fun h52 => ans _ _ ?_ h47) fun h52 => ?_⟩⟩
        · rw [hchk, if_neg (by rw [g8]; decide), if_neg (fun q => q.elim (fun q => Bool.noConfusion (g9.symm.trans q)) fun q => absurd q.1 (by simpa using w)), if_pos (.inl (by simpa using h51))]
        · rw [hchk, if_neg (by rw [g8]; decide), if_neg (fun q => q.elim (fun q => Bool.noConfusion (g9.symm.trans q)) fun q => absurd q.1 (by simpa using w)), if_pos (.inr (.inl (by simpa using h52)))]
        simp only [decide_eq_false_iff_not] at h51 h52
        refine ⟨_, _, Sep.lds3 h47 rfl, _, Sep.ld4 h47 rfl, out_s h47 fun H57 h57 => ⟨_, rfl, cond_of (fun gout => ans _ _ ?_ h57) fun gout => ?_⟩⟩
        · rw [hchk, if_neg (by rw [g8]; decide), if_neg (fun q => q.elim (fun q => Bool.noConfusion (g9.symm.trans q)) fun q => absurd q.1 (by simpa using w)), if_pos (.inr (.inr (.inl (of_decide_eq_true gout))))]
        · have gout := of_decide_eq_false gout
          refine ⟨_, Sep.ld3 h57 rfl, asFnNil_nil (cond_no rfl (ans _ _ ?_ h57))⟩
          rw [hchk, if_neg (by rw [g8]; decide), if_neg (fun q => q.elim (fun q => Bool.noConfusion (g9.symm.trans q)) fun q => absurd q.1 (by simpa using w)), if_neg (fun q => q.elim h51 fun q => q.elim h52 fun q => q.elim gout fun q => by cases q)]
    · refine ⟨_, _, _, _, _, _, _, .inr ⟨_, rfl, Sep.st3 h4 (Nat.le_of_ble_eq_true rfl) fun H16 h16 => ⟨cond_no rfl ?_, duty⟩⟩⟩
      have h16 : Sep H16 (tb b tab :: gh :: ga :: bx (H2.next + 7) (.cells true 0 (rcells ⟨d, s, o, i, low, high, wr, 1⟩)) :: bx i1 (.cells true 0 x.cells) :: L) := h16
      refine ⟨_, _, _, _, _, _, _, .inr ⟨_, Sep.lds3 h16 rfl, _, _, _, _, _, Sep.lds4 h16 rfl, ?_⟩⟩
      refine registers_s (r := ⟨d, s, o, i, low, high, wr, 1⟩) (x := x) (Sep.up2 (Sep.up2 h16)) fun H35 h35 => ⟨_, rfl, cond_of (fun g8 => ans _ _ ?_ h35) fun g8 => ?_⟩
      · rw [hchk, if_pos (by simpa using g8)]
      have g8 : regI ⟨d, s, o, i, low, high, wr, 1⟩ x = true := by simpa using g8
      refine ⟨_, _, _, _, Sep.lds3 h35 rfl, _, _, _, _, _, Sep.lds4 h35 rfl, odd_s (r := ⟨d, s, o, i, low, high, wr, 1⟩) (x := x) h35 fun H47 h47 => ⟨_, rfl, cond_of (fun g9 => ans _ _ ?_ h47) fun g9 => ⟨_, Sep.ld4 h47 rfl, cond_of (fun w => ⟨_, Sep.ld4 h47 rfl, cond_of (fun h50 => ans _ _ ?_ h47) fun h50 => ?_⟩) fun w => ?_⟩⟩⟩
      · rw [hchk, if_neg (by rw [g8]; decide), if_pos (.inl g9)]
      · rw [hchk, if_neg (by rw [g8]; decide), if_pos (.inr ⟨by simpa using w, by simpa using h50⟩)]
      · refine ⟨_, Sep.ld4 h47 rfl, cond_of (fun h51 => ans _ _ ?_ h47) fun h51 => ⟨_, Sep.ld4 h47 rfl, cond_of (fun h52 => ans _ _ ?_ h47) fun h52 => ?_⟩⟩
        · rw [hchk, if_neg (by rw [g8]; decide), if_neg (fun q => q.elim (fun q => Bool.noConfusion (g9.symm.trans q)) fun q => absurd q.2 (of_decide_eq_false h50)), if_pos (.inl (by simpa using h51))]
        · rw [hchk, if_neg (by rw [g8]; decide), if_neg (fun q => q.elim (fun q => Bool.noConfusion (g9.symm.trans q)) fun q => absurd q.2 (of_decide_eq_false h50)), if_pos (.inr (.inl (by simpa using h52)))]
        simp only [decide_eq_false_iff_not] at h51 h52
        refine ⟨_, _, Sep.lds3 h47 rfl, _, Sep.ld4 h47 rfl, out_s h47 fun H57 h57 => ⟨_, rfl, cond_of (fun gout => ans _ _ ?_ h57) fun gout => ?_⟩⟩
        · rw [hchk, if_neg (by rw [g8]; decide), if_neg (fun q => q.elim (fun q => Bool.noConfusion (g9.symm.trans q)) fun q => absurd q.2 (of_decide_eq_false h50)), if_pos (.inr (.inr (.inl (of_decide_eq_true gout))))]
        · have gout := of_decide_eq_false gout
          refine ⟨_, Sep.ld3 h57 rfl, asFnNil_func (cond_yes rfl ⟨_, Sep.ld3 h57 rfl, _, _, _, _, _, Sep.lds4 h57 rfl, asFn_in ⟨Option.isSome_iff_exists.1 (by kernel_rfl), ?_⟩⟩)⟩
          refine only_s (n := 1) (x := x) (by decide) h57 fun H71 h71 => ⟨_, rfl, cond_of (fun g => ans _ _ ?_ h71) fun g => ans _ _ ?_ h71⟩
          · rw [hchk, if_neg (by rw [g8]; decide), if_neg (fun q => q.elim (fun q => Bool.noConfusion (g9.symm.trans q)) fun q => absurd q.2 (of_decide_eq_false h50)), if_pos (.inr (.inr (.inr (by simpa using g))))]
          · rw [hchk, if_neg (by rw [g8]; decide), if_neg (fun q => q.elim (fun q => Bool.noConfusion (g9.symm.trans q)) fun q => absurd q.2 (of_decide_eq_false h50)), if_neg (fun q => q.elim h51 fun q => q.elim h52 fun q => q.elim gout fun q => by simp_all)]
      · refine ⟨_, Sep.ld4 h47 rfl, cond_of (fun h51 => ans _ _ ?_ h47) fun h51 => ⟨_, Sep.ld4 h47 rfl, cond_of (fun h52 => ans _ _ ?_ h47) fun h52 => ?_⟩⟩
        · rw [hchk, if_neg (by rw [g8]; decide), if_neg (fun q => q.elim (fun q => Bool.noConfusion (g9.symm.trans q)) fun q => absurd q.1 (by simpa using w)), if_pos (.inl (by simpa using h51))]
        · rw [hchk, if_neg (by rw [g8]; decide), if_neg (fun q => q.elim (fun q => Bool.noConfusion (g9.symm.trans q)) fun q => absurd q.1 (by simpa using w)), if_pos (.inr (.inl (by simpa using h52)))]
        simp only [decide_eq_false_iff_not] at h51 h52
        refine ⟨_, _, Sep.lds3 h47 rfl, _, Sep.ld4 h47 rfl, out_s h47 fun H57 h57 => ⟨_, rfl, cond_of (fun gout => ans _ _ ?_ h57) fun gout => ?_⟩⟩
        · rw [hchk, if_neg (by rw [g8]; decide), if_neg (fun q => q.elim (fun q => Bool.noConfusion (g9.symm.trans q)) fun q => absurd q.1 (by simpa using w)), if_pos (.inr (.inr (.inl (of_decide_eq_true gout))))]
        · have gout := of_decide_eq_false gout
          refine ⟨_, Sep.ld3 h57 rfl, asFnNil_func (cond_yes rfl ⟨_, Sep.ld3 h57 rfl, _, _, _, _, _, Sep.lds4 h57 rfl, asFn_in ⟨Option.isSome_iff_exists.1 (by kernel_rfl), ?_⟩⟩)⟩
          refine only_s (n := 1) (x := x) (by decide) h57 fun H71 h71 => ⟨_, rfl, cond_of (fun g => ans _ _ ?_ h71) fun g => ans _ _ ?_ h71⟩
          · rw [hchk, if_neg (by rw [g8]; decide), if_neg (fun q => q.elim (fun q => Bool.noConfusion (g9.symm.trans q)) fun q => absurd q.1 (by simpa using w)), if_pos (.inr (.inr (.inr (by simpa using g))))]
          · rw [hchk, if_neg (by rw [g8]; decide), if_neg (fun q => q.elim (fun q => Bool.noConfusion (g9.symm.trans q)) fun q => absurd q.1 (by simpa using w)), if_neg (fun q => q.elim h51 fun q => q.elim h52 fun q => q.elim gout fun q => by simp_all)]
    · refine ⟨_, _, _, _, _, _, _, .inr ⟨_, rfl, Sep.st3 h4 (Nat.le_of_ble_eq_true rfl) fun H16 h16 => ⟨cond_no rfl ?_, duty⟩⟩⟩
      have h16 : Sep H16 (tb b tab :: gh :: ga :: bx (H2.next + 7) (.cells true 0 (rcells ⟨d, s, o, i, low, high, wr, 2⟩)) :: bx i1 (.cells true 0 x.cells) :: L) := h16
      refine ⟨_, _, _, _, _, _, _, .inr ⟨_, Sep.lds3 h16 rfl, _, _, _, _, _, Sep.lds4 h16 rfl, ?_⟩⟩
      refine registers_s (r := ⟨d, s, o, i, low, high, wr, 2⟩) (x := x) (Sep.up2 (Sep.up2 h16)) fun H35 h35 => ⟨_, rfl, cond_of (fun g8 => ans _ _ ?_ h35) fun g8 => ?_⟩
      · rw [hchk, if_pos (by simpa using g8)]
      have g8 : regI ⟨d, s, o, i, low, high, wr, 2⟩ x = true := by simpa using g8
      refine ⟨_, _, _, _, Sep.lds3 h35 rfl, _, _, _, _, _, Sep.lds4 h35 rfl, odd_s (r := ⟨d, s, o, i, low, high, wr, 2⟩) (x := x) h35 fun H47 h47 => ⟨_, rfl, cond_of (fun g9 => ans _ _ ?_ h47) fun g9 => ⟨_, Sep.ld4 h47 rfl, cond_of (fun w => ⟨_, Sep.ld4 h47 rfl, cond_of (fun h50 => ans _ _ ?_ h47) fun h50 => ?_⟩) fun w => ?_⟩⟩⟩
      · rw [hchk, if_neg (by rw [g8]; decide), if_pos (.inl g9)]
      · rw [hchk, if_neg (by rw [g8]; decide), if_pos (.inr ⟨by simpa using w, by simpa using h50⟩)]
      · refine ⟨_, Sep.ld4 h47 rfl, cond_of (fun h51 => ans _ _ ?_ h47) fun h51 => ⟨_, Sep.ld4 h47 rfl, cond_of (fun h52 => ans _ _ ?_ h47) fun h52 => ?_⟩⟩
        · rw [hchk, if_neg (by rw [g8]; decide), if_neg (fun q => q.elim (fun q => Bool.noConfusion (g9.symm.trans q)) fun q => absurd q.2 (of_decide_eq_false h50)), if_pos (.inl (by simpa using h51))]
        · rw [hchk, if_neg (by rw [g8]; decide), if_neg (fun q => q.elim (fun q => Bool.noConfusion (g9.symm.trans q)) fun q => absurd q.2 (of_decide_eq_false h50)), if_pos (.inr (.inl (by simpa using h52)))]
        simp only [decide_eq_false_iff_not] at h51 h52
        refine ⟨_, _, Sep.lds3 h47 rfl, _, Sep.ld4 h47 rfl, out_s h47 fun H57 h57 => ⟨_, rfl, cond_of (fun gout => ans _ _ ?_ h57) fun gout => ?_⟩⟩
        · rw [hchk, if_neg (by rw [g8]; decide), if_neg (fun q => q.elim (fun q => Bool.noConfusion (g9.symm.trans q)) fun q => absurd q.2 (of_decide_eq_false h50)), if_pos (.inr (.inr (.inl (of_decide_eq_true gout))))]
        · have gout := of_decide_eq_false gout
          refine ⟨_, Sep.ld3 h57 rfl, asFnNil_func (cond_yes rfl ⟨_, Sep.ld3 h57 rfl, _, _, _, _, _, Sep.lds4 h57 rfl, asFn_in ⟨Option.isSome_iff_exists.1 (by kernel_rfl), ?_⟩⟩)⟩
          refine only_s (n := 2) (x := x) (by decide) h57 fun H71 h71 => ⟨_, rfl, cond_of (fun g => ans _ _ ?_ h71) fun g => ans _ _ ?_ h71⟩
          · rw [hchk, if_neg (by rw [g8]; decide), if_neg (fun q => q.elim (fun q => Bool.noConfusion (g9.symm.trans q)) fun q => absurd q.2 (of_decide_eq_false h50)), if_pos (.inr (.inr (.inr (by simpa using g))))]
          · rw [hchk, if_neg (by rw [g8]; decide), if_neg (fun q => q.elim (fun q => Bool.noConfusion (g9.symm.trans q)) fun q => absurd q.2 (of_decide_eq_false h50)), if_neg (fun q => q.elim h51 fun q => q.elim h52 fun q => q.elim gout fun q => by simp_all)]
      · refine ⟨_, Sep.ld4 h47 rfl, cond_of (fun h51 => ans _ _ ?_ h47) fun h51 => ⟨_, Sep.ld4 h47 rfl, cond_of (fun h52 => ans _ _ ?_ h47) fun h52 => ?_⟩⟩
        · rw [hchk, if_neg (by rw [g8]; decide), if_neg (fun q => q.elim (fun q => Bool.noConfusion (g9.symm.trans q)) fun q => absurd q.1 (by simpa using w)), if_pos (.inl (by simpa using h51))]
        · rw [hchk, if_neg (by rw [g8]; decide), if_neg (fun q => q.elim (fun q => Bool.noConfusion (g9.symm.trans q)) fun q => absurd q.1 (by simpa using w)), if_pos (.inr (.inl (by simpa using h52)))]
        simp only [decide_eq_false_iff_not] at h51 h52
        refine ⟨_, _, Sep.lds3 h47 rfl, _, Sep.ld4 h47 rfl, out_s h47 fun H57 h57 => ⟨_, rfl, cond_of (fun gout => ans _ _ ?_ h57) fun gout => ?_⟩⟩
        · rw [hchk, if_neg (by rw [g8]; decide), if_neg (fun q => q.elim (fun q => Bool.noConfusion (g9.symm.trans q)) fun q => absurd q.1 (by simpa using w)), if_pos (.inr (.inr (.inl (of_decide_eq_true gout))))]
        · have gout := of_decide_eq_false gout
          refine ⟨_, Sep.ld3 h57 rfl, asFnNil_func (cond_yes rfl ⟨_, Sep.ld3 h57 rfl, _, _, _, _, _, Sep.lds4 h57 rfl, asFn_in ⟨Option.isSome_iff_exists.1 (by kernel_rfl), ?_⟩⟩)⟩
          refine only_s (n := 2) (x := x) (by decide) h57 fun H71 h71 => ⟨_, rfl, cond_of (fun g => ans _ _ ?_ h71) fun g => ans _ _ ?_ h71⟩
          · rw [hchk, if_neg (by rw [g8]; decide), if_neg (fun q => q.elim (fun q => Bool.noConfusion (g9.symm.trans q)) fun q => absurd q.1 (by simpa using w)), if_pos (.inr (.inr (.inr (by simpa using g))))]
          · rw [hchk, if_neg (by rw [g8]; decide), if_neg (fun q => q.elim (fun q => Bool.noConfusion (g9.symm.trans q)) fun q => absurd q.1 (by simpa using w)), if_neg (fun q => q.elim h51 fun q => q.elim h52 fun q => q.elim gout fun q => by simp_all)]
    · refine ⟨_, _, _, _, _, _, _, .inr ⟨_, rfl, Sep.st3 h4 (Nat.le_of_ble_eq_true rfl) fun H16 h16 => ⟨cond_no rfl ?_, duty⟩⟩⟩
      have h16 : Sep H16 (tb b tab :: gh :: ga :: bx (H2.next + 7) (.cells true 0 (rcells ⟨d, s, o, i, low, high, wr, 3⟩)) :: bx i1 (.cells true 0 x.cells) :: L) := h16
      refine ⟨_, _, _, _, _, _, _, .inr ⟨_, Sep.lds3 h16 rfl, _, _, _, _, _, Sep.lds4 h16 rfl, ?_⟩⟩
      refine registers_s (r := ⟨d, s, o, i, low, high, wr, 3⟩) (x := x) (Sep.up2 (Sep.up2 h16)) fun H35 h35 => ⟨_, rfl, cond_of (fun g8 => ans _ _ ?_ h35) fun g8 => ?_⟩
      · rw [hchk, if_pos (by simpa using g8)]
      have g8 : regI ⟨d, s, o, i, low, high, wr, 3⟩ x = true := by simpa using g8
      refine ⟨_, _, _, _, Sep.lds3 h35 rfl, _, _, _, _, _, Sep.lds4 h35 rfl, odd_s (r := ⟨d, s, o, i, low, high, wr, 3⟩) (x := x) h35 fun H47 h47 => ⟨_, rfl, cond_of (fun g9 => ans _ _ ?_ h47) fun g9 => ⟨_, Sep.ld4 h47 rfl, cond_of (fun w => ⟨_, Sep.ld4 h47 rfl, cond_of (fun h50 => ans _ _ ?_ h47) fun h50 => ?_⟩) fun w => ?_⟩⟩⟩
      · rw [hchk, if_neg (by rw [g8]; decide), if_pos (.inl g9)]
      · rw [hchk, if_neg (by rw [g8]; decide), if_pos (.inr ⟨by simpa using w, by simpa using h50⟩)]
      · refine ⟨_, Sep.ld4 h47 rfl, cond_of (fun h51 => ans _ _ ?_ h47) fun h51 => ⟨_, Sep.ld4 h47 rfl, cond_of (fun h52 => ans _ _ ?_ h47) fun h52 => ?_⟩⟩
        · rw [hchk, if_neg (by rw [g8]; decide), if_neg (fun q => q.elim (fun q => Bool.noConfusion (g9.symm.trans q)) fun q => absurd q.2 (of_decide_eq_false h50)), if_pos (.inl (by simpa using h51))]
        · rw [hchk, if_neg (by rw [g8]; decide), if_neg (fun q => q.elim (fun q => Bool.noConfusion (g9.symm.trans q)) fun q => absurd q.2 (of_decide_eq_false h50)), if_pos (.inr (.inl (by simpa using h52)))]
        simp only [decide_eq_false_iff_not] at h51 h52
        refine ⟨_, _, Sep.lds3 h47 rfl, _, Sep.ld4 h47 rfl, out_s h47 fun H57 h57 => ⟨_, rfl, cond_of (fun gout => ans _ _ ?_ h57) fun gout => ?_⟩⟩
        · rw [hchk, if_neg (by rw [g8]; decide), if_neg (fun q => q.elim (fun q => Bool.noConfusion (g9.symm.trans q)) fun q => absurd q.2 (of_decide_eq_false h50)), if_pos (.inr (.inr (.inl (of_decide_eq_true gout))))]
        · have gout := of_decide_eq_false gout
          refine ⟨_, Sep.ld3 h57 rfl, asFnNil_func (cond_yes rfl ⟨_, Sep.ld3 h57 rfl, _, _, _, _, _, Sep.lds4 h57 rfl, asFn_in ⟨Option.isSome_iff_exists.1 (by kernel_rfl), ?_⟩⟩)⟩
          refine only_s (n := 3) (x := x) (by decide) h57 fun H71 h71 => ⟨_, rfl, cond_of (fun g => ans _ _ ?_ h71) fun g => ans _ _ ?_ h71⟩
          · rw [hchk, if_neg (by rw [g8]; decide), if_neg (fun q => q.elim (fun q => Bool.noConfusion (g9.symm.trans q)) fun q => absurd q.2 (of_decide_eq_false h50)), if_pos (.inr (.inr (.inr (by simpa using g))))]
          · rw [hchk, if_neg (by rw [g8]; decide), if_neg (fun q => q.elim (fun q => Bool.noConfusion (g9.symm.trans q)) fun q => absurd q.2 (of_decide_eq_false h50)), if_neg (fun q => q.elim h51 fun q => q.elim h52 fun q => q.elim gout fun q => by simp_all)]
      · refine ⟨_, Sep.ld4 h47 rfl, cond_of (fun h51 => ans _ _ ?_ h47) fun h51 => ⟨_, Sep.ld4 h47 rfl, cond_of (fun h52 => ans _ _ ?_ h47) fun h52 => ?_⟩⟩
        · rw [hchk, if_neg (by rw [g8]; decide), if_neg (fun q => q.elim (fun q => Bool.noConfusion (g9.symm.trans q)) fun q => absurd q.1 (by simpa using w)), if_pos (.inl (by simpa using h51))]
        · rw [hchk, if_neg (by rw [g8]; decide), if_neg (fun q => q.elim (fun q => Bool.noConfusion (g9.symm.trans q)) fun q => absurd q.1 (by simpa using w)), if_pos (.inr (.inl (by simpa using h52)))]
        simp only [decide_eq_false_iff_not] at h51 h52
        refine ⟨_, _, Sep.lds3 h47 rfl, _, Sep.ld4 h47 rfl, out_s h47 fun H57 h57 => ⟨_, rfl, cond_of (fun gout => ans _ _ ?_ h57) fun gout => ?_⟩⟩
        · rw [hchk, if_neg (by rw [g8]; decide), if_neg (fun q => q.elim (fun q => Bool.noConfusion (g9.symm.trans q)) fun q => absurd q.1 (by simpa using w)), if_pos (.inr (.inr (.inl (of_decide_eq_true gout))))]
        · have gout := of_decide_eq_false gout
          refine ⟨_, Sep.ld3 h57 rfl, asFnNil_func (cond_yes rfl ⟨_, Sep.ld3 h57 rfl, _, _, _, _, _, Sep.lds4 h57 rfl, asFn_in ⟨Option.isSome_iff_exists.1 (by kernel_rfl), ?_⟩⟩)⟩
          refine only_s (n := 3) (x := x) (by decide) h57 fun H71 h71 => ⟨_, rfl, cond_of (fun g => ans _ _ ?_ h71) fun g => ans _ _ ?_ h71⟩
          · rw [hchk, if_neg (by rw [g8]; decide), if_neg (fun q => q.elim (fun q => Bool.noConfusion (g9.symm.trans q)) fun q => absurd q.1 (by simpa using w)), if_pos (.inr (.inr (.inr (by simpa using g))))]
          · rw [hchk, if_neg (by rw [g8]; decide), if_neg (fun q => q.elim (fun q => Bool.noConfusion (g9.symm.trans q)) fun q => absurd q.1 (by simpa using w)), if_neg (fun q => q.elim h51 fun q => q.elim h52 fun q => q.elim gout fun q => by simp_all)]
end Go.Proofs.YtmgkngdbphkmmaaDoor

/-
  Bytes of numbers in memory: word.Get, word.Put, insn.number.
-/
namespace Go.Proofs.YtmgkngdbphkmmaaDoor
open Go Go.AS Go.RowKit
set_option linter.unusedVariables false
variable {H H' : Heap} {R : Value → Heap → Prop} {L : List Asr} {i z o n at' size : Nat} {w : Bool} {c : List Value}

abbrev Y (b : Nat) : Value := .int .u8 (b : Int)

theorem wrap_i64' (n : Int) : IntKind.i64.wrap n = if 9223372036854775808 ≤ n % 18446744073709551616 then n % 18446744073709551616 - 18446744073709551616 else n % 18446744073709551616 := by
  show (let m := n % (2 ^ IntKind.i64.bits : Int); if (IntKind.i64.signed && decide (m ≥ (2 ^ (IntKind.i64.bits - 1) : Int))) = true then m - (2 ^ IntKind.i64.bits : Int) else m) = _
  have h1 : (2 ^ IntKind.i64.bits : Int) = 18446744073709551616 := rfl
  have h2 : (2 ^ (IntKind.i64.bits - 1) : Int) = 9223372036854775808 := rfl
  have h3 : IntKind.i64.signed = true := rfl
  rw [h1, h2, h3]
  simp
theorem wrap_u64' (n : Int) : IntKind.u64.wrap n = n % 18446744073709551616 := rfl
theorem wrap_u8' (n : Int) : IntKind.u8.wrap n = n % 256 := rfl

theorem num2 {N : Nat} (h : N < 65536) : Int.fdiv (IntKind.i64.wrap (IntKind.u64.wrap ((N : Int) * 2 ^ (min (IntKind.i64.wrap (64 - (IntKind.i64.wrap (8 * 2)))).toNat 64)))) (2 ^ (min (IntKind.i64.wrap (64 - (IntKind.i64.wrap (8 * 2)))).toNat 64)) = sgn 65536 N := by
  have e : (2 : Int) ^ (min (IntKind.i64.wrap (64 - (IntKind.i64.wrap (8 * 2)))).toNat 64) = 281474976710656 := by decide
  rw [e, Int.fdiv_eq_ediv_of_nonneg _ (by decide), wrap_u64', wrap_i64']
  unfold sgn
  split <;> split <;> omega
theorem num4 {N : Nat} (h : N < 4294967296) : Int.fdiv (IntKind.i64.wrap (IntKind.u64.wrap ((N : Int) * 2 ^ (min (IntKind.i64.wrap (64 - (IntKind.i64.wrap (8 * 4)))).toNat 64)))) (2 ^ (min (IntKind.i64.wrap (64 - (IntKind.i64.wrap (8 * 4)))).toNat 64)) = sgn 4294967296 N := by
  have e : (2 : Int) ^ (min (IntKind.i64.wrap (64 - (IntKind.i64.wrap (8 * 4)))).toNat 64) = 4294967296 := by decide
  rw [e, Int.fdiv_eq_ediv_of_nonneg _ (by decide), wrap_u64', wrap_i64']
  unfold sgn
  split <;> split <;> omega

theorem pow256 (j : Nat) : 2 ^ (8 * j) = 256 ^ j := by rw [Nat.pow_mul]
theorem shift_eq {j : Nat} (hj : j < 8) : min (IntKind.i64.wrap (8 * (j : Int))).toNat 64 = 8 * j := by
  rw [wrap_i64 (by omega)]; omega

theorem or_step {a b j : Nat} (ha : a < 256 ^ j) (hb : b < 256) (hj : j < 8) :
    IntKind.u64.wrap ((BitVec.ofInt 64 (a : Int) ||| (BitVec.ofInt 64 (IntKind.u64.wrap ((IntKind.u64.wrap (b : Int)) * 2 ^ (min (IntKind.i64.wrap (8 * (j : Int))).toNat 64))))).toNat : Int) = ((a + b * 256 ^ j : Nat) : Int) := by
  rw [shift_eq hj]
  have hp : 256 ^ j ≤ 256 ^ 7 := Nat.pow_le_pow_right (by decide) (by omega)
  have p7 : (256 : Nat) ^ 7 = 72057594037927936 := by decide
  have hm : b * 256 ^ j ≤ 255 * 256 ^ j := Nat.mul_le_mul_right _ (by omega)
  have e1 : IntKind.u64.wrap (b : Int) = (b : Int) := by rw [wrap_u64']; omega
  have e2 : (b : Int) * 2 ^ (8 * j) = ((b * 256 ^ j : Nat) : Int) := by
    rw [← pow256]; push_cast; rfl
  rw [e1, e2]
  generalize hq : b * 256 ^ j = q at *
  have e3 : IntKind.u64.wrap (q : Int) = (q : Int) := by rw [wrap_u64']; omega
  rw [e3, BitVec.ofInt_natCast, BitVec.ofInt_natCast, BitVec.toNat_or, BitVec.toNat_ofNat, BitVec.toNat_ofNat, Nat.mod_eq_of_lt (by omega), Nat.mod_eq_of_lt (by omega)]
  have e4 : a ||| q = a + q := by
    have := Nat.shiftLeft_add_eq_or_of_lt (i := 8 * j) (b := a) (by rw [pow256]; exact ha) b
    rw [Nat.shiftLeft_eq, pow256, hq] at this
    rw [Nat.or_comm, ← this, Nat.add_comm]
  rw [e4, wrap_u64']
  omega

theorem leNum_snoc : ∀ (l : List Nat) (b : Nat), leNum (l ++ [b]) = leNum l + b * 256 ^ l.length
  | [], b => by simp [leNum]
  | a :: l, b => by
    simp only [List.cons_append, leNum, leNum_snoc l b, List.length_cons, Nat.pow_succ]
    rw [Nat.mul_add, Nat.add_assoc]
    congr 2
    rw [Nat.mul_comm (256 ^ l.length) 256, ← Nat.mul_assoc, ← Nat.mul_assoc, Nat.mul_comm b 256]

/-- A piece of bytes that is there. -/
theorem piece_s (h : Sep H (bx i (.cells w z c) :: L)) (hz : z = 0 ∨ z = 1) (hs : size = 1 ∨ size = 2 ∨ size = 4 ∨ size = 8) (hf : at' + size ≤ n) (hn : n < 4611686018427387904)
    (hR : ∀ H', Sep H' (bx i (.cells w z c) :: L) → R (.slice (some ⟨i, o + at', none⟩) size 0) H') : CA en F.word_piece [.slice (some ⟨i, o, none⟩) n 0, I at', I size] H R := by
  apply vc_word_piece
  refine Sep.nw h fun i1 H2 h2 => contains_s (xs := [1, 2, 4, 8]) (by decide) (Sep.get0 h2) ⟨_, rfl, cond_no ?_ ?_⟩
  · have : decide (((size : Nat) : Int) ∈ [1, 2, 4, (8 : Int)]) = true := by
      rw [decide_eq_true_eq]
      simp only [List.mem_cons, List.not_mem_nil, or_false]
      omega
    rw [this]; rfl
  refine cond_no (by rw [decide_eq_false_iff_not]; omega) (cond_no ?_ ?_)
  · rw [decide_eq_false_iff_not, wrap_i64 (by omega)]; omega
  · have e : IntKind.i64.wrap ((at' : Int) + (size : Int)) = ((at' + size : Nat) : Int) := by rw [wrap_i64 (by omega)]; omega
    rw [e]
    refine ⟨by unfold inS; omega, by unfold inS; omega, ⟨_, _, _, Sep.get1 h2, by omega⟩, ?_⟩
    rw [Int.toNat_natCast, Int.toNat_natCast, Nat.mul_one, Nat.add_sub_cancel_left]
    exact hR H2 h2.tail

/-- The bytes that lie there. -/
def Bytes (c : List Value) (p : Nat) (bs : List Nat) : Prop := ∀ k b, bs[k]? = some b → c[p + k]? = some (Y b)

theorem get_s {bs : List Nat} (h : Sep H (bx i (.cells w z c) :: L)) (hz : z = 0 ∨ z = 1) (hs : bs.length = 1 ∨ bs.length = 2 ∨ bs.length = 4 ∨ bs.length = 8) (hf : at' + bs.length ≤ n) (hn : n < 4611686018427387904)
    (hb : Bytes c (o + at') bs) (hlt : ∀ b ∈ bs, b < 256)
    (hR : ∀ H', Sep H' (bx i (.cells w z c) :: L) → R (.tuple #[.int .u64 (leNum bs : Int), .bool true]) H') : CA en F.word_Get [.slice (some ⟨i, o, none⟩) n 0, I at', I bs.length] H R := by
  apply vc_word_Get
  refine piece_s h hz hs hf hn fun H2 h2 => ⟨_, _, rfl, ?_⟩
  refine use_word_Get_0 (fun k t6 t17 H => ∃ j : Nat, j ≤ bs.length ∧ k = bs.length - j ∧ t17 = (j : Int) ∧ t6 = (leNum (bs.take j) : Int) ∧ Sep H (bx i (.cells w z c) :: L)) bs.length ⟨0, by omega, rfl, rfl, rfl, h2⟩ ?_
  clear h2 h
  rintro k t6 t17 ys H3 ⟨j, hj, rfl, rfl, rfl, hs'⟩
  refine cond_of (fun h1 => ?_) fun h1 => ?_
  · simp only [decide_eq_true_eq] at h1
    have hj' : j < bs.length := by omega
    obtain ⟨b, hbj⟩ : ∃ b, bs[j]? = some b := ⟨_, List.getElem?_eq_getElem hj'⟩
    have hbl := hlt b (List.mem_of_getElem? hbj)
    have ht := leNum_lt (bs.take j) fun b hb => hlt b (List.mem_of_mem_take hb)
    rw [List.length_take, Nat.min_eq_left (by omega)] at ht
    refine ⟨by unfold inB; omega, asRow_in ⟨(b : Int), ?_, by unfold nn; rw [wrap_i64 (by omega)]; omega, ?_⟩⟩
    · refine Sep.ld0 hs' ?_
      rw [Int.toNat_natCast, Nat.mul_one]
      exact hb j b hbj
    · rw [or_step ht hbl (by omega)]
      refine ⟨bs.length - (j + 1), by omega, j + 1, by omega, rfl, ?_, ?_, hs'⟩
      · rw [wrap_i64 (by omega)]; omega
      · rw [List.take_add_one, hbj]
        simp only [Option.toList_some]
        rw [leNum_snoc, List.length_take, Nat.min_eq_left (by omega)]
  · simp only [decide_eq_false_iff_not] at h1
    obtain rfl : j = bs.length := by omega
    rw [List.take_length]
    exact asInt_in (hR H3 hs')

theorem number2_s {bs : List Nat} (h : Sep H (bx i (.cells w z c) :: L)) (hz : z = 0 ∨ z = 1) (hs : bs.length = 2) (hf : at' + 2 ≤ n) (hn : n < 4611686018427387904)
    (hb : Bytes c (o + at') bs) (hlt : ∀ b ∈ bs, b < 256)
    (hR : ∀ H', Sep H' (bx i (.cells w z c) :: L) → R (I (sgn 65536 (leNum bs))) H') : CA en F.insn_number [.slice (some ⟨i, o, none⟩) n 0, I at', I 2] H R := by
  apply vc_insn_number
  have e : ((bs.length : Nat) : Int) = 2 := by omega
  have := get_s (R := fun v1 H2 => ∃ n3, ∃ b4, v1 = (.tuple #[(.int .u64 n3), (.bool b4)]) ∧
    nn (IntKind.i64.wrap (64 - (IntKind.i64.wrap (8 * 2)))) ∧
    nn (IntKind.i64.wrap (64 - (IntKind.i64.wrap (8 * 2)))) ∧
    R (I (Int.fdiv (IntKind.i64.wrap (IntKind.u64.wrap (n3 * 2 ^ (min (IntKind.i64.wrap (64 - (IntKind.i64.wrap (8 * 2)))).toNat 64)))) (2 ^ (min (IntKind.i64.wrap (64 - (IntKind.i64.wrap (8 * 2)))).toNat 64)))) H2) (n := n) (at' := at') (o := o) h hz (by omega) (by omega) hn hb hlt fun H2 h2 => ⟨_, _, rfl, by unfold nn; decide, by unfold nn; decide, ?_⟩
  · rw [e] at this
    exact this
  · have hl := leNum_lt bs hlt
    rw [hs] at hl
    rw [num2 hl]
    exact hR H2 h2

theorem number4_s {bs : List Nat} (h : Sep H (bx i (.cells w z c) :: L)) (hz : z = 0 ∨ z = 1) (hs : bs.length = 4) (hf : at' + 4 ≤ n) (hn : n < 4611686018427387904)
    (hb : Bytes c (o + at') bs) (hlt : ∀ b ∈ bs, b < 256)
    (hR : ∀ H', Sep H' (bx i (.cells w z c) :: L) → R (I (sgn 4294967296 (leNum bs))) H') : CA en F.insn_number [.slice (some ⟨i, o, none⟩) n 0, I at', I 4] H R := by
  apply vc_insn_number
  have e : ((bs.length : Nat) : Int) = 4 := by omega
  have := get_s (R := fun v1 H2 => ∃ n3, ∃ b4, v1 = (.tuple #[(.int .u64 n3), (.bool b4)]) ∧
    nn (IntKind.i64.wrap (64 - (IntKind.i64.wrap (8 * 4)))) ∧
    nn (IntKind.i64.wrap (64 - (IntKind.i64.wrap (8 * 4)))) ∧
    R (I (Int.fdiv (IntKind.i64.wrap (IntKind.u64.wrap (n3 * 2 ^ (min (IntKind.i64.wrap (64 - (IntKind.i64.wrap (8 * 4)))).toNat 64)))) (2 ^ (min (IntKind.i64.wrap (64 - (IntKind.i64.wrap (8 * 4)))).toNat 64)))) H2) (n := n) (at' := at') (o := o) h hz (by omega) (by omega) hn hb hlt fun H2 h2 => ⟨_, _, rfl, by unfold nn; decide, by unfold nn; decide, ?_⟩
  · rw [e] at this
    exact this
  · have hl := leNum_lt bs hlt
    rw [hs] at hl
    rw [num4 hl]
    exact hR H2 h2

/-! ### Put -/
abbrev upd (c : List Value) (p : Nat) (l : List Value) : List Value := setAt c p l
theorem upd_snoc : ∀ (l : List Value) (c : List Value) (p : Nat) (v : Value), upd c p (l ++ [v]) = (upd c p l).set (p + l.length) v
  | [], c, p, v => rfl
  | a :: l, c, p, v => by
    show upd (c.set p a) (p + 1) (l ++ [v]) = _
    rw [upd_snoc l]
    show _ = (upd (c.set p a) (p + 1) l).set (p + (l.length + 1)) v
    rw [show p + 1 + l.length = p + (l.length + 1) by omega]
theorem upd_len : ∀ (l : List Value) (c : List Value) (p : Nat), (upd c p l).length = c.length
  | [], c, p => rfl
  | a :: l, c, p => by
    show (upd (c.set p a) (p + 1) l).length = _
    rw [upd_len l, List.length_set]

theorem le_get : ∀ (n V k : Nat), k < n → (le n V)[k]? = some (V / 256 ^ k % 256)
  | 0, V, k, h => by omega
  | n + 1, V, 0, _ => by simp [le]
  | n + 1, V, k + 1, h => by
    simp only [le, List.getElem?_cons_succ]
    rw [le_get n (V / 256) k (by omega), Nat.div_div_eq_div_mul, Nat.pow_succ, Nat.mul_comm 256]

theorem setAt_one (c : List Value) (p : Nat) (v : Value) (h : p < c.length) : setAt c p [v] = c.set p v := rfl

theorem put_s {V : Nat} (h : Sep H (bx i (.cells true z c) :: L)) (hz : z = 0 ∨ z = 1) (hs : size = 1 ∨ size = 2 ∨ size = 4 ∨ size = 8) (hf : at' + size ≤ n) (hn : n < 4611686018427387904) (hc : o + n ≤ c.length)
    (hR : ∀ H', Sep H' (bx i (.cells true z (upd c (o + at') ((le size V).map Y))) :: L) → R (.bool true) H') : CA en F.word_Put [.slice (some ⟨i, o, none⟩) n 0, I at', I size, .int .u64 (V : Int)] H R := by
  apply vc_word_Put
  refine piece_s h hz hs hf hn fun H2 h2 => ⟨_, _, rfl, ?_⟩
  refine use_word_Put_0 (fun k t17 H => ∃ j : Nat, j ≤ size ∧ k = size - j ∧ t17 = (j : Int) ∧ Sep H (bx i (.cells true z (upd c (o + at') (((le size V).take j).map Y))) :: L)) size ⟨0, by omega, rfl, rfl, h2⟩ ?_
  clear h2 h
  rintro k t17 ys H3 ⟨j, hj, rfl, rfl, hs'⟩
  refine cond_of (fun h1 => ?_) fun h1 => ?_
  · simp only [decide_eq_true_eq] at h1
    have hj' : j < size := by omega
    refine ⟨by unfold nn; rw [wrap_i64 (by omega)]; omega, by unfold inB; omega, asRow_in ?_⟩
    refine Sep.st0 hs' ?_ fun H4 h4 => ⟨size - (j + 1), by omega, j + 1, by omega, rfl, ?_, ?_⟩
    · rw [upd_len, Int.toNat_natCast, Nat.mul_one]; simp; omega
    · rw [wrap_i64 (by omega)]; omega
    · rw [Int.toNat_natCast, Nat.mul_one, setAt_one _ _ _ (by rw [upd_len]; omega), shift_eq (by omega)] at h4
      have eb : IntKind.u8.wrap (Int.fdiv (V : Int) (2 ^ (8 * j))) = ((V / 256 ^ j % 256 : Nat) : Int) := by
        have : ((2 : Int) ^ (8 * j)) = ((256 ^ j : Nat) : Int) := by rw [← pow256]; push_cast; rfl
        rw [this, Int.fdiv_eq_ediv_of_nonneg _ (Int.natCast_nonneg _), wrap_u8', ← Int.natCast_ediv]
        omega
      rw [eb] at h4
      rw [List.take_add_one, le_get size V j hj']
      simp only [Option.toList_some, List.map_append, List.map_cons, List.map_nil]
      rw [upd_snoc, List.length_map, List.length_take, le_len, Nat.min_eq_left (by omega)]
      exact h4
  · simp only [decide_eq_false_iff_not] at h1
    obtain rfl : j = size := by omega
    have e : (le j V).take j = le j V := by rw [List.take_of_length_le (by rw [le_len]; omega)]
    rw [e] at hs'
    exact hR H3 hs'
end Go.Proofs.YtmgkngdbphkmmaaDoor

/-
  Instructions as bytes: insn.Put answers puts.
-/
namespace Go.Proofs.YtmgkngdbphkmmaaDoor
open Go Go.AS Go.RowKit
set_option linter.unusedVariables false
variable {H H' : Heap} {R : Value → Heap → Prop} {L : List Asr}

def firstE : List Ins → Int
  | [] => 0
  | x :: l => if chkI x ≠ 0 then chkI x else firstE l
def putErr (l : List Ins) : Int := if l.length > 256 then 19 else firstE l

theorem firstE_zero : ∀ {l : List Ins}, firstE l = 0 ↔ ∀ x ∈ l, chkI x = 0
  | [] => by simp [firstE]
  | x :: l => by
    simp only [firstE, List.mem_cons, forall_eq_or_imp]
    split
    · rename_i h; exact ⟨fun h' => absurd h' h, fun h' => absurd h'.1 h⟩
    · rename_i h
      rw [firstE_zero]
      simp only [ne_eq, Classical.not_not] at h
      exact ⟨fun h' => ⟨h, h'⟩, fun h' => h'.2⟩

theorem drop_cons {α : Type} {l : List α} {j : Nat} {x : α} (h : l[j]? = some x) : l.drop j = x :: l.drop (j + 1) := by
  obtain ⟨hj, e⟩ := List.getElem?_eq_some_iff.1 h
  rw [List.drop_eq_getElem_cons hj, e]
theorem take_snoc' {α : Type} {l : List α} {j : Nat} {x : α} (h : l[j]? = some x) : l.take (j + 1) = l.take j ++ [x] := by
  rw [List.take_add_one, h]; rfl

/-- Where the instructions of a slice lie. -/
def Rds (L : List Asr) (a : Option Addr) (l : List Ins) : Prop :=
  ∀ H', Sep H' L → ∀ (j : Nat) x, l[j]? = some x → ∃ i, a = some ⟨i, 0, none⟩ ∧ H'.cellsAt i (0 + j * 5) 5 = some x.cells

theorem byte2 : ∀ s d : Fin 11, IntKind.u8.wrap (IntKind.i64.wrap ((BitVec.ofInt 64 (IntKind.i64.wrap (((s : Nat) : Int) * 16)) ||| (BitVec.ofInt 64 ((d : Nat) : Int))).toNat : Int)) = (((((s : Nat) : Int) * 16 + ((d : Nat) : Int)) % 256).toNat : Int) := by decide +kernel

theorem chk_regs {x : Ins} (h : chkI x = 0) : (0 ≤ x.dst ∧ x.dst ≤ 10) ∧ (0 ≤ x.src ∧ x.src ≤ 10) := by
  unfold chkI at h
  cases hr : refRow x.op with
  | none => rw [hr] at h; cases h
  | some r =>
    rw [hr] at h
    simp only at h
    split at h
    · cases h
    · rename_i h1
      simp only [Classical.not_not] at h1
      omega

theorem putI_n {x : Ins} (h : ¬ x.op = 24) : putI x = [(x.op % 256).toNat, ((x.src * 16 + x.dst) % 256).toNat] ++ (le 2 (u64 x.off) ++ le 4 (u64 x.imm)) := by
  unfold putI; rw [if_neg h]; simp
theorem putI_w {x : Ins} (h : x.op = 24) : putI x = [(x.op % 256).toNat, ((x.src * 16 + x.dst) % 256).toNat] ++ (le 2 (u64 x.off) ++ (le 4 (u64 x.imm) ++ ([0, 0, 0, 0] ++ le 4 (u64 x.imm / 4294967296)))) := by
  unfold putI; rw [if_pos h]

theorem puts_le : ∀ l : List Ins, (puts l).length ≤ 16 * l.length
  | [] => by simp [puts]
  | x :: l => by
    have := puts_le l
    have h2 := sizI_pos x
    rw [puts_cons, List.length_append, putI_len, List.length_cons]; omega
theorem puts_one (x : Ins) : puts [x] = putI x := by simp [puts]

theorem u64_eq (v : Int) : IntKind.u64.wrap v = ((u64 v : Nat) : Int) := by
  rw [wrap_u64']; unfold u64; omega

theorem Put_s {a : Option Addr} {l : List Ins} (h : Sep H (gh :: ga :: L)) (rd : Rds (gh :: ga :: L) a l)
    (hE : putErr l ≠ 0 → ∀ H', Sep H' (gh :: ga :: L) → R (.tuple #[.slice none 0 0, I (putErr l)]) H')
    (hR : putErr l = 0 → ∀ H' q, (q = none → puts l = []) → Sep H' (gl 1 q ((puts l).map Y) :: gh :: ga :: L) → R (.tuple #[.slice (addr q) (puts l).length 0, I 0]) H') :
    CA en F.insn_Put [.slice a l.length 0] H R := by
  apply vc_insn_Put
  refine cond_of (fun hl => ?_) fun hl => ?_
  · have hl : l.length > 256 := by simp only [decide_eq_true_eq] at hl; omega
    have e : putErr l = 19 := if_pos hl
    have := hE (by rw [e]; decide) H h
    rw [e] at this
    exact this
  have hl : ¬ l.length > 256 := by simp only [decide_eq_false_iff_not] at hl; omega
  have he : putErr l = firstE l := if_neg hl
  rw [he] at hE hR
  refine use_insn_Put_0 (fun k t2 t2l t3 t4 t4l t14 H => ∃ (j : Nat) (q : Option Nat), j ≤ l.length ∧ k = l.length - j ∧ t14 = (j : Int) ∧ firstE l = firstE (l.drop j) ∧ (q = none → puts (l.take j) = []) ∧ t4 = addr q ∧ t4l = (puts (l.take j)).length ∧
    Sep H (gl 1 q ((puts (l.take j)).map Y) :: gh :: ga :: L)) l.length ⟨0, none, by omega, rfl, rfl, rfl, fun _ => rfl, rfl, rfl, gl_none.2 h⟩ ?_
  clear h
  rintro k t2 t2l t3 t4 t4l t14 ys H3 ⟨j, q, hj, rfl, rfl, hf, hq, rfl, rfl, hs⟩
  refine cond_of (fun h1 => ?_) fun h1 => ?_
  · simp only [decide_eq_true_eq] at h1
    have hj' : j < l.length := by omega
    obtain ⟨x, hx⟩ : ∃ x, l[j]? = some x := ⟨_, List.getElem?_eq_getElem hj'⟩
    obtain ⟨i, rfl, hc⟩ := rd H3 hs.tail j x hx
    rw [drop_cons hx] at hf
    simp only [firstE] at hf
    refine ⟨by unfold inB; omega, asRow_in ⟨_, _, _, _, _, hc, Sep.nw hs fun i8 H9 h9 => Sep.st0 h9 (Nat.le_of_ble_eq_true rfl) fun H10 h10 => ⟨_, _, _, _, _, Sep.lds0 h10 rfl, ?_⟩⟩⟩
    refine check_s (x := x) (Sep.up3 (Sep.up3 h10)) fun H17 h17 => ⟨_, rfl, cond_of (fun he => ?_) fun he => ?_⟩
    · have he : chkI x ≠ 0 := by simpa using he
      rw [if_pos he] at hf
      refine asSl_in (asInt_in (asSl_in ?_))
      have := hE (by rw [hf]; exact he) H17 (Sep.rm2 (Sep.rm2 h17))
      rw [hf] at this
      exact this
    · have he : chkI x = 0 := by simpa using he
      rw [if_neg (by simpa using he)] at hf
      obtain ⟨hd, hsr⟩ := chk_regs he
      obtain ⟨d, hd'⟩ := Int.eq_ofNat_of_zero_le hd.1
      obtain ⟨s, hs'⟩ := Int.eq_ofNat_of_zero_le hsr.1
      have b2 := byte2 ⟨s, by omega⟩ ⟨d, by omega⟩
      simp only at b2
      rw [← hd', ← hs'] at b2
      have hlen := puts_le (l.take j)
      rw [List.length_take, Nat.min_eq_left (by omega)] at hlen
      have b1 : IntKind.u8.wrap x.op = (((x.op % 256).toNat : Nat) : Int) := by rw [wrap_u8']; omega
      refine ⟨⟨by decide, by decide, by decide⟩, Sep.nw h17 fun i19 H20 h20 => ?_⟩
      have hB := h20.bump 16
      have i0 : inB 0 16 := by unfold inB; omega
      have i1 : inB 1 16 := by unfold inB; omega
      have n4 : nn 4 := by unfold nn; decide
      refine ⟨_, Sep.ld3 hB rfl, _, Sep.ld3 hB rfl, n4, _, Sep.ld3 hB rfl, i0, Sep.st0 hB (Nat.le_of_ble_eq_true rfl) fun H24 h24 => ⟨i1, Sep.st0 h24 (Nat.le_of_ble_eq_true rfl) fun H25 h25 => ⟨?_, ⟨rfl, rfl, trivial⟩, ⟨⟨_, Sep.ld3 hB rfl, rfl⟩, ⟨_, Sep.ld3 h24 rfl, rfl⟩, trivial⟩, ⟨⟨n4, rfl⟩, ⟨n4, rfl⟩, trivial⟩, ⟨⟨_, Sep.ld3 hB rfl, rfl⟩, ⟨_, Sep.ld3 h24 rfl, rfl⟩, trivial⟩, trivial⟩⟩⟩
      have h25 : Sep H25 (bx i19 (.cells true 1 [.int .u8 (IntKind.u8.wrap x.op), .int .u8 (IntKind.u8.wrap (IntKind.i64.wrap ((BitVec.ofInt 64 (IntKind.i64.wrap (x.src * 16)) ||| (BitVec.ofInt 64 x.dst)).toNat : Int))), Y 0, Y 0, Y 0, Y 0, Y 0, Y 0, Y 0, Y 0, Y 0, Y 0, Y 0, Y 0, Y 0, Y 0]) :: gh :: ga :: bx i8 (.cells true 0 x.cells) :: gl 1 q ((puts (l.take j)).map Y) :: L) := h25
      rw [b1, b2] at h25
      refine ⟨_, Sep.ld3 h25 rfl, ?_⟩
      rw [u64_eq]
      refine put_s (o := 0) (at' := 2) (size := 2) (n := 16) (V := u64 x.off) h25 (.inr rfl) (.inr (.inl rfl)) (by decide) (by decide) (by simp) fun H32 h32 => ⟨_, rfl, _, Sep.ld3 h32 rfl, ?_⟩
      rw [u64_eq]
      refine put_s (o := 0) (at' := 4) (size := 4) (n := 16) (V := u64 x.imm) h32 (.inr rfl) (.inr (.inr (.inl rfl))) (by decide) (by decide) (by rw [upd_len]; simp) fun H36 h36 => ⟨_, rfl, _, Sep.ld3 h36 rfl, ?_⟩
      have fin : ∀ (H' : Heap) (q' : Nat) (n : Nat), n = (putI x).length → Sep H' (gl 1 (some q') ((puts (l.take j)).map Y ++ (putI x).map Y) :: gh :: ga :: L) → ∃ k, k < l.length - j ∧ ∃ (j' : Nat) (q2 : Option Nat), j' ≤ l.length ∧ k = l.length - j' ∧ IntKind.i64.wrap ((j : Int) + 1) = (j' : Int) ∧ firstE l = firstE (l.drop j') ∧ (q2 = none → puts (l.take j') = []) ∧ addr (some q') = addr q2 ∧ (puts (l.take j)).length + n = (puts (l.take j')).length ∧
          Sep H' (gl 1 q2 ((puts (l.take j')).map Y) :: gh :: ga :: L) := by
        intro H' q' n hn' h'
        refine ⟨l.length - (j + 1), by omega, j + 1, some q', by omega, rfl, ?_, hf, (fun h => by cases h), rfl, ?_, ?_⟩
        · rw [wrap_i64 (by omega)]; omega
        · rw [take_snoc' hx, puts_append, puts_one, List.length_append, hn']
        · rw [take_snoc' hx, puts_append, puts_one, List.map_append]
          exact h'
      have hlp : ((puts (l.take j)).map Y).length = (puts (l.take j)).length * 1 := by rw [List.length_map, Nat.mul_one]
      refine cond_of (fun hw => ?_) fun hw => ?_
      · have hw : ¬ x.op = 24 := by simpa using hw
        have hpl : (putI x).length = 8 := by rw [putI_len]; exact if_neg hw
        refine ⟨by unfold inS; omega, ⟨_, _, _, Sep.get0 h36, .inr rfl⟩, (putI x).map Y, rowOf_bx (es := 1) (n := 8) (b := i19) (Sep.get0 h36) (by decide) (by rw [putI_n hw, hs', hd']; rfl), ?_⟩
        refine apd_gl (b := q) (len := (puts (l.take j)).length) (n := 8) (Sep.up4 h36) (fun h => by rw [hq h]; rfl) (by decide) hlp (by decide) (by rw [List.length_map, hpl]) (by omega) fun H' q' h' => fin H' q' 8 hpl.symm (Sep.rm3 (Sep.rm1 h'))
      · have hw : x.op = 24 := by simpa using hw
        have hpl : (putI x).length = 16 := by rw [putI_len]; exact if_pos hw
        refine ⟨_, Sep.ld3 h36 rfl, by unfold nn; decide, ?_⟩
        have e32 : Int.fdiv (IntKind.u64.wrap x.imm) 4294967296 = ((u64 x.imm / 4294967296 : Nat) : Int) := by
          rw [u64_eq, Int.fdiv_eq_ediv_of_nonneg _ (by decide)]; omega
        rw [e32]
        refine put_s (o := 0) (at' := 12) (size := 4) (n := 16) (V := u64 x.imm / 4294967296) h36 (.inr rfl) (.inr (.inr (.inl rfl))) (by decide) (by decide) (by rw [upd_len, upd_len]; simp) fun H49 h49 => ⟨_, rfl, ?_⟩
        refine ⟨(putI x).map Y, rowOf_bx (es := 1) (n := 16) (b := i19) (Sep.get0 h49) (by decide) (by rw [putI_w hw, hs', hd']; rfl), ?_⟩
        refine apd_gl (b := q) (len := (puts (l.take j)).length) (n := 16) (Sep.up4 h49) (fun h => by rw [hq h]; rfl) (by decide) hlp (by decide) (by rw [List.length_map, hpl]) (by omega) fun H' q' h' => fin H' q' 16 hpl.symm (Sep.rm3 (Sep.rm1 h'))
  · simp only [decide_eq_false_iff_not] at h1
    obtain rfl : j = l.length := by omega
    rw [List.take_length] at hs hq
    refine asSl_in (asInt_in (asSl_in ?_))
    have := hR (by rw [hf, List.drop_length]; rfl) H3 q hq hs
    rw [List.take_length]
    exact this
end Go.Proofs.YtmgkngdbphkmmaaDoor

/-
  The instruction that bytes begin with: insn.one answers getOne.
-/
namespace Go.Proofs.YtmgkngdbphkmmaaDoor
open Go Go.AS Go.RowKit
set_option linter.unusedVariables false
variable {H H' : Heap} {R : Value → Heap → Prop} {L : List Asr} {i z o : Nat} {w : Bool} {c : List Value}

theorem byte_parts : ∀ b : Fin 256, IntKind.i64.wrap (IntKind.u8.wrap ((BitVec.ofInt 8 ((b : Nat) : Int) &&& (BitVec.ofInt 8 15)).toNat : Int)) = (((b : Nat) % 16 : Nat) : Int) ∧ IntKind.i64.wrap (Int.fdiv ((b : Nat) : Int) 16) = (((b : Nat) / 16 : Nat) : Int) := by decide +kernel

theorem ofInt_wrap (v : Int) : BitVec.ofInt 64 (IntKind.i64.wrap v) = BitVec.ofInt 64 v := by
  apply BitVec.eq_of_toNat_eq
  rw [BitVec.toNat_ofInt, BitVec.toNat_ofInt, wrap_i64']
  congr 1
  show (_ : Int) % 18446744073709551616 = v % 18446744073709551616
  split <;> omega

theorem wide_imm {lo hi : Nat} (hl : lo < 4294967296) (hh : hi < 4294967296) :
    IntKind.i64.wrap ((BitVec.ofInt 64 (IntKind.i64.wrap (sgn 4294967296 hi * 4294967296)) ||| (BitVec.ofInt 64 (IntKind.i64.wrap (lo : Int)))).toNat : Int) = sgn 18446744073709551616 (lo + 4294967296 * hi) := by
  rw [ofInt_wrap, ofInt_wrap, BitVec.toNat_or, BitVec.toNat_ofInt, BitVec.toNat_ofInt]
  have e1 : ((sgn 4294967296 hi * 4294967296) % ((2 ^ 64 : Nat) : Int)).toNat = hi * 4294967296 := by
    show ((sgn 4294967296 hi * 4294967296) % 18446744073709551616).toNat = _
    unfold sgn
    split <;> omega
  have e2 : ((lo : Int) % ((2 ^ 64 : Nat) : Int)).toNat = lo := by
    show ((lo : Int) % 18446744073709551616).toNat = _
    omega
  rw [e1, e2]
  have e3 : hi * 4294967296 ||| lo = hi * 4294967296 + lo := by
    have := Nat.shiftLeft_add_eq_or_of_lt (i := 32) (b := lo) hl hi
    rw [Nat.shiftLeft_eq] at this
    exact this.symm
  rw [e3, wrap_i64']
  unfold sgn
  split <;> split <;> omega

theorem Bytes.sub {p : Nat} {bs : List Nat} (h : Bytes c p bs) (k n : Nat) : Bytes c (p + k) ((bs.drop k).take n) := by
  intro j b hj
  have h1 : (bs.drop k)[j]? = some b := by
    rw [List.getElem?_take] at hj
    split at hj
    · exact hj
    · cases hj
  rw [List.getElem?_drop] at h1
  rw [Nat.add_assoc]
  exact h (k + j) b h1

theorem same5 (a b c d e : Int) : sameN 8 (.agg #[.int .i64 a, .int .i64 b, .int .i64 c, .int .i64 d, .int .i64 e]) (.agg #[.int .i64 a, .int .i64 b, .int .i64 c, .int .i64 d, .int .i64 e]) = true := by simp [sameN, sameN.sameL]

theorem get4_s {at' n : Nat} {bs : List Nat} (h : Sep H (bx i (.cells w z c) :: L)) (hz : z = 0 ∨ z = 1) (hs : bs.length = 4) (hf : at' + 4 ≤ n) (hn : n < 4611686018427387904)
    (hb : Bytes c (o + at') bs) (hlt : ∀ b ∈ bs, b < 256)
    (hR : ∀ H', Sep H' (bx i (.cells w z c) :: L) → R (.tuple #[.int .u64 (leNum bs : Int), .bool true]) H') : CA en F.word_Get [.slice (some ⟨i, o, none⟩) n 0, I at', I 4] H R := by
  have := get_s (R := R) (n := n) (at' := at') (o := o) h hz (by omega) (by omega) hn hb hlt hR
  rw [hs] at this
  exact this

def in0 : Ins := ⟨0, 0, 0, 0, 0⟩

theorem one_s {bs : List Nat} (h : Sep H (bx i (.cells w z c) :: gh :: ga :: L)) (hz : z = 0 ∨ z = 1) (hb : Bytes c o bs) (hlt : ∀ b ∈ bs, b < 256) (hn : bs.length < 4611686018427387904) (h1 : 1 ≤ bs.length)
    (hR : ∀ H', Sep H' (bx i (.cells w z c) :: gh :: ga :: L) → R (.tuple #[(getOne chkI bs).1.val, I (getOne chkI bs).2.1, I (getOne chkI bs).2.2]) H') :
    CA en F.insn_one [.slice (some ⟨i, o, none⟩) bs.length 0] H R := by
  apply vc_insn_one
  refine Sep.nw h fun i1 H2 h2 => ?_
  have short : ∀ H' {A : Asr}, (bs.length < 8 ∨ bs.getD 0 0 = 24 ∧ bs.length < 16) → Sep H' (A :: bx i (.cells w z c) :: gh :: ga :: L) → R (.tuple #[in0.val, I 0, I 20]) H' := by
    intro H' A hs h'
    have := hR H' h'.tail
    have e : getOne chkI bs = (⟨0, 0, 0, 0, 0⟩, 0, 20) := if_pos hs
    rw [e] at this
    exact this
  refine cond_of (fun h8 => ?_) fun h8 => ?_
  · have h8 : bs.length < 8 := by simp only [decide_eq_true_eq] at h8; omega
    exact Sep.st0 h2 (Nat.le_of_ble_eq_true rfl) fun H3 h3 => ⟨_, _, _, _, _, Sep.lds0 h3 rfl, short H3 (.inl h8) h3⟩
  have h8 : 8 ≤ bs.length := by simp only [decide_eq_false_iff_not] at h8; omega
  obtain ⟨b0, hb0⟩ : ∃ b, bs[0]? = some b := ⟨_, List.getElem?_eq_getElem (by omega)⟩
  obtain ⟨b1, hb1⟩ : ∃ b, bs[1]? = some b := ⟨_, List.getElem?_eq_getElem (by omega)⟩
  have g0 : bs.getD 0 0 = b0 := by rw [List.getD_eq_getElem?_getD, hb0]; rfl
  have g1 : bs.getD 1 0 = b1 := by rw [List.getD_eq_getElem?_getD, hb1]; rfl
  have l0 := hlt b0 (List.mem_of_getElem? hb0)
  have l1 := hlt b1 (List.mem_of_getElem? hb1)
  have c0 : c[o]? = some (Y b0) := hb 0 b0 hb0
  have c1 : c[o + 1]? = some (Y b1) := hb 1 b1 hb1
  have i0 : inB 0 bs.length := by unfold inB; omega
  have i1' : inB 1 bs.length := by unfold inB; omega
  have n4 : nn 4 := by unfold nn; decide
  obtain ⟨p1, p2⟩ := byte_parts ⟨b1, l1⟩
  simp only at p1 p2
  have w0 : IntKind.i64.wrap (b0 : Int) = (b0 : Int) := wrap_i64 (by omega)
  have hT := h2.fore1 (n := 22) (a := 19) (.cells true 0 [I 0, I 0, I 0, I 0, I 0]) (by decide)
  -- rb i1 bytes gh ga
  refine ⟨i0, asRow_in ⟨_, Sep.ld1 h2 c0, cond_of (fun e24 => ?_) fun e24 => ?_⟩⟩
  · have e24 : b0 = 24 := by have : (b0 : Int) = 24 := by simpa using e24
                             omega
    refine cond_of (fun h16 => ?_) fun h16 => ?_
    · have h16 : bs.length < 16 := by simp only [decide_eq_true_eq] at h16; omega
      exact Sep.st0 h2 (Nat.le_of_ble_eq_true rfl) fun H3 h3 => ⟨_, _, _, _, _, Sep.lds0 h3 rfl, short H3 (.inr ⟨by rw [g0, e24], h16⟩) h3⟩
    have h16 : 16 ≤ bs.length := by simp only [decide_eq_false_iff_not] at h16; omega
    have hsh : ¬ (bs.length < 8 ∨ bs.getD 0 0 = 24 ∧ bs.length < 16) := by omega
    refine ⟨i0, asRow_in ⟨_, Sep.ld2 hT c0, i1', asRow_in ⟨_, Sep.ld2 hT c1, i1', asRow_in ⟨_, Sep.ld2 hT c1, n4, ?_⟩⟩⟩⟩
    refine number2_s (at' := 2) (o := o) (Sep.up2 hT) hz (sub_len (by omega)) (by omega) hn (hb.sub 2 2) (mem_sub hlt 2 2) fun H28 h28 => ⟨_, rfl, ?_⟩
    refine number4_s (at' := 4) (o := o) h28 hz (sub_len (by omega)) (by omega) hn (hb.sub 4 4) (mem_sub hlt 4 4) fun H31 h31 => ⟨_, rfl, ?_⟩
    rw [p1, p2, w0]
    refine Sep.st1 h31 (Nat.le_of_ble_eq_true rfl) fun H33 h33 => ⟨⟨_, Sep.ld1 h33 rfl, cond_yes (by rw [e24]; rfl) ?_⟩, ?_, ?_, ?_, ?_, ?_, ?_, trivial⟩
    · refine number4_s (at' := 8) (o := o) h33 hz (sub_len (by omega)) (by omega) hn (hb.sub 8 4) (mem_sub hlt 8 4) fun H48 h48 => ⟨_, rfl, cond_of (fun hz8 => ?_) fun hz8 => ?_⟩
      · have hz8 : ¬ leNum ((bs.drop 8).take 4) = 0 := by
          intro e
          rw [e] at hz8
          simp [sgn] at hz8
        refine Sep.st2 h48 (Nat.le_of_ble_eq_true rfl) fun H50 h50 => ⟨_, _, _, _, _, Sep.lds2 h50 rfl, ?_⟩
        have := hR H50 (Sep.rm1 (Sep.rm1 h50))
        have e : getOne chkI bs = (⟨0, 0, 0, 0, 0⟩, 0, 9) := by
          unfold getOne
          rw [if_neg hsh, if_pos (by rw [g0, e24]), if_neg hz8]
        rw [e] at this
        exact this
      · have hz8 : leNum ((bs.drop 8).take 4) = 0 := by
          have l := leNum_lt _ (mem_sub hlt 8 4)
          rw [sub_len (by omega)] at l
          have l : leNum ((bs.drop 8).take 4) < 4294967296 := l
          have hz8 : sgn 4294967296 (leNum ((bs.drop 8).take 4)) = 0 := by simpa using hz8
          unfold sgn at hz8
          split at hz8 <;> omega
        have s4 : ((bs.drop 4).take 4).length = 4 := sub_len (by omega)
        have lo := leNum_lt _ (mem_sub hlt 4 4)
        have hi := leNum_lt _ (mem_sub hlt 12 4)
        rw [sub_len (by omega)] at lo hi
        refine get4_s (at' := 4) (o := o) h48 hz s4 (by omega) hn (hb.sub 4 4) (mem_sub hlt 4 4) fun H57 h57 => ⟨_, _, rfl, number4_s (at' := 12) (o := o) h57 hz (sub_len (by omega)) (by omega) hn (hb.sub 12 4) (mem_sub hlt 12 4) fun H61 h61 => ⟨_, rfl, by unfold nn; decide, ?_⟩⟩
        rw [wide_imm lo hi]
        refine Sep.st1 h61 (Nat.le_of_ble_eq_true rfl) fun H63 h63 => ?_
        have hB := h63.bump 7
        refine ⟨_, _, _, _, _, Sep.lds1 hB rfl, _, _, _, _, _, Sep.lds1 hB rfl, ?_⟩
        have e : getOne chkI bs = (⟨b0, (b1 % 16 : Nat), (b1 / 16 : Nat), sgn 65536 (leNum ((bs.drop 2).take 2)), sgn 18446744073709551616 (leNum ((bs.drop 4).take 4) + 4294967296 * leNum ((bs.drop 12).take 4))⟩, 16, chkI ⟨b0, (b1 % 16 : Nat), (b1 / 16 : Nat), sgn 65536 (leNum ((bs.drop 2).take 2)), sgn 18446744073709551616 (leNum ((bs.drop 4).take 4) + 4294967296 * leNum ((bs.drop 12).take 4))⟩) := by
          unfold getOne
          rw [if_neg hsh, if_pos (by rw [g0, e24]), if_pos hz8, g1, e24]; rfl
        rw [e] at hR
        refine check_s (x := ⟨b0, (b1 % 16 : Nat), (b1 / 16 : Nat), sgn 65536 (leNum ((bs.drop 2).take 2)), sgn 18446744073709551616 (leNum ((bs.drop 4).take 4) + 4294967296 * leNum ((bs.drop 12).take 4))⟩) (Sep.up4 (Sep.up4 hB)) fun H75 h75 => ⟨_, rfl, Sep.st4 h75 (Nat.le_of_ble_eq_true rfl) fun H77 h77 => ⟨⟨_, _, _, _, _, Sep.lds4 h77 rfl, ?_⟩, ⟨⟨_, _, _, _, _, Sep.lds1 hB rfl, same5 _ _ _ _ _⟩, ⟨_, _, _, _, _, Sep.lds3 h75 rfl, same5 _ _ _ _ _⟩, trivial⟩, trivial⟩⟩
        exact hR H77 (Sep.up2 (Sep.rm3 (Sep.rm3 h77)))
    · exact ⟨⟨_, Sep.get0 hT, rfl⟩, ⟨_, Sep.get1 h28, rfl⟩, ⟨_, Sep.get1 h31, rfl⟩, trivial⟩
    · exact ⟨⟨n4, rfl⟩, ⟨n4, rfl⟩, ⟨n4, rfl⟩, trivial⟩
    · exact ⟨⟨_, Sep.ld2 hT c1, rfl⟩, ⟨_, Sep.ld0 h28 c1, rfl⟩, ⟨_, Sep.ld0 h31 c1, rfl⟩, trivial⟩
    · exact ⟨rfl, rfl, rfl, trivial⟩
    · exact ⟨⟨_, Sep.ld2 hT c1, rfl⟩, ⟨_, Sep.ld0 h28 c1, rfl⟩, ⟨_, Sep.ld0 h31 c1, rfl⟩, trivial⟩
    · exact ⟨⟨_, Sep.ld2 hT c0, rfl⟩, ⟨_, Sep.ld0 h28 c0, rfl⟩, ⟨_, Sep.ld0 h31 c0, rfl⟩, trivial⟩
  · have e24 : ¬ b0 = 24 := by
      intro e
      rw [e] at e24
      simp at e24
    have hsh : ¬ (bs.length < 8 ∨ bs.getD 0 0 = 24 ∧ bs.length < 16) := by omega
    refine ⟨i0, asRow_in ⟨_, Sep.ld2 hT c0, i1', asRow_in ⟨_, Sep.ld2 hT c1, i1', asRow_in ⟨_, Sep.ld2 hT c1, n4, ?_⟩⟩⟩⟩
    refine number2_s (at' := 2) (o := o) (Sep.up2 hT) hz (sub_len (by omega)) (by omega) hn (hb.sub 2 2) (mem_sub hlt 2 2) fun H28 h28 => ⟨_, rfl, ?_⟩
    refine number4_s (at' := 4) (o := o) h28 hz (sub_len (by omega)) (by omega) hn (hb.sub 4 4) (mem_sub hlt 4 4) fun H31 h31 => ⟨_, rfl, ?_⟩
    rw [p1, p2, w0]
    refine Sep.st1 h31 (Nat.le_of_ble_eq_true rfl) fun H33 h33 => ⟨⟨_, Sep.ld1 h33 rfl, cond_no (by rw [beq_eq_false_iff_ne]; omega) ?_⟩, ?_, ?_, ?_, ?_, ?_, ?_, trivial⟩
    · have hB := h33.bump 7
      refine ⟨_, _, _, _, _, Sep.lds1 hB rfl, _, _, _, _, _, Sep.lds1 hB rfl, ?_⟩
      have e : getOne chkI bs = (⟨b0, (b1 % 16 : Nat), (b1 / 16 : Nat), sgn 65536 (leNum ((bs.drop 2).take 2)), sgn 4294967296 (leNum ((bs.drop 4).take 4))⟩, 8, chkI ⟨b0, (b1 % 16 : Nat), (b1 / 16 : Nat), sgn 65536 (leNum ((bs.drop 2).take 2)), sgn 4294967296 (leNum ((bs.drop 4).take 4))⟩) := by
        unfold getOne
        rw [if_neg hsh, if_neg (by rw [g0]; exact e24), g0, g1]
      rw [e] at hR
      refine check_s (x := ⟨b0, (b1 % 16 : Nat), (b1 / 16 : Nat), sgn 65536 (leNum ((bs.drop 2).take 2)), sgn 4294967296 (leNum ((bs.drop 4).take 4))⟩) (Sep.up4 (Sep.up4 hB)) fun H75 h75 => ⟨_, rfl, Sep.st4 h75 (Nat.le_of_ble_eq_true rfl) fun H77 h77 => ⟨⟨_, _, _, _, _, Sep.lds4 h77 rfl, ?_⟩, ⟨⟨_, _, _, _, _, Sep.lds1 hB rfl, same5 _ _ _ _ _⟩, ⟨_, _, _, _, _, Sep.lds3 h75 rfl, same5 _ _ _ _ _⟩, trivial⟩, trivial⟩⟩
      exact hR H77 (Sep.up2 (Sep.rm3 (Sep.rm3 h77)))
    · exact ⟨⟨_, Sep.get0 hT, rfl⟩, ⟨_, Sep.get1 h28, rfl⟩, ⟨_, Sep.get1 h31, rfl⟩, trivial⟩
    · exact ⟨⟨n4, rfl⟩, ⟨n4, rfl⟩, ⟨n4, rfl⟩, trivial⟩
    · exact ⟨⟨_, Sep.ld2 hT c1, rfl⟩, ⟨_, Sep.ld0 h28 c1, rfl⟩, ⟨_, Sep.ld0 h31 c1, rfl⟩, trivial⟩
    · exact ⟨rfl, rfl, rfl, trivial⟩
    · exact ⟨⟨_, Sep.ld2 hT c1, rfl⟩, ⟨_, Sep.ld0 h28 c1, rfl⟩, ⟨_, Sep.ld0 h31 c1, rfl⟩, trivial⟩
    · exact ⟨⟨_, Sep.ld2 hT c0, rfl⟩, ⟨_, Sep.ld0 h28 c0, rfl⟩, ⟨_, Sep.ld0 h31 c0, rfl⟩, trivial⟩
end Go.Proofs.YtmgkngdbphkmmaaDoor

/-
  The instructions that bytes are: insn.Get answers getF.
-/
namespace Go.Proofs.YtmgkngdbphkmmaaDoor
open Go Go.AS Go.RowKit
set_option linter.unusedVariables false
variable {H H' : Heap} {R : Value → Heap → Prop} {L : List Asr} {i z o : Nat} {w : Bool} {c : List Value}

def flatI (l : List Ins) : List Value := (l.map Ins.cells).flatten
theorem flatI_snoc (l : List Ins) (x : Ins) : flatI (l ++ [x]) = flatI l ++ x.cells := by simp [flatI]
theorem flatI_len : ∀ l : List Ins, (flatI l).length = l.length * 5
  | [] => rfl
  | x :: l => by
    have e : flatI (x :: l) = x.cells ++ flatI l := rfl
    rw [e, List.length_append, flatI_len l]
    simp only [List.length_cons, List.length_nil]
    omega

def pre (m : List Ins) : Except Int (List Ins) → Except Int (List Ins)
  | .ok l => .ok (m ++ l)
  | .error e => .error e
theorem pre_nil (r : Except Int (List Ins)) : pre [] r = r := by cases r <;> rfl

theorem Bytes.drop {p : Nat} {bs : List Nat} (h : Bytes c p bs) (k : Nat) : Bytes c (p + k) (bs.drop k) := by
  intro j b hj
  rw [List.getElem?_drop] at hj
  rw [Nat.add_assoc]
  exact h (k + j) b hj

def gets (bs : List Nat) : Except Int (List Ins) := getF chkI bs.length 0 bs

theorem Get_s {bs : List Nat} (h : Sep H (bx i (.cells w z c) :: gh :: ga :: L)) (hz : z = 0 ∨ z = 1) (hb : Bytes c o bs) (hlt : ∀ b ∈ bs, b < 256) (hn : bs.length < 4611686018427387904)
    (hE : ∀ e, gets bs = .error e → ∀ H', Sep H' (bx i (.cells w z c) :: gh :: ga :: L) → R (.tuple #[.slice none 0 0, I e]) H')
    (hR : ∀ l, gets bs = .ok l → ∀ H' q, (q = none → l = []) → Sep H' (gl 5 q (flatI l) :: bx i (.cells w z c) :: gh :: ga :: L) → R (.tuple #[.slice (addr q) l.length 0, I 0]) H') :
    CA en F.insn_Get [.slice (some ⟨i, o, none⟩) bs.length 0] H R := by
  apply vc_insn_Get
  refine use_insn_Get_0 (fun k t0 t0l t2 t2l t3 t4 t4l H => ∃ (p f : Nat) (m : List Ins) (q : Option Nat), p ≤ bs.length ∧ k = bs.length - p ∧ t0 = some ⟨i, o + p, none⟩ ∧ t0l = bs.length - p ∧ t4 = addr q ∧ t4l = m.length ∧ m.length ≤ 256 ∧ (q = none → m = []) ∧ bs.length - p ≤ f ∧
    gets bs = pre m (getF chkI f m.length (bs.drop p)) ∧ Sep H (gl 5 q (flatI m) :: bx i (.cells w z c) :: gh :: ga :: L)) bs.length
    ⟨0, bs.length, [], none, by omega, rfl, rfl, rfl, rfl, rfl, by simp, fun _ => rfl, by omega, by rw [pre_nil]; rfl, gl_none.2 h⟩ ?_
  clear h
  rintro k t0 t0l t2 t2l t3 t4 t4l ys H3 ⟨p, f, m, q, hp, rfl, rfl, rfl, rfl, rfl, hm, hq, hf, hg, hs⟩
  refine cond_of (fun h1 => ?_) fun h1 => ?_
  · simp only [decide_eq_true_eq] at h1
    have hp' : p < bs.length := by omega
    have hdl : (bs.drop p).length = bs.length - p := List.length_drop ..
    have hne : bs.drop p ≠ [] := by intro e; rw [e] at hdl; simp at hdl; omega
    obtain ⟨f, rfl⟩ : ∃ f', f = f' + 1 := ⟨f - 1, by omega⟩
    rw [getF, if_neg hne] at hg
    refine cond_of (fun h256 => ?_) fun h256 => ?_
    · have h256 : m.length = 256 := by have : ((m.length : Nat) : Int) = 256 := by simpa using h256
                                       omega
      rw [if_pos h256] at hg
      exact asSl_in (asInt_in (asSl_in (hE 19 hg H3 hs.tail)))
    have h256 : ¬ m.length = 256 := by
      intro e
      rw [e] at h256
      simp at h256
    rw [if_neg h256] at hg
    have hltd : ∀ b ∈ bs.drop p, b < 256 := fun b hb => hlt b (List.mem_of_mem_drop hb)
    obtain ⟨x, n, e, hgo⟩ : ∃ x n e, getOne chkI (bs.drop p) = (x, n, e) := ⟨_, _, _, rfl⟩
    rw [hgo] at hg
    simp only at hg
    have O := one_s (R := fun v1 H2 => v1 = .tuple #[x.val, I n, I e] ∧ Sep H2 (bx i (.cells w z c) :: gh :: ga :: gl 5 q (flatI m) :: L)) (o := o + p) (bs := bs.drop p) (Sep.up3 (Sep.up3 (Sep.up3 hs))) hz (hb.drop p) hltd (by omega) (by omega) fun H2 h2 => ⟨by rw [hgo], h2⟩
    rw [hdl] at O
    refine CA_conseq ?_ O
    rintro v1 H2 ⟨rfl, h2⟩
    clear O hs
    refine ⟨_, _, _, _, _, _, _, rfl, Sep.nw h2 fun i10 H11 h11 => Sep.st0 h11 (Nat.le_of_ble_eq_true rfl) fun H12 h12 => cond_of (fun he => ?_) fun he => ?_⟩
    · have he : e ≠ 0 := by simpa using he
      rw [if_pos he] at hg
      exact asSl_in (asInt_in (asSl_in (hE _ hg H12 (Sep.rm3 h12.tail))))
    have he : e = 0 := by simpa using he
    subst he
    rw [if_neg (by simp)] at hg
    obtain ⟨n1, n2, n3, n4⟩ := getOne_back hltd hgo
    rw [hdl] at n2
    have nsz := sizI_pos x
    have hB := h12.bump 9
    have hin : inS (n : Int) (bs.length - p) := by unfold inS; omega
    refine ⟨_, _, _, _, _, Sep.lds0 hB rfl, Sep.nw hB fun i18 H19 h19 => ⟨x.cells, rowOf_bx (es := 5) (n := 1) (b := i18) (Sep.get0 h19) (by decide) rfl, ?_⟩⟩
    refine apd_gl (b := q) (len := m.length) (n := 1) (cs := flatI m) (new := x.cells) (Sep.up5 h19) (fun h => by rw [hq h]; rfl) (by decide) (flatI_len m) (by decide) rfl (by omega) fun H23 q' h23 => ?_
    refine ⟨hin, ⟨⟨_, _, _, Sep.get3 h23, hz⟩, ⟨bs.length - (p + n), by omega, asSl_in ⟨p + n, f, m ++ [x], some q', by omega, rfl, ?_, ?_, rfl, by simp, by simp; omega, (fun h => by cases h), by omega, ?_, ?_⟩⟩, ⟨⟨hin, ⟨_, _, _, Sep.get1 hB, hz⟩, rfl, rfl, rfl⟩, ⟨hin, ⟨_, _, _, Sep.get2 h19, hz⟩, rfl, rfl, rfl⟩, ⟨hin, ⟨_, _, _, Sep.get3 h23, hz⟩, rfl, rfl, rfl⟩, trivial⟩, trivial⟩⟩
    · rw [Int.toNat_natCast, Nat.mul_one, Nat.add_assoc]
    · rw [Int.toNat_natCast]; omega
    · rw [hg, List.drop_drop]
      simp only [List.length_append, List.length_cons, List.length_nil, Nat.zero_add]
      cases getF chkI f (m.length + 1) (bs.drop (p + n)) with
      | ok l => simp [pre]
      | error e => rfl
    · rw [flatI_snoc]
      exact Sep.rm1 (Sep.rm1 h23)
  · simp only [decide_eq_false_iff_not] at h1
    have hp' : p = bs.length := by omega
    subst hp'
    have hg' : gets bs = .ok m := by
      rw [hg, List.drop_length]
      cases f <;> simp [getF, pre]
    exact asSl_in (asInt_in (asSl_in (hR m hg' H3 q hq hs)))
end Go.Proofs.YtmgkngdbphkmmaaDoor

/-
  Lists of bytes and of instructions: copies, comparisons; the known ones.
-/
namespace Go.Proofs.YtmgkngdbphkmmaaDoor
open Go Go.AS Go.RowKit
set_option linter.unusedVariables false
variable {H H' : Heap} {R : Value → Heap → Prop} {L M : List Asr} {a b : Option Addr} {cs bs : List Nat} {l m : List Ins}

def RdB (L : List Asr) (a : Option Addr) (bs : List Nat) : Prop :=
  ∀ H', Sep H' L → ∀ (j : Nat) b, bs[j]? = some b → ∃ i, a = some ⟨i, 0, none⟩ ∧ H'.cell i (0 + j * 1) = some (Y b)

theorem flatI_take (l : List Ins) {j : Nat} {x : Ins} (h : l[j]? = some x) : takeAt (flatI l) (j * 5) 5 = some x.cells := by
  have hw : ∀ c ∈ l.map Ins.cells, c.length = 5 := by intro c hc; obtain ⟨y, _, rfl⟩ := List.mem_map.1 hc; rfl
  obtain ⟨hj, e⟩ := List.getElem?_eq_some_iff.1 h
  have := rowsFlat_takeAt hw (j := j) (by simpa using hj)
  rw [List.getElem_map, e] at this
  exact this

theorem rds_gl {q : Option Nat} (hm : gl 5 q (flatI l) ∈ L) (hq : q = none → l = []) : Rds L (addr q) l := by
  intro H' hs j x hx
  cases q with
  | none => rw [hq rfl] at hx; simp at hx
  | some q =>
    have hg : H'.get q = some (.cells true 5 (flatI l)) := (hs.all _ hm) (bx q (.cells true 5 (flatI l))) (by simp)
    exact ⟨q, rfl, by rw [cellsAt_of hg, Nat.zero_add]; exact flatI_take l hx⟩
theorem rds_arg {n : Nat} (ha : Arg a n (l.map Ins.cells) M) (hM : ∀ A ∈ M, A ∈ L) : Rds L a l := by
  intro H' hs j x hx
  have hw : ∀ c ∈ l.map Ins.cells, c.length = 5 := by intro c hc; obtain ⟨y, _, rfl⟩ := List.mem_map.1 hc; rfl
  obtain ⟨hj, e⟩ := List.getElem?_eq_some_iff.1 hx
  obtain ⟨i, h1, h2, _⟩ := ha.row hs hM hw (j := j) (by simpa using hj)
  refine ⟨i, h1, ?_⟩
  rw [List.getElem_map, e] at h2
  exact h2
theorem rdb_gl {q : Option Nat} (hm : gl 1 q (bs.map Y) ∈ L) (hq : q = none → bs = []) : RdB L (addr q) bs := by
  intro H' hs j x hx
  cases q with
  | none => rw [hq rfl] at hx; simp at hx
  | some q =>
    have hg : H'.get q = some (.cells true 1 (bs.map Y)) := (hs.all _ hm) (bx q (.cells true 1 (bs.map Y))) (by simp)
    exact ⟨q, rfl, by rw [cell_of hg, Nat.zero_add, Nat.mul_one, List.getElem?_map, hx]; rfl⟩
theorem rdb_bx {i z : Nat} {w : Bool} {c : List Value} (hm : bx i (.cells w z c) ∈ L) (hc : Bytes c 0 bs) : RdB L (some ⟨i, 0, none⟩) bs := by
  intro H' hs j x hx
  have hg : H'.get i = some (.cells w z c) := hs.all _ hm
  exact ⟨i, rfl, by rw [cell_of hg, Nat.mul_one]; exact hc j x hx⟩

theorem SameBytes_s (h : Sep H L) (ra : RdB L a cs) (rb : RdB L b bs) (hn : cs.length < 4611686018427387904) (hR : ∀ H', Sep H' L → R (.bool (decide (cs = bs))) H') : CA en F.crossbarkit_SameBytes [.slice a cs.length 0, .slice b bs.length 0] H R := by
  apply vc_crossbarkit_SameBytes
  refine cond_of (fun hl => ?_) fun hl => ?_
  · have hl : cs.length ≠ bs.length := by intro e; rw [e] at hl; simp at hl
    have := hR H h
    rw [decide_eq_false (fun e => hl (by rw [e]))] at this
    exact this
  have hl : cs.length = bs.length := by
    have : ((cs.length : Nat) : Int) = ((bs.length : Nat) : Int) := by simpa using hl
    omega
  refine use_crossbarkit_SameBytes_0 (fun k _ t5 H => ∃ j : Nat, j ≤ cs.length ∧ k = cs.length - j ∧ t5 = (j : Int) ∧ cs.take j = bs.take j ∧ Sep H L) cs.length ⟨0, by omega, rfl, rfl, by simp, h⟩ ?_
  clear h
  rintro k t4 t5 ys H3 ⟨j, hj, rfl, rfl, he, hs⟩
  refine cond_of (fun h1 => ?_) fun h1 => ?_
  · simp only [decide_eq_true_eq] at h1
    have hj' : j < cs.length := by omega
    obtain ⟨x, hx⟩ : ∃ x, cs[j]? = some x := ⟨_, List.getElem?_eq_getElem hj'⟩
    obtain ⟨y, hy⟩ : ∃ y, bs[j]? = some y := ⟨_, List.getElem?_eq_getElem (by omega)⟩
    have hB := hs.bump 9
    obtain ⟨i, rfl, e1⟩ := ra _ hB j x hx
    obtain ⟨i', rfl, e2⟩ := rb _ hB j y hy
    refine ⟨by unfold inB; omega, asRow_in ⟨_, e1, by unfold inB; omega, asRow_in ⟨_, e2, ⟨cond_of (fun hne => ?_) fun hne => ?_, trivial⟩⟩⟩⟩
    · have hne : ¬ x = y := by intro e; rw [e] at hne; simp at hne
      have := hR _ hB
      rw [decide_eq_false (fun e => by rw [e, hy] at hx; exact hne (Option.some.inj hx).symm)] at this
      exact asBool_in this
    · have hne : x = y := by have : (x : Int) = (y : Int) := by simpa using hne
                             omega
      refine ⟨cs.length - (j + 1), by omega, j + 1, by omega, rfl, ?_, ?_, hB⟩
      · rw [wrap_i64 (by omega)]; omega
      · rw [List.take_add_one, List.take_add_one, he, hx, hy, hne]
  · simp only [decide_eq_false_iff_not] at h1
    obtain rfl : j = cs.length := by omega
    have e : cs = bs := by
      rw [List.take_length, List.take_of_length_le (by omega)] at he
      exact he
    have := hR H3 hs
    rw [decide_eq_true e] at this
    exact asBool_in this

theorem ins_ext (x y : Ins) : ((x.op == y.op) && ((x.dst == y.dst) && ((x.src == y.src) && ((x.off == y.off) && (x.imm == y.imm))))) = decide (x = y) := by
  obtain ⟨a, b, c, d, e⟩ := x
  obtain ⟨a', b', c', d', e'⟩ := y
  rw [Bool.eq_iff_iff]
  simp

theorem SameInsns_s (h : Sep H L) (ra : Rds L a l) (rb : Rds L b m) (hn : l.length < 4611686018427387904) (hR : ∀ H', Sep H' L → R (.bool (decide (l = m))) H') : CA en F.crossbarkit_SameInsns [.slice a l.length 0, .slice b m.length 0] H R := by
  apply vc_crossbarkit_SameInsns
  refine cond_of (fun hl => ?_) fun hl => ?_
  · have hl : l.length ≠ m.length := by intro e; rw [e] at hl; simp at hl
    have := hR H h
    rw [decide_eq_false (fun e => hl (by rw [e]))] at this
    exact this
  have hl : l.length = m.length := by
    have : ((l.length : Nat) : Int) = ((m.length : Nat) : Int) := by simpa using hl
    omega
  refine use_crossbarkit_SameInsns_0 (fun k _ t5 H => ∃ j : Nat, j ≤ l.length ∧ k = l.length - j ∧ t5 = (j : Int) ∧ l.take j = m.take j ∧ Sep H L) l.length ⟨0, by omega, rfl, rfl, by simp, h⟩ ?_
  clear h
  rintro k t4 t5 ys H3 ⟨j, hj, rfl, rfl, he, hs⟩
  refine cond_of (fun h1 => ?_) fun h1 => ?_
  · simp only [decide_eq_true_eq] at h1
    have hj' : j < l.length := by omega
    obtain ⟨x, hx⟩ : ∃ x, l[j]? = some x := ⟨_, List.getElem?_eq_getElem hj'⟩
    obtain ⟨y, hy⟩ : ∃ y, m[j]? = some y := ⟨_, List.getElem?_eq_getElem (by omega)⟩
    have hB := hs.bump 9
    obtain ⟨i, rfl, e1⟩ := ra _ hB j x hx
    obtain ⟨i', rfl, e2⟩ := rb _ hB j y hy
    refine ⟨by unfold inB; omega, asRow_in ⟨_, _, _, _, _, e1, by unfold inB; omega, asRow_in ⟨_, _, _, _, _, e2, ⟨?_, trivial⟩⟩⟩⟩
    rw [ins_ext]
    refine cond_of (fun hne => ?_) fun hne => ?_
    · have hne : ¬ x = y := by simpa using hne
      have := hR _ hB
      rw [decide_eq_false (fun e => by rw [e, hy] at hx; exact hne (Option.some.inj hx).symm)] at this
      exact asBool_in this
    · have hne : x = y := by simpa using hne
      refine ⟨l.length - (j + 1), by omega, j + 1, by omega, rfl, ?_, ?_, hB⟩
      · rw [wrap_i64 (by omega)]; omega
      · rw [List.take_add_one, List.take_add_one, he, hx, hy, hne]
  · simp only [decide_eq_false_iff_not] at h1
    obtain rfl : j = l.length := by omega
    have e : l = m := by
      rw [List.take_length, List.take_of_length_le (by omega)] at he
      exact he
    have := hR H3 hs
    rw [decide_eq_true e] at this
    exact asBool_in this

theorem CopyBytes_s (h : Sep H L) (ra : RdB L a cs) (hn : cs.length < 70000000000000) (hR : ∀ H' q, (q = none → cs = []) → Sep H' (gl 1 q (cs.map Y) :: L) → R (.slice (addr q) cs.length 0) H') : CA en F.crossbarkit_CopyBytes [.slice a cs.length 0] H R := by
  apply vc_crossbarkit_CopyBytes
  refine use_crossbarkit_CopyBytes_0 (fun k t3 t3l t4 H => ∃ (j : Nat) (q : Option Nat), j ≤ cs.length ∧ k = cs.length - j ∧ t4 = (j : Int) ∧ t3 = addr q ∧ t3l = j ∧ (q = none → j = 0) ∧ Sep H (gl 1 q ((cs.take j).map Y) :: L)) cs.length ⟨0, none, by omega, rfl, rfl, rfl, rfl, fun _ => rfl, gl_none.2 h⟩ ?_
  clear h
  rintro k t3 t3l t4 ys H3 ⟨j, q, hj, rfl, rfl, rfl, rfl, hq, hs⟩
  refine cond_of (fun h1 => ?_) fun h1 => ?_
  · simp only [decide_eq_true_eq] at h1
    have hj' : t3l < cs.length := by omega
    obtain ⟨x, hx⟩ : ∃ x, cs[t3l]? = some x := ⟨_, List.getElem?_eq_getElem hj'⟩
    obtain ⟨i, rfl, e1⟩ := ra _ hs.tail t3l x hx
    refine ⟨by unfold inB; omega, asRow_in ⟨_, e1, Sep.nw hs fun i4 H5 h5 => ⟨[Y x], rowOf_bx (es := 1) (n := 1) (b := i4) (Sep.get0 h5) (by decide) rfl, ?_⟩⟩⟩
    refine apd_gl (b := q) (len := t3l) (n := 1) (cs := (cs.take t3l).map Y) (new := [Y x]) (Sep.up1 h5) (fun h => by rw [hq h]; rfl) (by decide) (by rw [List.length_map, List.length_take]; omega) (by decide) rfl (by omega) fun H' q' h' => ⟨cs.length - (t3l + 1), by omega, t3l + 1, some q', by omega, rfl, ?_, rfl, rfl, (fun h => by cases h), ?_⟩
    · rw [wrap_i64 (by omega)]; omega
    · rw [take_snoc' hx, List.map_append]
      exact Sep.rm1 h'
  · simp only [decide_eq_false_iff_not] at h1
    obtain rfl : t3l = cs.length := by omega
    rw [List.take_length] at hs
    exact asSl_in (hR H3 q (fun h => List.eq_nil_of_length_eq_zero (hq h)) hs)

theorem CopyInsns_s (h : Sep H L) (ra : Rds L a l) (hn : l.length < 1000000000000) (hR : ∀ H' q, (q = none → l = []) → Sep H' (gl 5 q (flatI l) :: L) → R (.slice (addr q) l.length 0) H') : CA en F.crossbarkit_CopyInsns [.slice a l.length 0] H R := by
  apply vc_crossbarkit_CopyInsns
  refine use_crossbarkit_CopyInsns_0 (fun k t3 t3l t4 H => ∃ (j : Nat) (q : Option Nat), j ≤ l.length ∧ k = l.length - j ∧ t4 = (j : Int) ∧ t3 = addr q ∧ t3l = j ∧ (q = none → j = 0) ∧ Sep H (gl 5 q (flatI (l.take j)) :: L)) l.length ⟨0, none, by omega, rfl, rfl, rfl, rfl, fun _ => rfl, gl_none.2 h⟩ ?_
  clear h
  rintro k t3 t3l t4 ys H3 ⟨j, q, hj, rfl, rfl, rfl, rfl, hq, hs⟩
  refine cond_of (fun h1 => ?_) fun h1 => ?_
  · simp only [decide_eq_true_eq] at h1
    have hj' : t3l < l.length := by omega
    obtain ⟨x, hx⟩ : ∃ x, l[t3l]? = some x := ⟨_, List.getElem?_eq_getElem hj'⟩
    obtain ⟨i, rfl, e1⟩ := ra _ hs.tail t3l x hx
    refine ⟨by unfold inB; omega, asRow_in ⟨_, _, _, _, _, e1, Sep.nw hs fun i4 H5 h5 => ⟨x.cells, rowOf_bx (es := 5) (n := 1) (b := i4) (Sep.get0 h5) (by decide) rfl, ?_⟩⟩⟩
    refine apd_gl (b := q) (len := t3l) (n := 1) (cs := flatI (l.take t3l)) (new := x.cells) (Sep.up1 h5) (fun h => by rw [hq h]; rfl) (by decide) (by rw [flatI_len, List.length_take]; omega) (by decide) rfl (by omega) fun H' q' h' => ⟨l.length - (t3l + 1), by omega, t3l + 1, some q', by omega, rfl, ?_, rfl, rfl, (fun h => by cases h), ?_⟩
    · rw [wrap_i64 (by omega)]; omega
    · rw [take_snoc' hx, flatI_snoc]
      exact Sep.rm1 h'
  · simp only [decide_eq_false_iff_not] at h1
    obtain rfl : t3l = l.length := by omega
    rw [List.take_length] at hs
    exact asSl_in (hR H3 q (fun h => List.eq_nil_of_length_eq_zero (hq h)) hs)

/-- An append of any number. -/
theorem apd_any {es : Nat} {q : Option Nat} {cs new : List Value} {bytes len n : Nat} {K : Option Addr → Nat → Heap → Prop} (h : Sep H (gl es q cs :: L)) (hb : q = none → cs = []) (hes : 0 < es) (hlen : cs.length = len * es)
    (hnew : new.length = n * es) (hby : (len + n) * bytes ≤ 140737488355328) (k : ∀ H' q', (q' = none → cs ++ new = []) → Sep H' (gl es q' (cs ++ new) :: L) → K (addr q') (len + n) H') : apd H bytes es (addr q) len n new K := by
  rcases Nat.eq_zero_or_pos n with rfl | hn
  · have e : new = [] := List.eq_nil_of_length_eq_zero (by rw [hnew, Nat.zero_mul])
    subst e
    refine .inl ⟨rfl, ?_⟩
    have := k H q (fun e => by rw [hb e]; rfl)
    rw [List.append_nil] at this
    exact this h
  · exact apd_gl h hb hes hlen hn hnew hby fun H' q' h' => k H' (some q') (fun e => by cases e) h'

theorem rowOf_nil {es : Nat} {q : Option Nat} : rowOf H es (addr q) 0 = some [] := by
  cases q with
  | none => rfl
  | some i =>
    show (if 0 * es = 0 then some [] else match H.get i with | some (.cells _ _ c) => takeAt c 0 (0 * es) | _ => none) = some []
    rw [if_pos (Nat.zero_mul _)]

theorem rowOf_arg {n w : Nat} {css : List (List Value)} (ha : Arg a n css M) (hs : Sep H L) (hM : ∀ A ∈ M, A ∈ L) (hw : ∀ c ∈ css, c.length = w) (h0 : 0 < w) : rowOf H w a n = some css.flatten := by
  cases ha with
  | none => exact rowOf_nil (q := none)
  | some i css =>
    rcases Nat.eq_zero_or_pos css.length with e | e
    · rw [e, List.eq_nil_of_length_eq_zero e]; exact rowOf_nil (q := some i)
    · have hg : H.get i = some (.cells false 0 css.flatten) := hs.all (bx i (.cells false 0 css.flatten)) (hM _ (by simp))
      refine rowOf_bx hg (Nat.mul_pos e h0) ?_
      rw [← rowsFlat_len css hw]
      exact takeAt_all' _

theorem rowOf_gl {es n : Nat} {q : Option Nat} {cs : List Value} (hs : Sep H L) (hm : gl es q cs ∈ L) (hq : q = none → cs = []) (hl : cs.length = n * es) (h0 : 0 < es) : rowOf H es (addr q) n = some cs := by
  rcases Nat.eq_zero_or_pos n with e | e
  · subst e
    rw [List.eq_nil_of_length_eq_zero (l := cs) (by rw [hl, Nat.zero_mul])]; exact rowOf_nil
  · cases q with
    | none =>
      rw [hq rfl] at hl
      have := Nat.mul_pos e h0
      simp only [List.length_nil] at hl
      omega
    | some q =>
      have hg : H.get q = some (.cells true es cs) := (hs.all _ hm) (bx q (.cells true es cs)) (by simp)
      refine rowOf_bx hg (Nat.mul_pos e h0) ?_
      rw [← hl]
      exact takeAt_all' _

/-! ### The known ones -/
theorem bytes_s {x : Ins} {i : Nat} {want : List Nat} (h : Sep H (bx i (.cells true 1 (want.map Y)) :: gh :: ga :: L)) (he : putErr [x] = 0) (hp : puts [x] = want) (hR : ∀ H', Sep H' (gh :: ga :: L) → R (.bool true) H') :
    CA en F.crossbarlaw02_bytes [x.val, .slice (some ⟨i, 0, none⟩) want.length 0] H R := by
  apply vc_crossbarlaw02_bytes
  refine Sep.nw h fun i1 H2 h2 => ⟨_, _, _, _, _, Sep.lds0 h2 rfl, Sep.nw h2 fun i8 H9 h9 => ?_⟩
  -- i8 i1 want gh ga
  have h10 : Sep H9 (gh :: ga :: bx i8 (.cells true 5 x.cells) :: bx i1 (.cells true 0 x.cells) :: bx i (.cells true 1 (want.map Y)) :: L) := Sep.up4 (Sep.up4 h9)
  refine Put_s (l := [x]) h10 (fun H' hs j y hy => ?_) (fun hE => absurd he hE) fun _ H11 q hq h11 => ⟨_, _, _, rfl, cond_yes rfl ?_⟩
  · have hj : j = 0 := by
      rcases Nat.eq_zero_or_pos j with e | e
      · exact e
      · rw [List.getElem?_eq_none (by simp; omega)] at hy; cases hy
    subst hj
    cases hy
    exact ⟨i8, rfl, Sep.lds2 hs rfl⟩
  · rw [hp] at h11 hq
    rw [hp]
    refine SameBytes_s (cs := want) (bs := want) h11 (rdb_gl (by simp) hq) (rdb_bx (i := i) (w := true) (z := 1) (c := want.map Y) (by simp) fun k b hk => by rw [Nat.zero_add, List.getElem?_map, hk]; rfl) ?_ fun H16 h16 => ⟨_, rfl, ?_⟩
    · have : want.length ≤ 16 := by rw [← hp, puts_one, putI_len]; exact (sizI_pos x).2
      omega
    · have := hR H16 (Sep.rm2 (Sep.rm2 (Sep.rm2 h16.tail)))
      rw [decide_eq_true rfl]
      exact this

theorem known02_s (h : Sep H (gh :: ga :: L)) (hR : ∀ H', Sep H' (gh :: ga :: L) → R (.bool true) H') : CA en F.crossbarlaw02_known [] H R := by
  apply vc_crossbarlaw02_known
  refine Sep.nw h fun i1 H2 h2 => ?_
  refine bytes_s (x := ⟨183, 2, 0, 0, -1⟩) (want := [183, 2, 0, 0, 255, 255, 255, 255]) h2 (by kernel_rfl) (by kernel_rfl) fun H4 h4 => ⟨_, rfl, cond_yes rfl ?_⟩
  refine check_s (x := ⟨149, 0, 0, 0, 0⟩) h4 fun H7 h7 => ⟨_, rfl, cond_yes (by kernel_rfl) ?_⟩
  refine check_s (x := ⟨7, 10, 0, 0, 0⟩) h7 fun H10 h10 => ⟨_, rfl, ?_⟩
  have e : (chkI ⟨7, 10, 0, 0, 0⟩ == 8) = true := by kernel_rfl
  rw [e]
  exact hR H10 h10
end Go.Proofs.YtmgkngdbphkmmaaDoor

/-
  'crossbarlaw02.InsnBack' returns true: instructions, their bytes, and back.
-/
namespace Go.Proofs.YtmgkngdbphkmmaaDoor
open Go Go.AS Go.RowKit
set_option linter.unusedVariables false
variable {H H' : Heap} {R : Value → Heap → Prop} {L M : List Asr} {a b : Option Addr} {l m : List Ins}

theorem Get_gl {q : Option Nat} {bs : List Nat} (h : Sep H (gl 1 q (bs.map Y) :: gh :: ga :: L)) (hq : q = none → bs = []) (hlt : ∀ b ∈ bs, b < 256) (hn : bs.length < 4611686018427387904)
    (hE : ∀ e, gets bs = .error e → ∀ H', Sep H' (gl 1 q (bs.map Y) :: gh :: ga :: L) → R (.tuple #[.slice none 0 0, I e]) H')
    (hR : ∀ l, gets bs = .ok l → ∀ H' g, (g = none → l = []) → Sep H' (gl 5 g (flatI l) :: gl 1 q (bs.map Y) :: gh :: ga :: L) → R (.tuple #[.slice (addr g) l.length 0, I 0]) H') :
    CA en F.insn_Get [.slice (addr q) bs.length 0] H R := by
  cases q with
  | none =>
    have e := hq rfl
    subst e
    apply vc_insn_Get
    refine use_insn_Get_0 (fun k t0 t0l t2 t2l t3 t4 t4l H' => t0l = 0 ∧ t4 = none ∧ t4l = 0 ∧ H' = H) 0 ⟨rfl, rfl, rfl, rfl⟩ ?_
    rintro k t0 t0l t2 t2l t3 t4 t4l ys H3 ⟨rfl, rfl, rfl, rfl⟩
    refine cond_no rfl (asSl_in (asInt_in (asSl_in ?_)))
    exact hR [] rfl H3 none (fun _ => rfl) (gl_none.2 h)
  | some q =>
    refine Get_s (i := q) (z := 1) (w := true) (o := 0) (c := bs.map Y) (gl_some.1 h) (.inr rfl) (fun k b hk => by rw [Nat.zero_add, List.getElem?_map, hk]; rfl) hlt hn (fun e he H' h' => hE e he H' (gl_some.2 h')) fun l hl H' g hg h' => hR l hl H' g hg ?_
    exact Sep.up1 (gl_some.2 (Sep.up1 h'))

theorem puts_ge : ∀ l : List Ins, 8 * l.length ≤ (puts l).length
  | [] => by simp
  | x :: l => by
    have := puts_ge l
    have h2 := sizI_pos x
    rw [puts_cons, List.length_append, putI_len, List.length_cons]; omega

theorem gets_puts {l : List Ins} (hl : l.length ≤ 256) (hc : ∀ x ∈ l, chkI x = 0) : gets (puts l) = .ok l :=
  getF_puts chk_bnd l _ 0 (by have := puts_ge l; omega) (by omega) hc

theorem flatI_op (l : List Ins) {j : Nat} {x : Ins} (h : l[j]? = some x) : (flatI l)[j * 5]? = some (I x.op) := by
  have hw : ∀ c ∈ l.map Ins.cells, c.length = 5 := by intro c hc; obtain ⟨y, _, rfl⟩ := List.mem_map.1 hc; rfl
  obtain ⟨hj, e⟩ := List.getElem?_eq_some_iff.1 h
  have := rowsFlat_cell hw (j := j) (k := 0) (by simpa using hj) (by decide)
  rw [List.getElem_map, e, Nat.add_zero] at this
  exact this

theorem flatI_append (l m : List Ins) : flatI (l ++ m) = flatI l ++ flatI m := by simp [flatI]

theorem InsnBack_ok {n1 n2 : Nat} {M1 M2 : List Asr} (ha1 : Arg a n1 (l.map Ins.cells) M1) (ha2 : Arg b n2 (m.map Ins.cells) M2) (hM1 : ∀ A ∈ M1, A ∈ gh :: ga :: L) (hM2 : ∀ A ∈ M2, A ∈ gh :: ga :: L) (h : Sep H (gh :: ga :: L)) :
    CA en F.crossbarlaw02_InsnBack [.slice a n1 0, .slice b n2 0] H fun r _ => r = .bool true := by
  obtain rfl : n1 = l.length := by rw [ha1.len, List.length_map]
  obtain rfl : n2 = m.length := by rw [ha2.len, List.length_map]
  have known : ∀ {H L'}, Sep H (gh :: ga :: L') → CA en F.crossbarlaw02_known [] H fun v H' => ∃ b, v = .bool b ∧ Value.bool b = .bool true := fun h => known02_s h fun _ _ => ⟨_, rfl, rfl⟩
  apply vc_crossbarlaw02_InsnBack
  refine cond_of (fun _ => known h) fun hw => ?_
  simp only [decide_eq_false_iff_not] at hw
  have err2 : putErr m ≠ 0 → ∀ H' A, Sep H' (A :: gh :: ga :: L) → Sep H' (gh :: ga :: L) := fun _ H' A h' => h'.tail
  by_cases he : putErr l = 0
  · by_cases hf : putErr m = 0
    · refine Put_s h (rds_arg ha1 hM1) (fun h => absurd he h) fun _ H5 qa hqa h5 => ⟨_, _, _, rfl, ?_⟩
      refine Put_s (Sep.up2 (Sep.up2 h5)) (rds_arg ha2 fun A hA => by have := hM2 A hA; simp only [List.mem_cons] at this ⊢; rcases this with h | h | h <;> simp [h]) (fun h => absurd hf h) fun _ H10 qb hqb h10 => ⟨_, _, _, rfl, cond_no rfl (cond_no rfl ?_)⟩
      -- b gh ga a L
      have hl256 : l.length ≤ 256 := by
        refine Classical.byContradiction fun hc => ?_
        unfold putErr at he; rw [if_pos (by omega)] at he; cases he
      have hm256 : m.length ≤ 256 := by
        refine Classical.byContradiction fun hc => ?_
        unfold putErr at hf; rw [if_pos (by omega)] at hf; cases hf
      rw [wrap_i64 (by omega)] at hw
      have hcl : ∀ x ∈ l, chkI x = 0 := firstE_zero.1 (by unfold putErr at he; rw [if_neg (by omega)] at he; exact he)
      have hcm : ∀ x ∈ m, chkI x = 0 := firstE_zero.1 (by unfold putErr at hf; rw [if_neg (by omega)] at hf; exact hf)
      have hcb : ∀ x ∈ l ++ m, chkI x = 0 := fun x hx => (List.mem_append.1 hx).elim (hcl x) (hcm x)
      have hbe : putErr (l ++ m) = 0 := by unfold putErr; rw [if_neg (by rw [List.length_append]; omega)]; exact firstE_zero.2 hcb
      refine CopyInsns_s h10 (rds_arg ha1 fun A hA => by have := hM1 A hA; simp only [List.mem_cons] at this ⊢; rcases this with h | h | h <;> simp [h]) (by omega) fun H39 qk hqk h39 => ⟨_, _, rfl, _, rowOf_arg ha2 h39 (fun A hA => by have := hM2 A hA; simp only [List.mem_cons] at this ⊢; rcases this with h | h | h <;> simp [h]) (by intro c hc; obtain ⟨y, _, rfl⟩ := List.mem_map.1 hc; rfl) (by decide), ?_⟩
      refine apd_any (len := l.length) (n := m.length) h39 (fun e => by rw [hqk e]; rfl) (by decide) (flatI_len l) (by show (flatI m).length = _; exact flatI_len m) (by omega) fun H45 qq hqq h45 => ?_
      have h45 : Sep H45 (gl 5 qq (flatI (l ++ m)) :: gl 1 qb ((puts m).map Y) :: gh :: ga :: gl 1 qa ((puts l).map Y) :: L) := by rw [flatI_append]; exact h45
      have hqq' : qq = none → l ++ m = [] := fun e => by
        have this : flatI l ++ flatI m = [] := hqq e
        have h2 := flatI_len (l ++ m)
        rw [flatI_append, this] at h2
        exact List.eq_nil_of_length_eq_zero (by simp only [List.length_nil] at h2; omega)
      have hbl : (l ++ m).length = l.length + m.length := List.length_append
      rw [← hbl]
      generalize hB : l ++ m = both at *
      refine use_crossbarlaw02_InsnBack_0 (fun k t10 t11 H => ∃ j : Nat, j ≤ both.length ∧ k = both.length - j ∧ t11 = (j : Int) ∧ t10 = ((puts (both.take j)).length : Int) ∧ H = H45) both.length ⟨0, by omega, rfl, rfl, rfl, rfl⟩ ?_
      rintro k t10 t11 ys H3 ⟨j, hj, rfl, rfl, rfl, rfl⟩
      refine cond_of (fun h1 => ?_) fun h1 => ?_
      · simp only [decide_eq_true_eq] at h1
        have hj' : j < both.length := by omega
        obtain ⟨x, hx⟩ : ∃ x, both[j]? = some x := ⟨_, List.getElem?_eq_getElem hj'⟩
        have hple := puts_le (both.take j)
        rw [List.length_take, Nat.min_eq_left (by omega)] at hple
        have hs : (puts (both.take (j + 1))).length = (puts (both.take j)).length + sizI x := by rw [take_snoc' hx, puts_append, puts_one, List.length_append, putI_len]
        cases qq with
        | none => rw [hqq' rfl] at hj'; simp at hj'
        | some qq =>
          refine ⟨by unfold inB; omega, asRow_in ⟨x.op, ?_, cond_of (fun e => ?_) fun e => ?_⟩⟩
          · have hg := Sep.get0 (gl_some.1 h45)
            rw [cell_of hg, Nat.zero_add, Int.toNat_natCast]
            exact flatI_op both hx
          · have e : x.op = 24 := by simpa using e
            refine ⟨both.length - (j + 1), by omega, j + 1, by omega, rfl, ?_, ?_, rfl⟩
            · rw [wrap_i64 (by omega)]; omega
            · have : sizI x = 16 := if_pos e
              rw [wrap_i64 (n := ((puts (both.take j)).length : Int) + 8) (by omega), wrap_i64 (by omega), hs, this]; omega
          · have e : ¬ x.op = 24 := by simpa using e
            refine ⟨both.length - (j + 1), by omega, j + 1, by omega, rfl, ?_, ?_, rfl⟩
            · rw [wrap_i64 (by omega)]; omega
            · have : sizI x = 8 := if_neg e
              rw [wrap_i64 (by omega), hs, this]; omega
      · simp only [decide_eq_false_iff_not] at h1
        obtain rfl : j = both.length := by omega
        rw [List.take_length]
        refine asInt_in ?_
        have hplen := puts_le both
        have hR5 : Rds (gh :: ga :: gl 5 qq (flatI both) :: gl 1 qb ((puts m).map Y) :: gl 1 qa ((puts l).map Y) :: L) (addr qq) both := rds_gl (by simp) hqq'
        refine Put_s (Sep.up3 (Sep.up3 h45)) hR5 (fun h => absurd hbe h) fun _ H50 qc hqc h50 => ⟨_, _, _, rfl, ?_⟩
        refine Get_gl h50 hqc (puts_lt both) (by omega) (fun e he => by rw [gets_puts (by omega) hcb] at he; cases he) fun l2 hl2 H55 qg hqg h55 => ⟨_, _, _, rfl, cond_yes rfl (cond_yes rfl (cond_yes (by simp) ?_))⟩
        rw [gets_puts (by omega) hcb] at hl2
        cases hl2
        -- g c gh ga both b a
        have hpl := puts_le l
        have hpm := puts_le m
        refine CopyBytes_s h55 (rdb_gl (by simp) hqa) (by omega) fun H60 qd hqd h60 => ⟨_, _, rfl, _, rowOf_gl (es := 1) (n := (puts m).length) (q := qb) (cs := (puts m).map Y) h60 (by simp) (fun e => by rw [hqb e]; rfl) (by rw [List.length_map, Nat.mul_one]) (by decide), ?_⟩
        refine apd_any (len := (puts l).length) (n := (puts m).length) h60 (fun e => by rw [hqd e]; rfl) (by decide) (by rw [List.length_map, Nat.mul_one]) (by rw [List.length_map, Nat.mul_one]) (by omega) fun H66 qe hqe h66 => ?_
        have eb : puts both = puts l ++ puts m := by rw [← hB, puts_append]
        rw [← List.map_append, ← eb] at h66 hqe
        have hqe' : qe = none → puts both = [] := fun e => by
          have := hqe e
          simpa using this
        have elen : (puts l).length + (puts m).length = (puts both).length := by rw [eb, List.length_append]
        rw [elen]
        refine SameBytes_s (cs := puts both) (bs := puts both) h66 (rdb_gl (by simp) hqc) (rdb_gl (by simp) hqe') (by omega) fun H68 h68 => ⟨_, rfl, cond_yes (by simp) ?_⟩
        refine SameInsns_s (l := both) (m := both) h68 (rds_gl (by simp) hqg) (rds_gl (by simp) hqq') (by omega) fun H71 h71 => ⟨_, rfl, cond_yes (by simp) ?_⟩
        exact known (Sep.up4 (Sep.up4 h71))
    · refine Put_s h (rds_arg ha1 hM1) (fun h => absurd he h) fun _ H5 qa hqa h5 => ⟨_, _, _, rfl, ?_⟩
      refine Put_s (Sep.up2 (Sep.up2 h5)) (rds_arg ha2 fun A hA => by have := hM2 A hA; simp only [List.mem_cons] at this ⊢; rcases this with h | h | h <;> simp [h]) (fun _ H10 h10 => ⟨_, _, _, rfl, cond_no rfl (cond_yes (by simpa using hf) (cond_yes rfl (cond_no (by simpa using hf) (cond_yes rfl (known h10)))))⟩) fun h => absurd h hf
  · refine Put_s h (rds_arg ha1 hM1) (fun _ H5 h5 => ⟨_, _, _, rfl, ?_⟩) fun h => absurd h he
    by_cases hf : putErr m = 0
    · refine Put_s h5 (rds_arg ha2 hM2) (fun h => absurd hf h) fun _ H10 qb hqb h10 => ⟨_, _, _, rfl, cond_yes (by simpa using he) (cond_no (by simpa using he) (cond_yes rfl (cond_yes rfl (known h10.tail))))⟩
    · refine Put_s h5 (rds_arg ha2 hM2) (fun _ H10 h10 => ⟨_, _, _, rfl, cond_yes (by simpa using he) (cond_no (by simpa using he) (cond_yes rfl (cond_no (by simpa using hf) (cond_yes rfl (known h10)))))⟩) fun h => absurd h hf

theorem ins_of : ∀ (css : List (List Value)), (∀ c ∈ css, ∃ x : Ins, c = x.cells) → ∃ l : List Ins, css = l.map Ins.cells
  | [], _ => ⟨[], rfl⟩
  | c :: css, h => by
    obtain ⟨x, rfl⟩ := h c (by simp)
    obtain ⟨l, rfl⟩ := ins_of css fun c hc => h c (List.mem_cons_of_mem _ hc)
    exact ⟨x :: l, rfl⟩

/-- The program's variables, at the outset. -/
theorem sepG (hG : ∀ p ∈ [(0, gHalf), (1, gAtom)], p.1 < H.next ∧ H.get p.1 = some (.cells false 0 p.2)) : Sep H [gh, ga] := by
  have h0 := hG (0, gHalf) (by simp)
  have h1 := hG (1, gAtom) (by simp)
  refine ⟨fun A hA => ?_, by simp [feet, bx], fun i hi => ?_⟩
  · simp only [List.mem_cons, List.not_mem_nil, or_false] at hA
    rcases hA with rfl | rfl
    · exact h0.2
    · exact h1.2
  · simp [feet, bx] at hi
    rcases hi with rfl | rfl
    · exact h0.1
    · exact h1.1

theorem InsnBack_law (H : Heap) (us : List Value) (hG : ∀ p ∈ [(0, gHalf), (1, gAtom)], p.1 < H.next ∧ H.get p.1 = some (.cells false 0 p.2)) (h : shpVs en H 7 T.InsnBack us) : CA en F.crossbarlaw02_InsnBack us H fun v _ => v = .bool true := by
  obtain ⟨v, u, rfl, hA, v2, u2, rfl, hB, rfl⟩ := args_InsnBack h
  obtain ⟨a1, n1, css1, M1, X, rfl, ha1, m1, hs, hf, c1⟩ := Arg.moreE (SlArg.one hA) (sepG hG) (by intro A hA; simp only [List.mem_cons, List.not_mem_nil, or_false] at hA; rcases hA with rfl | rfl <;> exact ⟨_, _, rfl⟩)
  obtain ⟨a2, n2, css2, M2, X2, rfl, ha2, m2, hs2, hf2, c2⟩ := Arg.moreE (SlArg.one hB) hs hf
  obtain ⟨l, rfl⟩ := ins_of css1 fun c hm => by
    obtain ⟨ap1, bp1, rfl, ⟨np1, rfl, wp1⟩, ap2, bp2, rfl, ⟨np2, rfl, wp2⟩, ap3, bp3, rfl, ⟨np3, rfl, wp3⟩, ap4, bp4, rfl, ⟨np4, rfl, wp4⟩, ap5, bp5, rfl, ⟨np5, rfl, wp5⟩, rfl⟩ := c1 c hm
    exact ⟨⟨np1, np2, np3, np4, np5⟩, rfl⟩
  obtain ⟨m, rfl⟩ := ins_of css2 fun c hm => by
    obtain ⟨ap1, bp1, rfl, ⟨np1, rfl, wp1⟩, ap2, bp2, rfl, ⟨np2, rfl, wp2⟩, ap3, bp3, rfl, ⟨np3, rfl, wp3⟩, ap4, bp4, rfl, ⟨np4, rfl, wp4⟩, ap5, bp5, rfl, ⟨np5, rfl, wp5⟩, rfl⟩ := c2 c hm
    exact ⟨⟨np1, np2, np3, np4, np5⟩, rfl⟩
  exact InsnBack_ok ha1 ha2 (fun A hA => List.mem_append_left X2 (m1 A hA)) m2 hs2
end Go.Proofs.YtmgkngdbphkmmaaDoor

/-
  'crossbarlaw02.InsnAgain' returns true: what bytes were read as has these bytes; cut they are none.
-/
namespace Go.Proofs.YtmgkngdbphkmmaaDoor
open Go Go.AS Go.RowKit
set_option linter.unusedVariables false
variable {H H' : Heap} {R : Value → Heap → Prop} {L M : List Asr} {a b : Option Addr} {l m : List Ins}

/-- Bytes that were handed in: none, or a block. -/
def inb (q : Option Nat) (bs : List Nat) : Asr := many (match q with | none => [] | some i => [bx i (.cells false 0 (bs.map Y))])
theorem inb_some {i : Nat} {bs : List Nat} : Sep H (inb (some i) bs :: L) ↔ Sep H (bx i (.cells false 0 (bs.map Y)) :: L) := Sep.many_iff
theorem inb_none {bs : List Nat} : Sep H (inb none bs :: L) ↔ Sep H L := Sep.many_iff

theorem rdb_inb {q : Option Nat} {bs : List Nat} (hm : inb q bs ∈ L) (hq : q = none → bs = []) : RdB L (addr q) bs := by
  intro H' hs j x hx
  cases q with
  | none => rw [hq rfl] at hx; simp at hx
  | some q =>
    have hg : H'.get q = some (.cells false 0 (bs.map Y)) := (hs.all _ hm) (bx q (.cells false 0 (bs.map Y))) (by simp)
    exact ⟨q, rfl, by rw [cell_of hg, Nat.zero_add, Nat.mul_one, List.getElem?_map, hx]; rfl⟩

/-- The first of some bytes, read. -/
theorem Get_inb {q : Option Nat} {bs : List Nat} (n : Nat) (hn : n ≤ bs.length) (h : Sep H (inb q bs :: gh :: ga :: L)) (hq : q = none → bs = []) (hlt : ∀ b ∈ bs, b < 256) (hl : bs.length < 4611686018427387904)
    (hE : ∀ e, gets (bs.take n) = .error e → ∀ H', Sep H' (inb q bs :: gh :: ga :: L) → R (.tuple #[.slice none 0 0, I e]) H')
    (hR : ∀ l, gets (bs.take n) = .ok l → ∀ H' g, (g = none → l = []) → Sep H' (gl 5 g (flatI l) :: inb q bs :: gh :: ga :: L) → R (.tuple #[.slice (addr g) l.length 0, I 0]) H') :
    CA en F.insn_Get [.slice (addr q) n 0] H R := by
  have hlen : (bs.take n).length = n := by rw [List.length_take]; omega
  cases q with
  | none =>
    have e := hq rfl
    subst e
    have n0 : n = 0 := by simpa using hn
    subst n0
    apply vc_insn_Get
    refine use_insn_Get_0 (fun k t0 t0l t2 t2l t3 t4 t4l H' => t0l = 0 ∧ t4 = none ∧ t4l = 0 ∧ H' = H) 0 ⟨rfl, rfl, rfl, rfl⟩ ?_
    rintro k t0 t0l t2 t2l t3 t4 t4l ys H3 ⟨rfl, rfl, rfl, rfl⟩
    refine cond_no rfl (asSl_in (asInt_in (asSl_in ?_)))
    exact hR [] rfl H3 none (fun _ => rfl) (gl_none.2 h)
  | some q =>
    have G := Get_s (R := R) (i := q) (z := 0) (w := false) (o := 0) (c := bs.map Y) (bs := bs.take n) (inb_some.1 h) (.inl rfl) (fun k b hk => by
      rw [List.getElem?_take] at hk
      split at hk
      · rw [Nat.zero_add, List.getElem?_map, hk]; rfl
      · cases hk) (fun b hb => hlt b (List.mem_of_mem_take hb)) (by omega) (fun e he H' h' => hE e he H' (inb_some.2 h')) fun l hl H' g hg h' => hR l hl H' g hg (Sep.up1 (inb_some.2 (Sep.up1 h')))
    rw [hlen] at G
    exact G

theorem gets_back {bs : List Nat} (hlt : ∀ b ∈ bs, b < 256) (h : gets bs = .ok l) : puts l = bs ∧ (∀ x ∈ l, chkI x = 0) ∧ l.length ≤ 256 := by
  have := getF_back chk_bnd bs.length 0 bs l (Nat.le_refl _) (by omega) hlt h
  exact ⟨this.1, this.2.1, by omega⟩

theorem Pick_s {v n : Int} (hn : 1 ≤ n) (hl : n ≤ 4611686018427387904) (hR : R (I (v % n)) H) : CA en F.crossbarkit_Pick [I v, I n] H R := by
  apply vc_crossbarkit_Pick
  refine cond_no (by simp; omega) ⟨by unfold nz; omega, ?_⟩
  have hb : (v.tmod n).natAbs < n.natAbs := by
    rw [Int.natAbs_tmod]; exact Nat.mod_lt _ (by omega)
  have h1 : v % n = if v.tmod n < 0 then v.tmod n + n else v.tmod n := by
    have e1 := Int.tmod_add_mul_tdiv v n
    split
    · rename_i h
      have : v % n = (v.tmod n + n) % n := by
        conv => lhs; rw [← e1]
        rw [Int.add_mul_emod_self_left, Int.add_emod_right]
      rw [this]; exact Int.emod_eq_of_lt (by omega) (by omega)
    · rename_i h
      have : v % n = (v.tmod n) % n := by
        conv => lhs; rw [← e1]
        rw [Int.add_mul_emod_self_left]
      rw [this]; exact Int.emod_eq_of_lt (by omega) (by omega)
  rw [h1] at hR
  refine cond_of (fun h => ?_) fun h => ?_
  · simp only [decide_eq_true_eq] at h
    rw [if_pos h] at hR
    rw [wrap_i64 (by omega)]; exact hR
  · simp only [decide_eq_false_iff_not] at h
    rw [if_neg h] at hR; exact hR

theorem getF_err : ∀ (f k : Nat) (bs : List Nat) (e : Int), getF chkI f k bs = .error e → e ≠ 0
  | 0, k, bs, e, h => by simp [getF] at h
  | f + 1, k, bs, e, h => by
    rw [getF] at h
    split at h
    · cases h
    · split at h
      · cases h; decide
      · split at h
        · rename_i h0; cases h; exact h0
        · split at h
          · cases h
          · rename_i e' he
            cases h
            exact getF_err f _ _ _ he

theorem getF_fuel : ∀ (f f' k : Nat) (bs : List Nat), (∀ b ∈ bs, b < 256) → bs.length ≤ f → bs.length ≤ f' → getF chkI f k bs = getF chkI f' k bs
  | 0, 0, k, bs, _, _, _ => rfl
  | 0, f' + 1, k, bs, _, h, _ => by
    have : bs = [] := List.eq_nil_of_length_eq_zero (by omega)
    subst this
    simp [getF]
  | f + 1, 0, k, bs, _, _, h => by
    have : bs = [] := List.eq_nil_of_length_eq_zero (by omega)
    subst this
    simp [getF]
  | f + 1, f' + 1, k, bs, hlt, h, h' => by
    rw [getF, getF]
    by_cases h0 : bs = []
    · rw [if_pos h0, if_pos h0]
    rw [if_neg h0, if_neg h0]
    by_cases h1 : k = 256
    · rw [if_pos h1, if_pos h1]
    rw [if_neg h1, if_neg h1]
    obtain ⟨x, n, e, hgo⟩ : ∃ x n e, getOne chkI bs = (x, n, e) := ⟨_, _, _, rfl⟩
    rw [hgo]
    simp only
    by_cases h2 : e ≠ 0
    · rw [if_pos h2, if_pos h2]
    rw [if_neg h2, if_neg h2]
    have he : e = 0 := by omega
    subst he
    obtain ⟨n1, n2, _, _⟩ := getOne_back hlt hgo
    have := sizI_pos x
    rw [getF_fuel f f' (k + 1) (bs.drop n) (fun b hb => hlt b (List.mem_of_mem_drop hb)) (by rw [List.length_drop]; omega) (by rw [List.length_drop]; omega)]

theorem gets_cut {bs : List Nat} (hlt : ∀ b ∈ bs, b < 256) (h : gets bs = .ok l) (c : Nat) (hc : c ≤ bs.length) :
    (∃ j, j ≤ l.length ∧ gets (bs.take c) = .ok (l.take j) ∧ puts (l.take j) = bs.take c) ∨ gets (bs.take c) = .error 20 := by
  obtain ⟨hp, hck, h256⟩ := gets_back hlt h
  have hge := puts_ge l
  have e : gets (bs.take c) = getF chkI bs.length 0 (bs.take c) := getF_fuel _ _ _ _ (fun b hb => hlt b (List.mem_of_mem_take hb)) (Nat.le_refl _) (by rw [List.length_take]; omega)
  rw [e]
  have := getF_cut chk_bnd l bs.length 0 c (by rw [hp] at hge; omega) (by omega) hck (by rw [hp]; exact hc)
  rw [hp] at this
  exact this

theorem slK_inb {q : Option Nat} {bs : List Nat} {n : Nat} {K : Value → Prop} (hs : Sep H L) (hm : inb q bs ∈ L) (hq : q = none → bs = []) (hn : n ≤ bs.length) (hK : K (.slice (addr q) n 0)) : slK H (addr q) 1 0 n K := by
  cases q with
  | none =>
    have : n = 0 := by rw [hq rfl] at hn; simpa using hn
    subst this
    exact hK
  | some i =>
    have hg : H.get i = some (.cells false 0 (bs.map Y)) := (hs.all _ hm) (bx i (.cells false 0 (bs.map Y))) (by simp)
    exact ⟨⟨_, _, _, hg, .inl rfl⟩, hK⟩

theorem slK_gl {q : Option Nat} {n : Nat} {K : Value → Prop} (hs : Sep H L) (hm : gl 5 q (flatI l) ∈ L) (hq : q = none → l = []) (hn : n ≤ l.length) (hK : K (.slice (addr q) n 0)) : slK H (addr q) 5 0 n K := by
  cases q with
  | none =>
    have : n = 0 := by rw [hq rfl] at hn; simpa using hn
    subst this
    exact hK
  | some i =>
    have hg : H.get i = some (.cells true 5 (flatI l)) := (hs.all _ hm) (bx i (.cells true 5 (flatI l))) (by simp)
    exact ⟨⟨_, _, _, hg, .inr rfl⟩, hK⟩

theorem rds_take {n : Nat} (h : Rds L a l) : Rds L a (l.take n) := by
  intro H' hs j x hx
  rw [List.getElem?_take] at hx
  split at hx
  · exact h H' hs j x hx
  · cases hx

theorem InsnAgain_ok {q : Option Nat} {bs : List Nat} {x1 : Int} (hq : q = none → bs = []) (hlt : ∀ b ∈ bs, b < 256) (h : Sep H (inb q bs :: gh :: ga :: L)) :
    CA en F.crossbarlaw02_InsnAgain [.slice (addr q) bs.length 0, I x1] H fun r _ => r = .bool true := by
  have known : ∀ {H L'}, Sep H (gh :: ga :: L') → CA en F.crossbarlaw02_known [] H fun v H' => ∃ b, v = .bool b ∧ Value.bool b = .bool true := fun h => known02_s h fun _ _ => ⟨_, rfl, rfl⟩
  apply vc_crossbarlaw02_InsnAgain
  refine cond_of (fun _ => known h.tail) fun hl => ?_
  have hl : bs.length ≤ 8192 := by simp only [decide_eq_false_iff_not] at hl; omega
  have htk : bs.take bs.length = bs := List.take_length
  have htl : ∀ H, ∀ A : Asr, Sep H (A :: gh :: ga :: L) → Sep H (gh :: ga :: L) := fun H A h => h.tail
  refine Get_inb bs.length (Nat.le_refl _) h hq hlt (by omega) (fun e he H5 h5 => ?_) fun l hgl H5 gq hg h5 => ⟨_, _, _, rfl, cond_no rfl ?_⟩
  · rw [htk] at he
    have hne : e ≠ 0 := getF_err _ _ _ _ he
    exact ⟨_, _, _, rfl, cond_yes (by simpa using hne) (cond_yes rfl (known h5.tail))⟩
  rw [htk] at hgl
  obtain ⟨hp, hc, h256⟩ := gets_back hlt hgl
  have hpe : putErr l = 0 := by unfold putErr; rw [if_neg (by omega)]; exact firstE_zero.2 hc
  -- all of them may be
  refine use_crossbarlaw02_InsnAgain_0 (fun k _ t7 H => ∃ j : Nat, j ≤ l.length ∧ k = l.length - j ∧ t7 = (j : Int) ∧ Sep H (gl 5 gq (flatI l) :: inb q bs :: gh :: ga :: L)) l.length ⟨0, by omega, rfl, rfl, h5⟩ ?_
  clear h5
  rintro k t4 t7 ys H6 ⟨j, hj, rfl, rfl, h6⟩
  refine cond_of (fun h1 => ?_) fun h1 => ?_
  · simp only [decide_eq_true_eq] at h1
    have hj' : j < l.length := by omega
    obtain ⟨x, hx⟩ : ∃ x, l[j]? = some x := ⟨_, List.getElem?_eq_getElem hj'⟩
    obtain ⟨i, hi, e1⟩ := rds_gl (L := gl 5 gq (flatI l) :: inb q bs :: gh :: ga :: L) (by simp) hg H6 h6 j x hx
    rw [hi]
    refine ⟨by unfold inB; omega, asRow_in ⟨_, _, _, _, _, e1, check_s (x := x) (Sep.up3 (Sep.up3 h6)) fun H9 h9 => ⟨_, rfl, cond_no (by rw [hc x (List.mem_of_getElem? hx)]; rfl) ⟨l.length - (j + 1), by omega, j + 1, by omega, rfl, ?_, ?_⟩⟩⟩⟩
    · rw [wrap_i64 (by omega)]; omega
    · exact Sep.up3 (Sep.up3 h9)
  · simp only [decide_eq_false_iff_not] at h1
    refine asBool_in ?_
    -- gh ga l b
    refine Put_s (l := l) (Sep.up3 (Sep.up3 h6)) (rds_gl (by simp) hg) (fun h => absurd hpe h) fun _ H16 qc hqc h16 => ⟨_, _, _, rfl, ?_⟩
    rw [hp] at h16 hqc ⊢
    -- c gh ga l b
    have hw : IntKind.i64.wrap (((bs.length : Nat) : Int) + 1) = ((bs.length + 1 : Nat) : Int) := by rw [wrap_i64 (by omega)]; omega
    rw [hw]
    refine Pick_s (by omega) (by omega) ⟨_, rfl, ?_⟩
    have hkb : 0 ≤ x1 % ((bs.length + 1 : Nat) : Int) ∧ x1 % ((bs.length + 1 : Nat) : Int) < ((bs.length + 1 : Nat) : Int) := ⟨Int.emod_nonneg _ (by omega), Int.emod_lt_of_pos _ (by omega)⟩
    obtain ⟨cut, hk⟩ := Int.eq_ofNat_of_zero_le hkb.1
    rw [hk]
    have hcut : cut ≤ bs.length := by omega
    refine ⟨by unfold inS; omega, ?_⟩
    rw [Int.toNat_natCast]
    refine slK_inb (q := q) (bs := bs) h16 (by simp) hq hcut ?_
    -- b gh ga c l
    have h21 : Sep H16 (inb q bs :: gh :: ga :: gl 1 qc (bs.map Y) :: gl 5 gq (flatI l) :: L) := Sep.up4 (Sep.up2 (Sep.up2 h16))
    have hcb : RdB (inb q bs :: gh :: ga :: gl 1 qc (bs.map Y) :: gl 5 gq (flatI l) :: L) (addr qc) bs := rdb_gl (by simp) hqc
    rcases gets_cut hlt hgl cut hcut with ⟨j', hj', hgm, hpm⟩ | hge
    · refine Get_inb cut hcut h21 hq hlt (by omega) (fun e he => by rw [hgm] at he; cases he) fun m hm H25 gm hgm' h25 => ⟨_, _, _, rfl, cond_no rfl ?_⟩
      rw [hgm] at hm
      cases hm
      have hml : (l.take j').length = j' := by rw [List.length_take]; omega
      -- m b gh ga c l
      refine SameBytes_s (cs := bs) (bs := bs) h25 (rdb_gl (by simp) hqc) (rdb_inb (by simp) hq) (by omega) fun H30 h30 => ⟨_, rfl, cond_no (by simp) (cond_yes rfl ?_)⟩
      have hmc : ∀ x ∈ l.take j', chkI x = 0 := fun x hx => hc x (List.mem_of_mem_take hx)
      have hme : putErr (l.take j') = 0 := by unfold putErr; rw [if_neg (by omega)]; exact firstE_zero.2 hmc
      refine Put_s (l := l.take j') (Sep.up3 (Sep.up3 h30)) (rds_gl (by simp) hgm') (fun h => absurd hme h) fun _ H33 qd hqd h33 => ⟨_, _, _, rfl, cond_yes rfl (cond_yes ?_ (cond_yes ?_ ⟨?_, ?_⟩))⟩
      · rw [hpm, List.length_take, Nat.min_eq_left hcut]; simp
      · rw [hml]; simp; exact hj'
      · rw [hml]; unfold inS; omega
      rw [hml, Int.toNat_natCast]
      refine slK_gl (q := gq) (l := l) h33 (by simp) hg hj' ?_
      have S := SameInsns_s (R := fun v38 H39 => ∃ b40, v38 = (.bool b40) ∧ (bif b40 then CA en F.crossbarlaw02_known [] H39 (fun v41 H42 => ∃ b43, v41 = (.bool b43) ∧ Value.bool b43 = .bool true) else Value.bool false = .bool true)) (l := l.take j') (m := l.take j') (a := addr gm) (b := addr gq) h33 (rds_gl (by simp) hgm') (rds_take (rds_gl (by simp) hg)) (by omega) fun H39 h39 => ⟨_, rfl, cond_yes (by simp) (known h39.tail)⟩
      rw [hml] at S
      exact S
    · refine Get_inb cut hcut h21 hq hlt (by omega) (fun e he H25 h25 => ?_) fun m hm => by rw [hge] at hm; cases hm
      rw [hge] at he
      cases he
      refine ⟨_, _, _, rfl, cond_no rfl ?_⟩
      refine SameBytes_s (cs := bs) (bs := bs) h25 (rdb_gl (by simp) hqc) (rdb_inb (by simp) hq) (by omega) fun H30 h30 => ⟨_, rfl, cond_no (by simp) (cond_no rfl (cond_yes rfl (cond_yes rfl (known h30.tail))))⟩

theorem bytes_of : ∀ (css : List (List Value)), (∀ c ∈ css, ∃ n : Int, c = [.int .u8 n] ∧ (Lit.int .u8 n).wf = true) → ∃ bs : List Nat, css = bs.map (fun b => [Y b]) ∧ ∀ b ∈ bs, b < 256
  | [], _ => ⟨[], rfl, by simp⟩
  | c :: css, h => by
    obtain ⟨n, rfl, hn⟩ := h c (by simp)
    obtain ⟨bs, rfl, hb⟩ := bytes_of css fun c hc => h c (List.mem_cons_of_mem _ hc)
    have hw : 0 ≤ n ∧ n < 256 := by
      simp only [Lit.wf, IntKind.min, IntKind.max, Bool.and_eq_true, decide_eq_true_eq] at hn
      have e1 : IntKind.u8.signed = false := rfl
      have e2 : IntKind.u8.bits = 8 := rfl
      simp [e1, e2] at hn
      omega
    obtain ⟨k, rfl⟩ := Int.eq_ofNat_of_zero_le hw.1
    refine ⟨k :: bs, rfl, fun b hb' => ?_⟩
    rcases List.mem_cons.1 hb' with rfl | hb'
    · omega
    · exact hb b hb'

theorem flat_one : ∀ bs : List Nat, (bs.map fun b => [Y b]).flatten = bs.map Y
  | [] => rfl
  | b :: bs => by simp [flat_one bs]

theorem InsnAgain_law (H : Heap) (us : List Value) (hG : ∀ p ∈ [(0, gHalf), (1, gAtom)], p.1 < H.next ∧ H.get p.1 = some (.cells false 0 p.2)) (h : shpVs en H 7 T.InsnAgain us) : CA en F.crossbarlaw02_InsnAgain us H fun v _ => v = .bool true := by
  obtain ⟨v, u, rfl, hA, v2, u2, rfl, ⟨n, hn, wn⟩, rfl⟩ := args_InsnAgain h
  obtain rfl := (List.cons.inj hn).1
  clear h hn
  have hs := sepG hG
  rcases hA with hA | ⟨i, cs, hA, hi, hg, hc⟩
  · obtain rfl := (List.cons.inj hA).1
    exact InsnAgain_ok (q := none) (bs := []) (fun _ => rfl) (by simp) (inb_none.2 hs)
  · obtain rfl := (List.cons.inj hA).1
    obtain ⟨bs, rfl, hb⟩ := bytes_of cs hc
    rw [flat_one] at hg
    have hne : i ≠ 0 ∧ i ≠ 1 := by
      have h0 := (hG (0, gHalf) (by simp)).2
      have h1 := (hG (1, gAtom) (by simp)).2
      constructor
      · rintro rfl
        simp only at h0
        rw [hg] at h0
        cases bs with
        | nil => cases h0
        | cons b bs => cases h0
      · rintro rfl
        simp only at h1
        rw [hg] at h1
        cases bs with
        | nil => cases h1
        | cons b bs => cases h1
    have hs2 : Sep H [bx i (.cells false 0 (bs.map Y)), gh, ga] := by
      refine ⟨fun A hA => ?_, ?_, fun j hj => ?_⟩
      · rcases List.mem_cons.1 hA with rfl | hA
        · exact hg
        · exact hs.all A hA
      · simp [feet, bx, hne.1, hne.2]
      · rw [feet_cons] at hj
        rcases List.mem_append.1 hj with h1 | h1
        · simp only [bx, List.mem_singleton] at h1; rw [h1]; exact hi
        · exact hs.lt j h1
    have := InsnAgain_ok (q := some i) (bs := bs) (x1 := n) (fun e => by cases e) hb (inb_some.2 hs2)
    rw [List.length_map]
    exact this
end Go.Proofs.YtmgkngdbphkmmaaDoor

