/-
  Instructions and their bytes, without the program: there and back.
-/
import Derived.Test.YtmgkngdbphkmmaaDoorAs45
namespace Go.Proofs.YtmgkngdbphkmmaaDoor
set_option linter.unusedVariables false

structure Ins where
  op : Int
  dst : Int
  src : Int
  off : Int
  imm : Int
 deriving DecidableEq

/-! ### Bytes of numbers -/
def le : Nat → Nat → List Nat
  | 0, _ => []
  | n + 1, v => v % 256 :: le n (v / 256)
def leNum : List Nat → Nat
  | [] => 0
  | b :: l => b + 256 * leNum l

theorem le_len : ∀ n v, (le n v).length = n
  | 0, _ => rfl
  | n + 1, v => by simp [le, le_len n]
theorem le_lt : ∀ n v, ∀ b ∈ le n v, b < 256
  | 0, _, b, h => by simp [le] at h
  | n + 1, v, b, h => by
    simp only [le, List.mem_cons] at h
    rcases h with rfl | h
    · exact Nat.mod_lt _ (by decide)
    · exact le_lt n _ b h
theorem leNum_le : ∀ n v, leNum (le n v) = v % 256 ^ n
  | 0, v => by simp [le, leNum, Nat.mod_one]
  | n + 1, v => by
    rw [le, leNum, leNum_le n, Nat.pow_succ, Nat.mul_comm (256 ^ n) 256, Nat.mod_mul]
theorem le_leNum : ∀ l : List Nat, (∀ b ∈ l, b < 256) → le l.length (leNum l) = l
  | [], _ => rfl
  | b :: l, h => by
    have hb := h b (by simp)
    have ih := le_leNum l fun c hc => h c (List.mem_cons_of_mem _ hc)
    simp only [List.length_cons, le, leNum]
    rw [show (b + 256 * leNum l) % 256 = b by omega, show (b + 256 * leNum l) / 256 = leNum l by omega, ih]
theorem leNum_lt : ∀ l : List Nat, (∀ b ∈ l, b < 256) → leNum l < 256 ^ l.length
  | [], _ => by simp [leNum]
  | b :: l, h => by
    have hb := h b (by simp)
    have ih := leNum_lt l fun c hc => h c (List.mem_cons_of_mem _ hc)
    simp only [List.length_cons, leNum, Nat.pow_succ]
    omega

/-- A number of so many values, with a sign. -/
def sgn (m : Nat) (n : Nat) : Int := if 2 * n < m then n else (n : Int) - m
def u64 (v : Int) : Nat := (v % 18446744073709551616).toNat

theorem sgn_u64 {m : Nat} {v : Int} (h : -(m : Int) ≤ 2 * v ∧ 2 * v < m) (hm : m = 65536 ∨ m = 4294967296 ∨ m = 18446744073709551616) : sgn m (u64 v % m) = v := by
  unfold sgn u64
  rcases hm with rfl | rfl | rfl <;> split <;> omega
theorem u64_sgn {m n : Nat} (h : n < m) (hm : m = 65536 ∨ m = 4294967296 ∨ m = 18446744073709551616) : u64 (sgn m n) % m = n ∧ -(m : Int) ≤ 2 * sgn m n ∧ 2 * sgn m n < m := by
  unfold sgn u64
  rcases hm with rfl | rfl | rfl <;> split <;> omega

/-! ### One instruction -/
def putI (x : Ins) : List Nat :=
  [(x.op % 256).toNat, ((x.src * 16 + x.dst) % 256).toNat] ++ (le 2 (u64 x.off) ++ (le 4 (u64 x.imm) ++ (if x.op = 24 then [0, 0, 0, 0] ++ le 4 (u64 x.imm / 4294967296) else [])))
def sizI (x : Ins) : Nat := if x.op = 24 then 16 else 8

theorem putI_len (x : Ins) : (putI x).length = sizI x := by
  unfold putI sizI
  split <;> simp [le_len]

theorem putI_lt (x : Ins) : ∀ b ∈ putI x, b < 256 := by
  intro b hb
  unfold putI at hb
  simp only [List.mem_append, List.mem_cons, List.not_mem_nil, or_false] at hb
  rcases hb with (rfl | rfl) | hb | hb | hb
  · omega
  · omega
  · exact le_lt _ _ b hb
  · exact le_lt _ _ b hb
  · split at hb
    · simp only [List.mem_append, List.mem_cons, List.not_mem_nil, or_false] at hb
      rcases hb with (rfl | rfl | rfl | rfl) | hb
      · omega
      · omega
      · omega
      · omega
      · exact le_lt _ _ b hb
    · simp at hb

variable {chk : Ins → Int}

/-- The instruction that bytes begin with. -/
def getOne (chk : Ins → Int) (b : List Nat) : Ins × Nat × Int :=
  if b.length < 8 ∨ b.getD 0 0 = 24 ∧ b.length < 16 then (⟨0, 0, 0, 0, 0⟩, 0, 20)
  else if b.getD 0 0 = 24 then
    (if leNum ((b.drop 8).take 4) = 0 then
      (⟨24, (b.getD 1 0 % 16 : Nat), (b.getD 1 0 / 16 : Nat), sgn 65536 (leNum ((b.drop 2).take 2)), sgn 18446744073709551616 (leNum ((b.drop 4).take 4) + 4294967296 * leNum ((b.drop 12).take 4))⟩, 16,
        chk ⟨24, (b.getD 1 0 % 16 : Nat), (b.getD 1 0 / 16 : Nat), sgn 65536 (leNum ((b.drop 2).take 2)), sgn 18446744073709551616 (leNum ((b.drop 4).take 4) + 4294967296 * leNum ((b.drop 12).take 4))⟩)
    else (⟨0, 0, 0, 0, 0⟩, 0, 9))
  else (⟨(b.getD 0 0 : Nat), (b.getD 1 0 % 16 : Nat), (b.getD 1 0 / 16 : Nat), sgn 65536 (leNum ((b.drop 2).take 2)), sgn 4294967296 (leNum ((b.drop 4).take 4))⟩, 8,
    chk ⟨(b.getD 0 0 : Nat), (b.getD 1 0 % 16 : Nat), (b.getD 1 0 / 16 : Nat), sgn 65536 (leNum ((b.drop 2).take 2)), sgn 4294967296 (leNum ((b.drop 4).take 4))⟩)

structure Bnd (x : Ins) : Prop where
  op : 0 ≤ x.op ∧ x.op ≤ 255
  dst : 0 ≤ x.dst ∧ x.dst ≤ 15
  src : 0 ≤ x.src ∧ x.src ≤ 15
  off : -32768 ≤ x.off ∧ x.off ≤ 32767
  imm : x.op ≠ 24 → -2147483648 ≤ x.imm ∧ x.imm ≤ 2147483647
  wide : -9223372036854775808 ≤ x.imm ∧ x.imm ≤ 9223372036854775807

theorem app_take {α : Type} {a b : List α} {n : Nat} (h : a.length = n) : (a ++ b).take n = a := by rw [← h]; simp
theorem app_drop {α : Type} {a b : List α} {n : Nat} (h : a.length = n) : (a ++ b).drop n = b := by rw [← h]; simp

theorem getOne_put {x : Ins} (h : Bnd x) (rest : List Nat) : getOne chk (putI x ++ rest) = (x, sizI x, chk x) := by
  obtain ⟨op, dst, src, off, imm⟩ := x
  obtain ⟨ho, hd, hs, hf, hi, hw⟩ := h
  simp only at ho hd hs hf hi hw
  have e0 : ((op % 256).toNat : Int) = op := by omega
  have e0n : (op % 256).toNat = op.toNat := by omega
  have hb1 : (src * 16 + dst) % 256 = src * 16 + dst := by omega
  obtain ⟨d, rfl⟩ := Int.eq_ofNat_of_zero_le hd.1
  obtain ⟨s, rfl⟩ := Int.eq_ofNat_of_zero_le hs.1
  have hb2 : ((s : Int) * 16 + (d : Int)).toNat = s * 16 + d := by omega
  have f1 : sgn 65536 (leNum (le 2 (u64 off))) = off := by rw [leNum_le]; exact sgn_u64 (by omega) (.inl rfl)
  by_cases hop : op = 24
  · subst hop
    have hp : putI ⟨24, d, s, off, imm⟩ = [24, s * 16 + d] ++ (le 2 (u64 off) ++ (le 4 (u64 imm) ++ ([0, 0, 0, 0] ++ le 4 (u64 imm / 4294967296)))) := by
      unfold putI
      simp only [if_true, hb1, hb2]
      rfl
    have hl := putI_len ⟨24, d, s, off, imm⟩
    rw [hp] at hl ⊢
    have hsz : sizI ⟨24, d, s, off, imm⟩ = 16 := rfl
    rw [hsz] at hl ⊢
    have q0 : ([24, s * 16 + d] ++ (le 2 (u64 off) ++ (le 4 (u64 imm) ++ ([0, 0, 0, 0] ++ le 4 (u64 imm / 4294967296))))) ++ rest = [24, s * 16 + d] ++ (le 2 (u64 off) ++ (le 4 (u64 imm) ++ ([0, 0, 0, 0] ++ (le 4 (u64 imm / 4294967296) ++ rest)))) := by simp [List.append_assoc]
    have d2 : (([24, s * 16 + d] ++ (le 2 (u64 off) ++ (le 4 (u64 imm) ++ ([0, 0, 0, 0] ++ (le 4 (u64 imm / 4294967296) ++ rest))))).drop 2) = le 2 (u64 off) ++ (le 4 (u64 imm) ++ ([0, 0, 0, 0] ++ (le 4 (u64 imm / 4294967296) ++ rest))) := rfl
    have d4 : (([24, s * 16 + d] ++ (le 2 (u64 off) ++ (le 4 (u64 imm) ++ ([0, 0, 0, 0] ++ (le 4 (u64 imm / 4294967296) ++ rest))))).drop 4) = le 4 (u64 imm) ++ ([0, 0, 0, 0] ++ (le 4 (u64 imm / 4294967296) ++ rest)) := by
      rw [show (4 : Nat) = 2 + 2 from rfl, ← List.drop_drop, d2, app_drop (le_len _ _)]
    have d8 : (([24, s * 16 + d] ++ (le 2 (u64 off) ++ (le 4 (u64 imm) ++ ([0, 0, 0, 0] ++ (le 4 (u64 imm / 4294967296) ++ rest))))).drop 8) = [0, 0, 0, 0] ++ (le 4 (u64 imm / 4294967296) ++ rest) := by
      rw [show (8 : Nat) = 4 + 4 from rfl, ← List.drop_drop, d4, app_drop (le_len _ _)]
    have d12 : (([24, s * 16 + d] ++ (le 2 (u64 off) ++ (le 4 (u64 imm) ++ ([0, 0, 0, 0] ++ (le 4 (u64 imm / 4294967296) ++ rest))))).drop 12) = le 4 (u64 imm / 4294967296) ++ rest := by
      rw [show (12 : Nat) = 8 + 4 from rfl, ← List.drop_drop, d8]; rfl
    have hlen : ¬ (([24, s * 16 + d] ++ (le 2 (u64 off) ++ (le 4 (u64 imm) ++ ([0, 0, 0, 0] ++ (le 4 (u64 imm / 4294967296) ++ rest))))).length < 8 ∨ ([24, s * 16 + d] ++ (le 2 (u64 off) ++ (le 4 (u64 imm) ++ ([0, 0, 0, 0] ++ (le 4 (u64 imm / 4294967296) ++ rest))))).getD 0 0 = 24 ∧ ([24, s * 16 + d] ++ (le 2 (u64 off) ++ (le 4 (u64 imm) ++ ([0, 0, 0, 0] ++ (le 4 (u64 imm / 4294967296) ++ rest))))).length < 16) := by
      rw [← q0, List.length_append, hl]; omega
    have g1 : ([24, s * 16 + d] ++ (le 2 (u64 off) ++ (le 4 (u64 imm) ++ ([0, 0, 0, 0] ++ (le 4 (u64 imm / 4294967296) ++ rest))))).getD 1 0 = s * 16 + d := rfl
    rw [q0]
    unfold getOne
    have g0 : ([24, s * 16 + d] ++ (le 2 (u64 off) ++ (le 4 (u64 imm) ++ ([0, 0, 0, 0] ++ (le 4 (u64 imm / 4294967296) ++ rest))))).getD 0 0 = 24 := rfl
    rw [if_neg hlen, g0, if_pos rfl, d2, d4, d8, d12, g1, app_take (le_len _ _), app_take (le_len _ _), app_take (le_len _ _)]
    have z : leNum (([0, 0, 0, 0] ++ (le 4 (u64 imm / 4294967296) ++ rest)).take 4) = 0 := rfl
    rw [if_pos z, f1, leNum_le, leNum_le]
    have m1 : (s * 16 + d) % 16 = d := by omega
    have m2 : (s * 16 + d) / 16 = s := by omega
    have w : sgn 18446744073709551616 (u64 imm % 256 ^ 4 + 4294967296 * (u64 imm / 4294967296 % 256 ^ 4)) = imm := by
      have hu : u64 imm < 18446744073709551616 := by unfold u64; omega
      have e : u64 imm % 256 ^ 4 + 4294967296 * (u64 imm / 4294967296 % 256 ^ 4) = u64 imm % 18446744073709551616 := by
        show u64 imm % 4294967296 + 4294967296 * (u64 imm / 4294967296 % 4294967296) = _
        omega
      rw [e]
      exact sgn_u64 (by omega) (.inr (.inr rfl))
    rw [m1, m2, w]
  · have hp : putI ⟨op, d, s, off, imm⟩ = [op.toNat, s * 16 + d] ++ (le 2 (u64 off) ++ le 4 (u64 imm)) := by
      unfold putI
      simp only [if_neg hop, hb1, hb2, e0n, List.append_nil]
    have hl := putI_len ⟨op, d, s, off, imm⟩
    rw [hp] at hl ⊢
    have hsz : sizI ⟨op, d, s, off, imm⟩ = 8 := if_neg hop
    rw [hsz] at hl ⊢
    have q0 : ([op.toNat, s * 16 + d] ++ (le 2 (u64 off) ++ le 4 (u64 imm))) ++ rest = [op.toNat, s * 16 + d] ++ (le 2 (u64 off) ++ (le 4 (u64 imm) ++ rest)) := by simp [List.append_assoc]
    have g0 : ([op.toNat, s * 16 + d] ++ (le 2 (u64 off) ++ (le 4 (u64 imm) ++ rest))).getD 0 0 = op.toNat := rfl
    have g1 : ([op.toNat, s * 16 + d] ++ (le 2 (u64 off) ++ (le 4 (u64 imm) ++ rest))).getD 1 0 = s * 16 + d := rfl
    have d2 : ([op.toNat, s * 16 + d] ++ (le 2 (u64 off) ++ (le 4 (u64 imm) ++ rest))).drop 2 = le 2 (u64 off) ++ (le 4 (u64 imm) ++ rest) := rfl
    have d4 : ([op.toNat, s * 16 + d] ++ (le 2 (u64 off) ++ (le 4 (u64 imm) ++ rest))).drop 4 = le 4 (u64 imm) ++ rest := by
      rw [show (4 : Nat) = 2 + 2 from rfl, ← List.drop_drop, d2, app_drop (le_len _ _)]
    have hlen : ¬ (([op.toNat, s * 16 + d] ++ (le 2 (u64 off) ++ (le 4 (u64 imm) ++ rest))).length < 8 ∨ ([op.toNat, s * 16 + d] ++ (le 2 (u64 off) ++ (le 4 (u64 imm) ++ rest))).getD 0 0 = 24 ∧ ([op.toNat, s * 16 + d] ++ (le 2 (u64 off) ++ (le 4 (u64 imm) ++ rest))).length < 16) := by
      rw [g0, ← q0, List.length_append, hl]; omega
    rw [q0]
    unfold getOne
    rw [if_neg hlen, g0, if_neg (by omega), d2, d4, g1, app_take (le_len _ _), app_take (le_len _ _), f1, leNum_le]
    have m1 : (s * 16 + d) % 16 = d := by omega
    have m2 : (s * 16 + d) / 16 = s := by omega
    have w : sgn 4294967296 (u64 imm % 256 ^ 4) = imm := sgn_u64 (by have := hi hop; omega) (.inr (.inl rfl))
    have o : ((op.toNat : Nat) : Int) = op := by omega
    rw [m1, m2, w, o]

theorem le_mod : ∀ n v, le n v = le n (v % 256 ^ n)
  | 0, _ => rfl
  | n + 1, v => by
    have e1 : v % 256 ^ (n + 1) % 256 = v % 256 := by
      rw [Nat.pow_succ, Nat.mul_comm, Nat.mod_mul_right_mod]
    have e2 : v % 256 ^ (n + 1) / 256 = v / 256 % 256 ^ n := by
      rw [Nat.pow_succ, Nat.mul_comm, Nat.mod_mul_right_div_self]
    rw [le, le, e1, e2, ← le_mod n]

theorem le_back {l : List Nat} {m n : Nat} (hl : l.length = n) (hb : ∀ b ∈ l, b < 256) {v : Nat} (hv : v % 256 ^ n = leNum l) : le n v = l := by
  rw [le_mod, hv, ← hl]; exact le_leNum l hb

theorem mem_sub {b : List Nat} (h : ∀ c ∈ b, c < 256) (i n : Nat) : ∀ c ∈ (b.drop i).take n, c < 256 :=
  fun c hc => h c (List.mem_of_mem_drop (List.mem_of_mem_take hc))

theorem sub_len {b : List Nat} {i n : Nat} (h : i + n ≤ b.length) : ((b.drop i).take n).length = n := by
  rw [List.length_take, List.length_drop]; omega

theorem two_head {b : List Nat} (h : 2 ≤ b.length) : b.take 2 = [b.getD 0 0, b.getD 1 0] := by
  match b, h with
  | a :: c :: l, _ => rfl

/-- What was read has these bytes. -/
theorem getOne_back {b : List Nat} (hlt : ∀ c ∈ b, c < 256) {x : Ins} {n : Nat} (h : getOne chk b = (x, n, 0)) : n = sizI x ∧ n ≤ b.length ∧ b.take n = putI x ∧ chk x = 0 := by
  unfold getOne at h
  by_cases h1 : b.length < 8 ∨ b.getD 0 0 = 24 ∧ b.length < 16
  · rw [if_pos h1] at h
    simp at h
  rw [if_neg h1] at h
  have hl8 : 8 ≤ b.length := by omega
  have hb0 : b.getD 0 0 < 256 := by
    rw [List.getD_eq_getElem?_getD, List.getElem?_eq_getElem (by omega)]
    exact hlt _ (List.getElem_mem _)
  have hb1 : b.getD 1 0 < 256 := by
    rw [List.getD_eq_getElem?_getD, List.getElem?_eq_getElem (by omega)]
    exact hlt _ (List.getElem_mem _)
  have n2 := leNum_lt _ (mem_sub hlt 2 2)
  have n4 := leNum_lt _ (mem_sub hlt 4 4)
  rw [sub_len (by omega)] at n2 n4
  have L2 : le 2 (u64 (sgn 65536 (leNum ((b.drop 2).take 2)))) = (b.drop 2).take 2 :=
    le_back (m := 0) (sub_len (by omega)) (mem_sub hlt 2 2) (u64_sgn n2 (.inl rfl)).1
  by_cases h2 : b.getD 0 0 = 24
  · rw [if_pos h2] at h
    have hl16 : 16 ≤ b.length := by omega
    by_cases h3 : leNum ((b.drop 8).take 4) = 0
    · rw [if_pos h3] at h
      simp only [Prod.mk.injEq] at h
      obtain ⟨rfl, rfl, hc⟩ := h
      refine ⟨rfl, hl16, ?_, hc⟩
      have n12 := leNum_lt _ (mem_sub hlt 12 4)
      rw [sub_len (by omega)] at n12
      have hN : leNum ((b.drop 4).take 4) + 4294967296 * leNum ((b.drop 12).take 4) < 18446744073709551616 := by
        have : (256 : Nat) ^ 4 = 4294967296 := by decide
        omega
      have u := u64_sgn hN (.inr (.inr rfl))
      have ub : u64 (sgn 18446744073709551616 (leNum ((b.drop 4).take 4) + 4294967296 * leNum ((b.drop 12).take 4))) = leNum ((b.drop 4).take 4) + 4294967296 * leNum ((b.drop 12).take 4) := by
        have : ∀ v, u64 v < 18446744073709551616 := fun v => by unfold u64; omega
        have := this (sgn 18446744073709551616 (leNum ((b.drop 4).take 4) + 4294967296 * leNum ((b.drop 12).take 4)))
        omega
      have p4 : (256 : Nat) ^ 4 = 4294967296 := by decide
      have z8 : (b.drop 8).take 4 = [0, 0, 0, 0] := by
        have := le_leNum _ (mem_sub hlt 8 4)
        rw [sub_len (by omega), h3] at this
        exact this.symm
      have t16 : b.take 16 = b.take 2 ++ ((b.drop 2).take 2 ++ ((b.drop 4).take 4 ++ ((b.drop 8).take 4 ++ (b.drop 12).take 4))) := by
        rw [show (16 : Nat) = 2 + (2 + (4 + (4 + 4))) from rfl, List.take_add, List.take_add, List.take_add, List.take_add]
        simp only [List.drop_drop]
      rw [t16, two_head (by omega), h2, z8]
      unfold putI
      simp only [if_true]
      rw [L2, ub]
      have q1 : le 4 (leNum ((b.drop 4).take 4) + 4294967296 * leNum ((b.drop 12).take 4)) = (b.drop 4).take 4 := le_back (m := 0) (sub_len (by omega)) (mem_sub hlt 4 4) (by omega)
      have q2 : le 4 ((leNum ((b.drop 4).take 4) + 4294967296 * leNum ((b.drop 12).take 4)) / 4294967296) = (b.drop 12).take 4 := le_back (m := 0) (sub_len (by omega)) (mem_sub hlt 12 4) (by omega)
      rw [q1, q2]
      have e1 : (((b.getD 1 0 / 16 : Nat) : Int) * 16 + ((b.getD 1 0 % 16 : Nat) : Int)) % 256 = (b.getD 1 0 : Int) := by omega
      rw [e1]
      rfl
    · rw [if_neg h3] at h
      simp at h
  · rw [if_neg h2] at h
    simp only [Prod.mk.injEq] at h
    obtain ⟨rfl, rfl, hc⟩ := h
    have hop : ¬ ((b.getD 0 0 : Nat) : Int) = 24 := by omega
    refine ⟨(if_neg hop).symm, hl8, ?_, hc⟩
    have t8 : b.take 8 = b.take 2 ++ ((b.drop 2).take 2 ++ (b.drop 4).take 4) := by
      rw [show (8 : Nat) = 2 + (2 + 4) from rfl, List.take_add, List.take_add]
      simp only [List.drop_drop]
    rw [t8, two_head (by omega)]
    unfold putI
    simp only [if_neg hop, List.append_nil]
    have L4 : le 4 (u64 (sgn 4294967296 (leNum ((b.drop 4).take 4)))) = (b.drop 4).take 4 :=
      le_back (m := 0) (sub_len (by omega)) (mem_sub hlt 4 4) (u64_sgn n4 (.inr (.inl rfl))).1
    rw [L2, L4]
    have e1 : (((b.getD 1 0 / 16 : Nat) : Int) * 16 + ((b.getD 1 0 % 16 : Nat) : Int)) % 256 = (b.getD 1 0 : Int) := by omega
    have e0 : ((b.getD 0 0 : Nat) : Int) % 256 = (b.getD 0 0 : Int) := by omega
    rw [e1, e0]
    rfl

theorem sizI_pos (x : Ins) : 8 ≤ sizI x ∧ sizI x ≤ 16 := by unfold sizI; split <;> omega

/-- Cut within an instruction they are short. -/
theorem getOne_short {x : Ins} (h : Bnd x) (rest : List Nat) {c : Nat} (h1 : c < sizI x) : getOne chk ((putI x ++ rest).take c) = (⟨0, 0, 0, 0, 0⟩, 0, 20) := by
  have hl := putI_len x
  have hlen : ((putI x ++ rest).take c).length = c := by rw [List.length_take, List.length_append, hl]; omega
  unfold getOne
  rw [if_pos]
  rw [hlen]
  by_cases h8 : c < 8
  · exact .inl h8
  · right
    have hop : x.op = 24 := by
      unfold sizI at h1
      split at h1
      · assumption
      · omega
    have hc : c < 16 := by unfold sizI at h1; rw [if_pos hop] at h1; exact h1
    refine ⟨?_, hc⟩
    rw [List.getD_eq_getElem?_getD, List.getElem?_take]
    rw [if_pos (by omega)]
    unfold putI
    rw [hop]
    rfl

/-! ### Lists of them -/
def puts (l : List Ins) : List Nat := l.flatMap putI
theorem puts_cons (x : Ins) (l : List Ins) : puts (x :: l) = putI x ++ puts l := rfl
theorem puts_append (l m : List Ins) : puts (l ++ m) = puts l ++ puts m := by simp [puts]
theorem puts_lt (l : List Ins) : ∀ b ∈ puts l, b < 256 := by
  intro b hb
  obtain ⟨x, _, hx⟩ := List.mem_flatMap.1 hb
  exact putI_lt x b hx

/-- The instructions that bytes are; so many stand ahead. -/
def getF (chk : Ins → Int) : Nat → Nat → List Nat → Except Int (List Ins)
  | 0, _, _ => .ok []
  | f + 1, k, b =>
    if b = [] then .ok [] else if k = 256 then .error 19
    else if (getOne chk b).2.2 ≠ 0 then .error (getOne chk b).2.2
    else match getF chk f (k + 1) (b.drop (getOne chk b).2.1) with
      | .ok l => .ok ((getOne chk b).1 :: l)
      | .error e => .error e

theorem putI_ne (x : Ins) : putI x ≠ [] := by
  intro h
  have := putI_len x
  rw [h] at this
  have := sizI_pos x
  simp at *; omega

theorem getF_puts (hb : ∀ x, chk x = 0 → Bnd x) : ∀ (l : List Ins) (f k : Nat), l.length ≤ f → l.length + k ≤ 256 → (∀ x ∈ l, chk x = 0) → getF chk f k (puts l) = .ok l
  | [], 0, k, _, _, _ => rfl
  | [], f + 1, k, _, _, _ => by simp [getF, puts]
  | x :: l, 0, k, h, _, _ => by simp at h
  | x :: l, f + 1, k, h, hk, hc => by
    have hx := hc x (by simp)
    have ih := getF_puts hb l f (k + 1) (by simpa using h) (by simp at hk; omega) fun y hy => hc y (List.mem_cons_of_mem _ hy)
    have e := getOne_put (chk := chk) (hb x hx) (puts l)
    rw [getF, puts_cons]
    rw [if_neg (by intro h; exact putI_ne x (List.append_eq_nil_iff.1 h).1), if_neg (by simp at hk; omega), e]
    simp only
    rw [if_neg (by rw [hx]; simp), app_drop (putI_len x), ih]

theorem getF_back (hb : ∀ x, chk x = 0 → Bnd x) : ∀ (f k : Nat) (b : List Nat) (l : List Ins), b.length ≤ f → k ≤ 256 → (∀ c ∈ b, c < 256) → getF chk f k b = .ok l → puts l = b ∧ (∀ x ∈ l, chk x = 0) ∧ l.length + k ≤ 256
  | 0, k, b, l, h, hk, _, e => by
    have : b = [] := List.eq_nil_of_length_eq_zero (by omega)
    subst this
    simp only [getF, Except.ok.injEq] at e
    subst e
    exact ⟨rfl, by simp, by simpa using hk⟩
  | f + 1, k, b, l, h, hk, hlt, e => by
    rw [getF] at e
    by_cases h0 : b = []
    · rw [if_pos h0] at e
      cases e
      exact ⟨by rw [h0]; rfl, by simp, by simpa using hk⟩
    rw [if_neg h0] at e
    by_cases h1 : k = 256
    · rw [if_pos h1] at e; cases e
    rw [if_neg h1] at e
    by_cases h2 : (getOne chk b).2.2 ≠ 0
    · rw [if_pos h2] at e; cases e
    rw [if_neg h2] at e
    generalize hg : getOne chk b = g at *
    obtain ⟨x, n, r⟩ := g
    simp only at e h2
    have hr : r = 0 := by omega
    subst hr
    obtain ⟨e1, e2, e3, e4⟩ := getOne_back hlt hg
    split at e
    · rename_i l' hl'
      cases e
      have hp := sizI_pos x
      have ih := getF_back hb f (k + 1) (b.drop n) l' (by rw [List.length_drop]; omega) (by omega) (fun c hc => hlt c (List.mem_of_mem_drop hc)) hl'
      refine ⟨?_, ?_, ?_⟩
      · rw [puts_cons, ih.1, ← e3, List.take_append_drop]
      · intro y hy
        rcases List.mem_cons.1 hy with rfl | hy
        · exact e4
        · exact ih.2.1 y hy
      · have := ih.2.2; simp; omega
    · cases e

/-- Cut anywhere: some of the first ones, or short. -/
theorem getF_cut (hb : ∀ x, chk x = 0 → Bnd x) : ∀ (l : List Ins) (f k c : Nat), l.length ≤ f → l.length + k ≤ 256 → (∀ x ∈ l, chk x = 0) → c ≤ (puts l).length →
    (∃ j, j ≤ l.length ∧ getF chk f k ((puts l).take c) = .ok (l.take j) ∧ (puts (l.take j)) = (puts l).take c) ∨ getF chk f k ((puts l).take c) = .error 20
  | [], f, k, c, _, _, _, _ => by
    left
    refine ⟨0, Nat.le_refl _, ?_, by simp [puts]⟩
    cases f with
    | zero => simp [getF]
    | succ f => simp [getF, puts]
  | x :: l, 0, k, c, h, _, _, _ => by simp at h
  | x :: l, f + 1, k, c, h, hk, hc, hcl => by
    have hx := hc x (by simp)
    rw [puts_cons] at hcl ⊢
    have hl := putI_len x
    have hsz := sizI_pos x
    rw [List.length_append, hl] at hcl
    by_cases h0 : c = 0
    · subst h0
      left
      refine ⟨0, by omega, ?_, by simp [puts]⟩
      simp [getF]
    by_cases h1 : c < sizI x
    · right
      rw [getF, getOne_short (hb x hx) _ h1]
      have : ¬ (putI x ++ puts l).take c = [] := by
        intro hn
        have := congrArg List.length hn
        rw [List.length_take, List.length_append, hl] at this
        simp at this; omega
      rw [if_neg this, if_neg (by simp at hk; omega)]
      simp
    · have e : (putI x ++ puts l).take c = putI x ++ (puts l).take (c - sizI x) := by
        rw [List.take_append, hl, List.take_of_length_le (by omega)]
      rw [e]
      have g := getOne_put (chk := chk) (hb x hx) ((puts l).take (c - sizI x))
      have hne : ¬ putI x ++ (puts l).take (c - sizI x) = [] := by intro h; exact putI_ne x (List.append_eq_nil_iff.1 h).1
      have ih := getF_cut hb l f (k + 1) (c - sizI x) (by simpa using h) (by simp at hk; omega) (fun y hy => hc y (List.mem_cons_of_mem _ hy)) (by omega)
      rw [getF, if_neg hne, if_neg (by simp at hk; omega), g]
      simp only
      rw [if_neg (by rw [hx]; simp), app_drop hl]
      rcases ih with ⟨j, hj, i1, i2⟩ | ih
      · left
        refine ⟨j + 1, by simpa using hj, ?_, ?_⟩
        · rw [i1]; simp
        · simp only [List.take_succ_cons]; rw [puts_cons, i2]
      · right
        rw [ih]
end Go.Proofs.YtmgkngdbphkmmaaDoor
