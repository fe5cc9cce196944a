/-
  Bytes of numbers in memory: word.Get, word.Put, insn.number.
-/
import Derived.Test.YtmgkngdbphkmmaaDoorInsnCheck
namespace Go.Proofs.YtmgkngdbphkmmaaDoor
open Go Go.AS Go.RowKit
set_option linter.unusedVariables false
variable {H H' : Heap} {R : Value → Heap → Prop} {L : List Asr} {i z o n at' size : Nat} {w : Bool} {c : List Value}

abbrev Y (b : Nat) : Value := .int .u8 (b : Int)

theorem wrap_i64' (n : Int) : IntKind.i64.wrap n = if 9223372036854775808 ≤ n % 18446744073709551616 then n % 18446744073709551616 - 18446744073709551616 else n % 18446744073709551616 := by
  show (let m := n % (2 ^ IntKind.i64.bits : Int); if (IntKind.i64.signed && decide (m ≥ (2 ^ (IntKind.i64.bits - 1) : Int))) = true then m - (2 ^ IntKind.i64.bits : Int) else m) = _
  have h1 : (2 ^ IntKind.i64.bits : Int) = 18446744073709551616 := rfl
  have h2 : (2 ^ (IntKind.i64.bits - 1) : Int) = 9223372036854775808 := rfl
  have h3 : IntKind.i64.signed = true := rfl
  rw [h1, h2, h3]
  simp
theorem wrap_u64' (n : Int) : IntKind.u64.wrap n = n % 18446744073709551616 := rfl
theorem wrap_u8' (n : Int) : IntKind.u8.wrap n = n % 256 := rfl

theorem num2 {N : Nat} (h : N < 65536) : Int.fdiv (IntKind.i64.wrap (IntKind.u64.wrap ((N : Int) * 2 ^ (min (IntKind.i64.wrap (64 - (IntKind.i64.wrap (8 * 2)))).toNat 64)))) (2 ^ (min (IntKind.i64.wrap (64 - (IntKind.i64.wrap (8 * 2)))).toNat 64)) = sgn 65536 N := by
  have e : (2 : Int) ^ (min (IntKind.i64.wrap (64 - (IntKind.i64.wrap (8 * 2)))).toNat 64) = 281474976710656 := by decide
  rw [e, Int.fdiv_eq_ediv_of_nonneg _ (by decide), wrap_u64', wrap_i64']
  unfold sgn
  split <;> split <;> omega
theorem num4 {N : Nat} (h : N < 4294967296) : Int.fdiv (IntKind.i64.wrap (IntKind.u64.wrap ((N : Int) * 2 ^ (min (IntKind.i64.wrap (64 - (IntKind.i64.wrap (8 * 4)))).toNat 64)))) (2 ^ (min (IntKind.i64.wrap (64 - (IntKind.i64.wrap (8 * 4)))).toNat 64)) = sgn 4294967296 N := by
  have e : (2 : Int) ^ (min (IntKind.i64.wrap (64 - (IntKind.i64.wrap (8 * 4)))).toNat 64) = 4294967296 := by decide
  rw [e, Int.fdiv_eq_ediv_of_nonneg _ (by decide), wrap_u64', wrap_i64']
  unfold sgn
  split <;> split <;> omega

theorem pow256 (j : Nat) : 2 ^ (8 * j) = 256 ^ j := by rw [Nat.pow_mul]
theorem shift_eq {j : Nat} (hj : j < 8) : min (IntKind.i64.wrap (8 * (j : Int))).toNat 64 = 8 * j := by
  rw [wrap_i64 (by omega)]; omega

theorem or_step {a b j : Nat} (ha : a < 256 ^ j) (hb : b < 256) (hj : j < 8) :
    IntKind.u64.wrap ((BitVec.ofInt 64 (a : Int) ||| (BitVec.ofInt 64 (IntKind.u64.wrap ((IntKind.u64.wrap (b : Int)) * 2 ^ (min (IntKind.i64.wrap (8 * (j : Int))).toNat 64))))).toNat : Int) = ((a + b * 256 ^ j : Nat) : Int) := by
  rw [shift_eq hj]
  have hp : 256 ^ j ≤ 256 ^ 7 := Nat.pow_le_pow_right (by decide) (by omega)
  have p7 : (256 : Nat) ^ 7 = 72057594037927936 := by decide
  have hm : b * 256 ^ j ≤ 255 * 256 ^ j := Nat.mul_le_mul_right _ (by omega)
  have e1 : IntKind.u64.wrap (b : Int) = (b : Int) := by rw [wrap_u64']; omega
  have e2 : (b : Int) * 2 ^ (8 * j) = ((b * 256 ^ j : Nat) : Int) := by
    rw [← pow256]; push_cast; rfl
  rw [e1, e2]
  generalize hq : b * 256 ^ j = q at *
  have e3 : IntKind.u64.wrap (q : Int) = (q : Int) := by rw [wrap_u64']; omega
  rw [e3, BitVec.ofInt_natCast, BitVec.ofInt_natCast, BitVec.toNat_or, BitVec.toNat_ofNat, BitVec.toNat_ofNat, Nat.mod_eq_of_lt (by omega), Nat.mod_eq_of_lt (by omega)]
  have e4 : a ||| q = a + q := by
    have := Nat.shiftLeft_add_eq_or_of_lt (i := 8 * j) (b := a) (by rw [pow256]; exact ha) b
    rw [Nat.shiftLeft_eq, pow256, hq] at this
    rw [Nat.or_comm, ← this, Nat.add_comm]
  rw [e4, wrap_u64']
  omega

theorem leNum_snoc : ∀ (l : List Nat) (b : Nat), leNum (l ++ [b]) = leNum l + b * 256 ^ l.length
  | [], b => by simp [leNum]
  | a :: l, b => by
    simp only [List.cons_append, leNum, leNum_snoc l b, List.length_cons, Nat.pow_succ]
    rw [Nat.mul_add, Nat.add_assoc]
    congr 2
    rw [Nat.mul_comm (256 ^ l.length) 256, ← Nat.mul_assoc, ← Nat.mul_assoc, Nat.mul_comm b 256]

/-- A piece of bytes that is there. -/
theorem piece_s (h : Sep H (bx i (.cells w z c) :: L)) (hz : z = 0 ∨ z = 1) (hs : size = 1 ∨ size = 2 ∨ size = 4 ∨ size = 8) (hf : at' + size ≤ n) (hn : n < 4611686018427387904)
    (hR : ∀ H', Sep H' (bx i (.cells w z c) :: L) → R (.slice (some ⟨i, o + at', none⟩) size 0) H') : CA en F.word_piece [.slice (some ⟨i, o, none⟩) n 0, I at', I size] H R := by
  apply vc_word_piece
  refine Sep.nw h fun i1 H2 h2 => contains_s (xs := [1, 2, 4, 8]) (by decide) (Sep.get0 h2) ⟨_, rfl, cond_no ?_ ?_⟩
  · have : decide (((size : Nat) : Int) ∈ [1, 2, 4, (8 : Int)]) = true := by
      rw [decide_eq_true_eq]
      simp only [List.mem_cons, List.not_mem_nil, or_false]
      omega
    rw [this]; rfl
  refine cond_no (by rw [decide_eq_false_iff_not]; omega) (cond_no ?_ ?_)
  · rw [decide_eq_false_iff_not, wrap_i64 (by omega)]; omega
  · have e : IntKind.i64.wrap ((at' : Int) + (size : Int)) = ((at' + size : Nat) : Int) := by rw [wrap_i64 (by omega)]; omega
    rw [e]
    refine ⟨by unfold inS; omega, by unfold inS; omega, ⟨_, _, _, Sep.get1 h2, by omega⟩, ?_⟩
    rw [Int.toNat_natCast, Int.toNat_natCast, Nat.mul_one, Nat.add_sub_cancel_left]
    exact hR H2 h2.tail

/-- The bytes that lie there. -/
def Bytes (c : List Value) (p : Nat) (bs : List Nat) : Prop := ∀ k b, bs[k]? = some b → c[p + k]? = some (Y b)

theorem get_s {bs : List Nat} (h : Sep H (bx i (.cells w z c) :: L)) (hz : z = 0 ∨ z = 1) (hs : bs.length = 1 ∨ bs.length = 2 ∨ bs.length = 4 ∨ bs.length = 8) (hf : at' + bs.length ≤ n) (hn : n < 4611686018427387904)
    (hb : Bytes c (o + at') bs) (hlt : ∀ b ∈ bs, b < 256)
    (hR : ∀ H', Sep H' (bx i (.cells w z c) :: L) → R (.tuple #[.int .u64 (leNum bs : Int), .bool true]) H') : CA en F.word_Get [.slice (some ⟨i, o, none⟩) n 0, I at', I bs.length] H R := by
  apply vc_word_Get
  refine piece_s h hz hs hf hn fun H2 h2 => ⟨_, _, rfl, ?_⟩
  refine use_word_Get_0 (fun k t6 t17 H => ∃ j : Nat, j ≤ bs.length ∧ k = bs.length - j ∧ t17 = (j : Int) ∧ t6 = (leNum (bs.take j) : Int) ∧ Sep H (bx i (.cells w z c) :: L)) bs.length ⟨0, by omega, rfl, rfl, rfl, h2⟩ ?_
  clear h2 h
  rintro k t6 t17 ys H3 ⟨j, hj, rfl, rfl, rfl, hs'⟩
  refine cond_of (fun h1 => ?_) fun h1 => ?_
  · simp only [decide_eq_true_eq] at h1
    have hj' : j < bs.length := by omega
    obtain ⟨b, hbj⟩ : ∃ b, bs[j]? = some b := ⟨_, List.getElem?_eq_getElem hj'⟩
    have hbl := hlt b (List.mem_of_getElem? hbj)
    have ht := leNum_lt (bs.take j) fun b hb => hlt b (List.mem_of_mem_take hb)
    rw [List.length_take, Nat.min_eq_left (by omega)] at ht
    refine ⟨by unfold inB; omega, asRow_in ⟨(b : Int), ?_, by unfold nn; rw [wrap_i64 (by omega)]; omega, ?_⟩⟩
    · refine Sep.ld0 hs' ?_
      rw [Int.toNat_natCast, Nat.mul_one]
      exact hb j b hbj
    · rw [or_step ht hbl (by omega)]
      refine ⟨bs.length - (j + 1), by omega, j + 1, by omega, rfl, ?_, ?_, hs'⟩
      · rw [wrap_i64 (by omega)]; omega
      · rw [List.take_add_one, hbj]
        simp only [Option.toList_some]
        rw [leNum_snoc, List.length_take, Nat.min_eq_left (by omega)]
  · simp only [decide_eq_false_iff_not] at h1
    obtain rfl : j = bs.length := by omega
    rw [List.take_length]
    exact asInt_in (hR H3 hs')

theorem number2_s {bs : List Nat} (h : Sep H (bx i (.cells w z c) :: L)) (hz : z = 0 ∨ z = 1) (hs : bs.length = 2) (hf : at' + 2 ≤ n) (hn : n < 4611686018427387904)
    (hb : Bytes c (o + at') bs) (hlt : ∀ b ∈ bs, b < 256)
    (hR : ∀ H', Sep H' (bx i (.cells w z c) :: L) → R (I (sgn 65536 (leNum bs))) H') : CA en F.insn_number [.slice (some ⟨i, o, none⟩) n 0, I at', I 2] H R := by
  apply vc_insn_number
  have e : ((bs.length : Nat) : Int) = 2 := by omega
  have := get_s (R := fun v1 H2 => ∃ n3, ∃ b4, v1 = (.tuple #[(.int .u64 n3), (.bool b4)]) ∧
    nn (IntKind.i64.wrap (64 - (IntKind.i64.wrap (8 * 2)))) ∧
    nn (IntKind.i64.wrap (64 - (IntKind.i64.wrap (8 * 2)))) ∧
    R (I (Int.fdiv (IntKind.i64.wrap (IntKind.u64.wrap (n3 * 2 ^ (min (IntKind.i64.wrap (64 - (IntKind.i64.wrap (8 * 2)))).toNat 64)))) (2 ^ (min (IntKind.i64.wrap (64 - (IntKind.i64.wrap (8 * 2)))).toNat 64)))) H2) (n := n) (at' := at') (o := o) h hz (by omega) (by omega) hn hb hlt fun H2 h2 => ⟨_, _, rfl, by unfold nn; decide, by unfold nn; decide, ?_⟩
  · rw [e] at this
    exact this
  · have hl := leNum_lt bs hlt
    rw [hs] at hl
    rw [num2 hl]
    exact hR H2 h2

theorem number4_s {bs : List Nat} (h : Sep H (bx i (.cells w z c) :: L)) (hz : z = 0 ∨ z = 1) (hs : bs.length = 4) (hf : at' + 4 ≤ n) (hn : n < 4611686018427387904)
    (hb : Bytes c (o + at') bs) (hlt : ∀ b ∈ bs, b < 256)
    (hR : ∀ H', Sep H' (bx i (.cells w z c) :: L) → R (I (sgn 4294967296 (leNum bs))) H') : CA en F.insn_number [.slice (some ⟨i, o, none⟩) n 0, I at', I 4] H R := by
  apply vc_insn_number
  have e : ((bs.length : Nat) : Int) = 4 := by omega
  have := get_s (R := fun v1 H2 => ∃ n3, ∃ b4, v1 = (.tuple #[(.int .u64 n3), (.bool b4)]) ∧
    nn (IntKind.i64.wrap (64 - (IntKind.i64.wrap (8 * 4)))) ∧
    nn (IntKind.i64.wrap (64 - (IntKind.i64.wrap (8 * 4)))) ∧
    R (I (Int.fdiv (IntKind.i64.wrap (IntKind.u64.wrap (n3 * 2 ^ (min (IntKind.i64.wrap (64 - (IntKind.i64.wrap (8 * 4)))).toNat 64)))) (2 ^ (min (IntKind.i64.wrap (64 - (IntKind.i64.wrap (8 * 4)))).toNat 64)))) H2) (n := n) (at' := at') (o := o) h hz (by omega) (by omega) hn hb hlt fun H2 h2 => ⟨_, _, rfl, by unfold nn; decide, by unfold nn; decide, ?_⟩
  · rw [e] at this
    exact this
  · have hl := leNum_lt bs hlt
    rw [hs] at hl
    rw [num4 hl]
    exact hR H2 h2

/-! ### Put -/
abbrev upd (c : List Value) (p : Nat) (l : List Value) : List Value := setAt c p l
theorem upd_snoc : ∀ (l : List Value) (c : List Value) (p : Nat) (v : Value), upd c p (l ++ [v]) = (upd c p l).set (p + l.length) v
  | [], c, p, v => rfl
  | a :: l, c, p, v => by
    show upd (c.set p a) (p + 1) (l ++ [v]) = _
    rw [upd_snoc l]
    show _ = (upd (c.set p a) (p + 1) l).set (p + (l.length + 1)) v
    rw [show p + 1 + l.length = p + (l.length + 1) by omega]
theorem upd_len : ∀ (l : List Value) (c : List Value) (p : Nat), (upd c p l).length = c.length
  | [], c, p => rfl
  | a :: l, c, p => by
    show (upd (c.set p a) (p + 1) l).length = _
    rw [upd_len l, List.length_set]

theorem le_get : ∀ (n V k : Nat), k < n → (le n V)[k]? = some (V / 256 ^ k % 256)
  | 0, V, k, h => by omega
  | n + 1, V, 0, _ => by simp [le]
  | n + 1, V, k + 1, h => by
    simp only [le, List.getElem?_cons_succ]
    rw [le_get n (V / 256) k (by omega), Nat.div_div_eq_div_mul, Nat.pow_succ, Nat.mul_comm 256]

theorem setAt_one (c : List Value) (p : Nat) (v : Value) (h : p < c.length) : setAt c p [v] = c.set p v := rfl

theorem put_s {V : Nat} (h : Sep H (bx i (.cells true z c) :: L)) (hz : z = 0 ∨ z = 1) (hs : size = 1 ∨ size = 2 ∨ size = 4 ∨ size = 8) (hf : at' + size ≤ n) (hn : n < 4611686018427387904) (hc : o + n ≤ c.length)
    (hR : ∀ H', Sep H' (bx i (.cells true z (upd c (o + at') ((le size V).map Y))) :: L) → R (.bool true) H') : CA en F.word_Put [.slice (some ⟨i, o, none⟩) n 0, I at', I size, .int .u64 (V : Int)] H R := by
  apply vc_word_Put
  refine piece_s h hz hs hf hn fun H2 h2 => ⟨_, _, rfl, ?_⟩
  refine use_word_Put_0 (fun k t17 H => ∃ j : Nat, j ≤ size ∧ k = size - j ∧ t17 = (j : Int) ∧ Sep H (bx i (.cells true z (upd c (o + at') (((le size V).take j).map Y))) :: L)) size ⟨0, by omega, rfl, rfl, h2⟩ ?_
  clear h2 h
  rintro k t17 ys H3 ⟨j, hj, rfl, rfl, hs'⟩
  refine cond_of (fun h1 => ?_) fun h1 => ?_
  · simp only [decide_eq_true_eq] at h1
    have hj' : j < size := by omega
    refine ⟨by unfold nn; rw [wrap_i64 (by omega)]; omega, by unfold inB; omega, asRow_in ?_⟩
    refine Sep.st0 hs' ?_ fun H4 h4 => ⟨size - (j + 1), by omega, j + 1, by omega, rfl, ?_, ?_⟩
    · rw [upd_len, Int.toNat_natCast, Nat.mul_one]; simp; omega
    · rw [wrap_i64 (by omega)]; omega
    · rw [Int.toNat_natCast, Nat.mul_one, setAt_one _ _ _ (by rw [upd_len]; omega), shift_eq (by omega)] at h4
      have eb : IntKind.u8.wrap (Int.fdiv (V : Int) (2 ^ (8 * j))) = ((V / 256 ^ j % 256 : Nat) : Int) := by
        have : ((2 : Int) ^ (8 * j)) = ((256 ^ j : Nat) : Int) := by rw [← pow256]; push_cast; rfl
        rw [this, Int.fdiv_eq_ediv_of_nonneg _ (Int.natCast_nonneg _), wrap_u8', ← Int.natCast_ediv]
        omega
      rw [eb] at h4
      rw [List.take_add_one, le_get size V j hj']
      simp only [Option.toList_some, List.map_append, List.map_cons, List.map_nil]
      rw [upd_snoc, List.length_map, List.length_take, le_len, Nat.min_eq_left (by omega)]
      exact h4
  · simp only [decide_eq_false_iff_not] at h1
    obtain rfl : j = size := by omega
    have e : (le j V).take j = le j V := by rw [List.take_of_length_le (by rw [le_len]; omega)]
    rw [e] at hs'
    exact hR H3 hs'
end Go.Proofs.YtmgkngdbphkmmaaDoor
