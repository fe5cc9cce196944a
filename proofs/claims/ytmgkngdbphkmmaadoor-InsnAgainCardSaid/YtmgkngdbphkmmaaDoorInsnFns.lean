/-
  Instructions: what the table's and the check's functions do.
-/
import Derived.Test.YtmgkngdbphkmmaaDoorInsnTab
import Derived.Test.YtmgkngdbphkmmaaDoorAs46
import Derived.Test.YtmgkngdbphkmmaaDoorAs43
import Derived.Test.YtmgkngdbphkmmaaDoorVcI
namespace Go.Proofs.YtmgkngdbphkmmaaDoor
open Go Go.AS Go.RowKit
set_option linter.unusedVariables false
variable {H H' : Heap} {R : Value → Heap → Prop} {L : List Asr} {b : Nat} {l : RT}

abbrev I (n : Int) : Value := .int .i64 n

/-- The program's variables. -/
abbrev gHalf : List Value := [I (-2147483648), I 2147483647]
abbrev gAtom : List Value := [I 0, I 64, I 80, I 160, I 1, I 65, I 81, I 161, I 225, I 241]
abbrev gh : Asr := bx 0 (.cells false 0 gHalf)
abbrev ga : Asr := bx 1 (.cells false 0 gAtom)

def onlyV (n : Nat) : Value := if n = 0 then .nilFunc else .func (.func (if n = 1 then F.insn_alus_1 else if n = 2 then F.insn_table_1 else F.insn_table_2)) #[] #[]
theorem onlyV_cases (n : Nat) : onlyV n = .nilFunc ∨ ∃ f, onlyV n = .func (.func f) #[] #[] := by
  unfold onlyV
  split
  · exact .inl rfl
  · exact .inr ⟨_, rfl⟩
def rcells (r : Rw) : List Value := [.bool r.d, .bool r.s, .bool r.o, .bool r.i, I r.low, I r.high, .bool r.wr, onlyV r.only]
abbrev rv (r : Rw) : Value := .agg #[.bool r.d, .bool r.s, .bool r.o, .bool r.i, I r.low, I r.high, .bool r.wr, onlyV r.only]
def tv (l : RT) : KV := l.map fun p => (p.1, rv p.2)

theorem aput_tv : ∀ (l : RT) (k : Int) (r : Rw), aput (tv l) k (rv r) = tv (rput l k r)
  | [], k, r => rfl
  | (a, u) :: l, k, r => by
    show (if a = k then _ else _) = tv (if a = k then _ else _)
    split
    · rfl
    · rw [show tv ((a, u) :: rput l k r) = (a, rv u) :: tv (rput l k r) from rfl, ← aput_tv l k r]; rfl
theorem alook_tv : ∀ (l : RT) (k : Int), alook (tv l) k = (rget l k).map rv
  | [], k => rfl
  | (a, u) :: l, k => by
    show (if a = k then _ else _) = (if a = k then some u else rget l k).map rv
    split
    · rfl
    · exact alook_tv l k

abbrev tb (b : Nat) (l : RT) : Asr := im .i64 b (tv l)
abbrev opsb (a : Nat) (ops : List Int) : Asr := bx a (.cells true 1 (ops.map fun o => I o))

theorem rows_s {r : Rw} {a : Nat} {ops : List Int} (hn : ops.length < 1000) (h : Sep H (tb b l :: opsb a ops :: L)) (hR : ∀ H', Sep H' (tb b (rputs l r ops) :: L) → R undef H') :
    CA en F.insn_rows [.map (some b), rv r, .slice (some ⟨a, 0, none⟩) ops.length 0] H R := by
  apply vc_insn_rows (hx1_7 := onlyV_cases r.only)
  refine Sep.nw h fun i1 H2 h2 => ?_
  refine use_insn_rows_0 (fun k t10 H => ∃ j : Nat, j ≤ ops.length ∧ k = ops.length - j ∧ t10 = (j : Int) ∧ Sep H (bx i1 (.cells true 0 (rcells r)) :: tb b (rputs l r (ops.take j)) :: opsb a ops :: L)) ops.length ⟨0, by omega, rfl, rfl, h2⟩ ?_
  clear h2 h
  rintro k t10 ys H3 ⟨j, hj, rfl, rfl, hs⟩
  refine cond_of (fun h1 => ?_) fun h1 => ?_
  · simp only [decide_eq_true_eq] at h1
    have hj' : j < ops.length := by omega
    have e : ops.take (j + 1) = ops.take j ++ [ops[j]] := by rw [List.take_add_one, List.getElem?_eq_getElem hj']; rfl
    refine ⟨by unfold inB; omega, asRow_in ⟨ops[j], ?_, ?_⟩⟩
    · refine Sep.ld2 hs ?_
      simp [List.getElem?_eq_getElem hj']
    · have fin : ∀ H4, Sep H4 (im .i64 b (aput (tv (rputs l r (ops.take j))) ops[j] (rv r)) :: bx i1 (.cells true 0 (rcells r)) :: opsb a ops :: L) → ∃ k, k < ops.length - j ∧ ∃ j' : Nat, j' ≤ ops.length ∧ k = ops.length - j' ∧ IntKind.i64.wrap ((j : Int) + 1) = (j' : Int) ∧ Sep H4 (bx i1 (.cells true 0 (rcells r)) :: tb b (rputs l r (ops.take j')) :: opsb a ops :: L) := by
        intro H4 h4
        refine ⟨ops.length - (j + 1), by omega, j + 1, by omega, rfl, ?_, ?_⟩
        · rw [wrap_i64 (by omega)]; omega
        have h5 := Sep.up1 h4
        rw [e]
        have e3 := aput_tv (rputs l r (ops.take j)) ops[j] r
        have e4 : rputs l r (ops.take j ++ [ops[j]]) = rput (rputs l r (ops.take j)) ops[j] r := by unfold rputs; rw [List.foldl_append]; rfl
        rw [e3] at h5
        rw [e4]
        exact h5
      have hc : H3.cellsAt i1 0 8 = some (rcells r) := Sep.lds0 hs rfl
      have put := im_put (K := fun H4 => ∃ k, k < ops.length - j ∧ ∃ j' : Nat, j' ≤ ops.length ∧ k = ops.length - j' ∧ IntKind.i64.wrap ((j : Int) + 1) = (j' : Int) ∧ Sep H4 (bx i1 (.cells true 0 (rcells r)) :: tb b (rputs l r (ops.take j')) :: opsb a ops :: L)) (Sep.up1 hs) fin
      rcases onlyV_cases r.only with ho | ⟨f, ho⟩
      · unfold rcells at hc
        unfold rv at put
        rw [ho] at hc put
        exact ⟨_, _, _, _, _, _, _, .inl ⟨hc, put⟩⟩
      · unfold rcells at hc
        unfold rv at put
        rw [ho] at hc put
        exact ⟨_, _, _, _, _, _, _, .inr ⟨f, hc, put⟩⟩
  · simp only [decide_eq_false_iff_not] at h1
    obtain rfl : j = ops.length := by omega
    have := hR H3
    rw [List.take_length] at hs
    exact this (Sep.rm1 hs.tail)

theorem or_alu : ∀ j : Fin 13, ∀ c : Fin 8, IntKind.i64.wrap ((BitVec.ofInt 64 (16 * ((j : Nat) : Int)) ||| (BitVec.ofInt 64 ((c : Nat) : Int))).toNat : Int) = 16 * ((j : Nat) : Int) + ((c : Nat) : Int) := by decide +kernel
theorem or_alu8 : ∀ j : Fin 13, ∀ c : Fin 8, IntKind.i64.wrap ((BitVec.ofInt 64 (IntKind.i64.wrap ((BitVec.ofInt 64 (16 * ((j : Nat) : Int)) ||| (BitVec.ofInt 64 8)).toNat : Int)) ||| (BitVec.ofInt 64 ((c : Nat) : Int))).toNat : Int) = 16 * ((j : Nat) : Int) + 8 + ((c : Nat) : Int) := by decide +kernel

/-! ### Alu's rows -/
theorem alu_neg (l : RT) (c : Int) {j : Nat} (h : 16 * (j : Int) = 128) : aluOne l c j = rputs l rNeg [16 * (j : Int) + c] := by
  unfold aluOne; simp only; rw [if_pos h]
theorem alu_shf (l : RT) (c : Int) {j : Nat} (h0 : ¬ 16 * (j : Int) = 128) (h : 16 * (j : Int) = 96 ∨ 16 * (j : Int) = 112 ∨ 16 * (j : Int) = 192) : aluOne l c j = rputs (rputs l (rShf (if c = 7 then 63 else 31)) [16 * (j : Int) + c]) rSrc [16 * (j : Int) + 8 + c] := by
  unfold aluOne; simp only; rw [if_neg h0, if_pos h]
theorem alu_imm (l : RT) (c : Int) {j : Nat} (h0 : ¬ 16 * (j : Int) = 128) (h : ¬ (16 * (j : Int) = 96 ∨ 16 * (j : Int) = 112 ∨ 16 * (j : Int) = 192)) : aluOne l c j = rputs (rputs l rImm [16 * (j : Int) + c]) rSrc [16 * (j : Int) + 8 + c] := by
  unfold aluOne; simp only; rw [if_neg h0, if_neg h]
def outT (l : RT) : Nat → RT
  | 0 => l
  | 1 => aluN l 4 13
  | _ => aluN (aluN l 4 13) 7 13

theorem or_jmp : ∀ j : Fin 11, ∀ c : Fin 8, IntKind.i64.wrap ((BitVec.ofInt 64 (jmps.getD j 0) ||| (BitVec.ofInt 64 ((c : Nat) : Int))).toNat : Int) = jmps.getD j 0 + ((c : Nat) : Int) ∧ IntKind.i64.wrap ((BitVec.ofInt 64 (IntKind.i64.wrap ((BitVec.ofInt 64 (jmps.getD j 0) ||| (BitVec.ofInt 64 8)).toNat : Int)) ||| (BitVec.ofInt 64 ((c : Nat) : Int))).toNat : Int) = jmps.getD j 0 + 8 + ((c : Nat) : Int) := by decide +kernel
def mems : List Int := [0, 8, 16, 24]
theorem or_mem : ∀ j : Fin 4, ∀ c : Fin 4, IntKind.i64.wrap ((BitVec.ofInt 64 (IntKind.i64.wrap ((BitVec.ofInt 64 96 ||| (BitVec.ofInt 64 (mems.getD j 0))).toNat : Int)) ||| (BitVec.ofInt 64 ((c : Nat) : Int))).toNat : Int) = 96 + mems.getD j 0 + ((c : Nat) : Int) := by decide +kernel

theorem jmpN_snoc : ∀ (l : RT) (ops : List Int) (op : Int), jmpN l (ops ++ [op]) = rputs (rputs (jmpN l ops) rJmpI [op + 5, op + 6]) rJmpS [op + 8 + 5, op + 8 + 6]
  | l, [], op => rfl
  | l, a :: ops, op => by
    show jmpN _ (ops ++ [op]) = _
    rw [jmpN_snoc]; rfl
theorem memN_snoc : ∀ (l : RT) (ops : List Int) (op : Int), memN l (ops ++ [op]) = rMem op (memN l ops)
  | l, [], op => rfl
  | l, a :: ops, op => by
    show memN _ (ops ++ [op]) = _
    rw [memN_snoc]; rfl
theorem take_snoc {ops : List Int} {j : Nat} (h : j < ops.length) : ops.take (j + 1) = ops.take j ++ [ops.getD j 0] := by
  rw [List.take_add_one, List.getD_eq_getElem?_getD, List.getElem?_eq_getElem h]; rfl

theorem aluN_zero (l : RT) (c : Int) : aluN l c 0 = l := rfl
theorem aluN_succ (l : RT) (c : Int) (j : Nat) : aluN l c (j + 1) = aluOne (aluN l c j) c j := rfl
theorem outT_z (l : RT) : outT l 0 = l := rfl
theorem outT_0 (l : RT) : outT l (0 + 1) = aluN l 4 13 := rfl
theorem outT_1 (l : RT) : outT l (1 + 1) = aluN (aluN l 4 13) 7 13 := rfl
theorem alusT_eq (l : RT) : alusT l = rputs (outT l 2) rTurn [212, 220] := rfl
theorem jmps_map : (jmps.map fun o => I o) = [I 16, I 32, I 48, I 64, I 80, I 96, I 112, I 160, I 176, I 192, I 208] := rfl
theorem mems_map : (mems.map fun o => I o) = [I 0, I 8, I 16, I 24] := rfl
theorem jmps_len : jmps.length = 11 := rfl
theorem mems_len : mems.length = 4 := rfl
theorem jmps_all : jmps.take 11 = jmps := rfl
theorem mems_all : mems.take 4 = mems := rfl
theorem jmpN_nil (l : RT) : jmpN l [] = l := rfl
theorem memN_nil (l : RT) : memN l [] = l := rfl
theorem half4_eq (l : RT) : half4 l = rputs (rputs (rputs (rputs l ⟨false, false, true, false, -2147483648, 2147483647, false, 0⟩ [5]) ⟨false, false, false, true, -2147483648, 2147483647, false, 0⟩ [133]) ⟨false, false, false, false, -2147483648, 2147483647, false, 0⟩ [149])
    ⟨true, true, false, true, -9223372036854775808, 9223372036854775807, true, 2⟩ [24] := rfl
theorem rMem_eq (op : Int) (l : RT) : rMem op l = rputs (rputs (rputs l ⟨true, true, true, false, -2147483648, 2147483647, true, 0⟩ [96 + op + 1]) ⟨true, false, true, true, -2147483648, 2147483647, false, 0⟩ [96 + op + 2]) ⟨true, true, true, false, -2147483648, 2147483647, false, 0⟩ [96 + op + 3] := rfl
theorem tab_eq : tab = rputs (memN (half4 (jmpN (alusT []) jmps)) mems) rAtom [195, 219] := rfl
attribute [local irreducible] rput rputs aluN aluOne outT jmpN memN half4 alusT rMem tab jmps mems

set_option maxHeartbeats 1000000 in
theorem alus_s (h : Sep H (tb b l :: gh :: ga :: L)) (hR : ∀ H', Sep H' (tb b (alusT l) :: gh :: ga :: L) → R undef H') : CA en F.insn_alus [.map (some b)] H R := by
  apply vc_insn_alus
  refine Sep.nw h fun i1 H2 h2 => ?_
  refine use_insn_alus_0 (fun k t10 H => ∃ p : Nat, p ≤ 2 ∧ k = 2 - p ∧ t10 = (p : Int) ∧ Sep H (tb b (outT l p) :: gh :: ga :: bx i1 (.cells true 1 [I 4, I 7]) :: L)) 2 ⟨0, by omega, rfl, rfl, by rw [outT_z]; exact Sep.up3 (Sep.up3 (Sep.up3 h2))⟩ ?_
  clear h2 h
  rintro k t10 ys H3 ⟨p, hp, rfl, rfl, hs⟩
  refine cond_of (fun h1 => ?_) fun h1 => ?_
  · simp only [decide_eq_true_eq] at h1
    obtain rfl | rfl : p = 0 ∨ p = 1 := by omega
    · refine ⟨by unfold inB; omega, _, Sep.ld3 hs rfl, cond_no rfl ?_⟩
      refine use_insn_alus_1 (fun k t5 H => ∃ j : Nat, j ≤ 13 ∧ k = 13 - j ∧ t5 = 16 * (j : Int) ∧ Sep H (tb b (aluN l 4 j) :: gh :: ga :: bx i1 (.cells true 1 [I 4, I 7]) :: L)) 13 ⟨0, by omega, rfl, rfl, by rw [aluN_zero]; rw [outT_z] at hs; exact hs⟩ ?_
      clear hs
      rintro k5 t5 ys5 H5' ⟨j, hj, rfl, rfl, hs⟩
      refine cond_of (fun h1 => ?_) fun h1 => ?_
      · have hj' : j < 13 := by simp only [decide_eq_true_eq] at h1; omega
        have o1 : IntKind.i64.wrap ((BitVec.ofInt 64 (16 * (j : Int)) ||| (BitVec.ofInt 64 4)).toNat : Int) = 16 * (j : Int) + 4 := or_alu ⟨j, hj'⟩ 4
        have o2 : IntKind.i64.wrap ((BitVec.ofInt 64 (IntKind.i64.wrap ((BitVec.ofInt 64 (16 * (j : Int)) ||| (BitVec.ofInt 64 8)).toNat : Int)) ||| (BitVec.ofInt 64 4)).toNat : Int) = 16 * (j : Int) + 8 + 4 := or_alu8 ⟨j, hj'⟩ 4
        have fin : ∀ H', Sep H' (tb b (aluOne (aluN (l) 4 j) 4 j) :: gh :: ga :: bx i1 (.cells true 1 [I 4, I 7]) :: L) → ∃ k, k < 13 - j ∧ ∃ j' : Nat, j' ≤ 13 ∧ k = 13 - j' ∧ IntKind.i64.wrap (16 * (j : Int) + 16) = 16 * (j' : Int) ∧ Sep H' (tb b (aluN (l) 4 j') :: gh :: ga :: bx i1 (.cells true 1 [I 4, I 7]) :: L) := fun H' h' => ⟨13 - (j + 1), by omega, j + 1, by omega, rfl, (by rw [wrap_i64 (by omega)]; omega), (by rw [aluN_succ]; exact h')⟩
        refine ⟨_, _, Sep.lds1 hs rfl, Sep.nw hs fun i3 H4 h4 => Sep.st0 h4 (Nat.le_of_ble_eq_true rfl) fun H5 h5 => ?_⟩
        refine cond_of (fun e128 => ?_) fun e128 => ?_
        · have e128 : 16 * (j : Int) = 128 := by simpa using e128
          refine ⟨_, _, Sep.lds2 h5 rfl, Sep.nw h5 fun i8 H9 h9 => ?_⟩
          rw [o1] at h9
          refine rows_s (r := rNeg) (ops := [16 * (j : Int) + 4]) (by simp) (Sep.up2 h9) fun H11 h11 => ⟨rfl, fin H11 ?_⟩
          rw [alu_neg _ _ e128]
          exact Sep.rm1 h11
        have e128 : ¬ 16 * (j : Int) = 128 := by simpa using e128
        refine cond_of (fun e96 => ?_) fun e96 => ?_
        · have e96 : 16 * (j : Int) = 96 := by simpa using e96
          have hs3 : 16 * (j : Int) = 96 ∨ 16 * (j : Int) = 112 ∨ 16 * (j : Int) = 192 := by omega
          refine Sep.st0 h5 (Nat.le_of_ble_eq_true rfl) fun H13 h13 => ?_
          refine ⟨_, _, _, _, _, _, _, .inl ⟨Sep.lds0 h13 rfl, Sep.nw h13 fun i22 H23 h23 => ?_⟩⟩
          rw [o1] at h23
          refine rows_s (r := rShf 31) (ops := [16 * (j : Int) + 4]) (by simp) (Sep.up2 h23) fun H25 h25 => ⟨rfl, _, _, Sep.lds2 h25 rfl, Sep.nw h25 fun i28 H29 h29 => ?_⟩
          rw [o2] at h29
          refine rows_s (r := rSrc) (ops := [16 * (j : Int) + 8 + 4]) (by simp) (Sep.up1 h29) fun H31 h31 => ⟨rfl, fin H31 ?_⟩
          rw [alu_shf _ _ e128 hs3]
          exact Sep.rm1 h31
        have e96 : ¬ 16 * (j : Int) = 96 := by simpa using e96
        refine cond_of (fun e112 => ?_) fun e112 => ?_
        · have e112 : 16 * (j : Int) = 112 := by simpa using e112
          have hs3 : 16 * (j : Int) = 96 ∨ 16 * (j : Int) = 112 ∨ 16 * (j : Int) = 192 := by omega
          refine Sep.st0 h5 (Nat.le_of_ble_eq_true rfl) fun H13 h13 => ?_
          refine ⟨_, _, _, _, _, _, _, .inl ⟨Sep.lds0 h13 rfl, Sep.nw h13 fun i22 H23 h23 => ?_⟩⟩
          rw [o1] at h23
          refine rows_s (r := rShf 31) (ops := [16 * (j : Int) + 4]) (by simp) (Sep.up2 h23) fun H25 h25 => ⟨rfl, _, _, Sep.lds2 h25 rfl, Sep.nw h25 fun i28 H29 h29 => ?_⟩
          rw [o2] at h29
          refine rows_s (r := rSrc) (ops := [16 * (j : Int) + 8 + 4]) (by simp) (Sep.up1 h29) fun H31 h31 => ⟨rfl, fin H31 ?_⟩
          rw [alu_shf _ _ e128 hs3]
          exact Sep.rm1 h31
        have e112 : ¬ 16 * (j : Int) = 112 := by simpa using e112
        refine cond_of (fun e192 => ?_) fun e192 => ?_
        · have e192 : 16 * (j : Int) = 192 := by simpa using e192
          have hs3 : 16 * (j : Int) = 96 ∨ 16 * (j : Int) = 112 ∨ 16 * (j : Int) = 192 := by omega
          refine Sep.st0 h5 (Nat.le_of_ble_eq_true rfl) fun H13 h13 => ?_
          refine ⟨_, _, _, _, _, _, _, .inl ⟨Sep.lds0 h13 rfl, Sep.nw h13 fun i22 H23 h23 => ?_⟩⟩
          rw [o1] at h23
          refine rows_s (r := rShf 31) (ops := [16 * (j : Int) + 4]) (by simp) (Sep.up2 h23) fun H25 h25 => ⟨rfl, _, _, Sep.lds2 h25 rfl, Sep.nw h25 fun i28 H29 h29 => ?_⟩
          rw [o2] at h29
          refine rows_s (r := rSrc) (ops := [16 * (j : Int) + 8 + 4]) (by simp) (Sep.up1 h29) fun H31 h31 => ⟨rfl, fin H31 ?_⟩
          rw [alu_shf _ _ e128 hs3]
          exact Sep.rm1 h31
        · have e192 : ¬ 16 * (j : Int) = 192 := by simpa using e192
          refine ⟨_, _, _, _, _, _, _, .inl ⟨Sep.lds0 h5 rfl, Sep.nw h5 fun i22 H23 h23 => ?_⟩⟩
          rw [o1] at h23
          refine rows_s (r := rImm) (ops := [16 * (j : Int) + 4]) (by simp) (Sep.up2 h23) fun H25 h25 => ⟨rfl, _, _, Sep.lds2 h25 rfl, Sep.nw h25 fun i28 H29 h29 => ?_⟩
          rw [o2] at h29
          refine rows_s (r := rSrc) (ops := [16 * (j : Int) + 8 + 4]) (by simp) (Sep.up1 h29) fun H31 h31 => ⟨rfl, fin H31 ?_⟩
          rw [alu_imm _ _ e128 (by omega)]
          exact Sep.rm1 h31
      · simp only [decide_eq_false_iff_not] at h1
        obtain rfl : j = 13 := by omega
        exact ⟨2 - (0 + 1), by omega, 0 + 1, by omega, rfl, rfl, by rw [outT_0]; exact hs⟩
    · refine ⟨by unfold inB; omega, _, Sep.ld3 hs rfl, cond_yes rfl ?_⟩
      refine use_insn_alus_1 (fun k t5 H => ∃ j : Nat, j ≤ 13 ∧ k = 13 - j ∧ t5 = 16 * (j : Int) ∧ Sep H (tb b (aluN (aluN l 4 13) 7 j) :: gh :: ga :: bx i1 (.cells true 1 [I 4, I 7]) :: L)) 13 ⟨0, by omega, rfl, rfl, by rw [aluN_zero]; have hs := hs; rw [show (1 : Nat) = 0 + 1 from rfl, outT_0] at hs; exact hs⟩ ?_
      clear hs
      rintro k5 t5 ys5 H5' ⟨j, hj, rfl, rfl, hs⟩
      refine cond_of (fun h1 => ?_) fun h1 => ?_
      · have hj' : j < 13 := by simp only [decide_eq_true_eq] at h1; omega
        have o1 : IntKind.i64.wrap ((BitVec.ofInt 64 (16 * (j : Int)) ||| (BitVec.ofInt 64 7)).toNat : Int) = 16 * (j : Int) + 7 := or_alu ⟨j, hj'⟩ 7
        have o2 : IntKind.i64.wrap ((BitVec.ofInt 64 (IntKind.i64.wrap ((BitVec.ofInt 64 (16 * (j : Int)) ||| (BitVec.ofInt 64 8)).toNat : Int)) ||| (BitVec.ofInt 64 7)).toNat : Int) = 16 * (j : Int) + 8 + 7 := or_alu8 ⟨j, hj'⟩ 7
        have fin : ∀ H', Sep H' (tb b (aluOne (aluN (aluN l 4 13) 7 j) 7 j) :: gh :: ga :: bx i1 (.cells true 1 [I 4, I 7]) :: L) → ∃ k, k < 13 - j ∧ ∃ j' : Nat, j' ≤ 13 ∧ k = 13 - j' ∧ IntKind.i64.wrap (16 * (j : Int) + 16) = 16 * (j' : Int) ∧ Sep H' (tb b (aluN (aluN l 4 13) 7 j') :: gh :: ga :: bx i1 (.cells true 1 [I 4, I 7]) :: L) := fun H' h' => ⟨13 - (j + 1), by omega, j + 1, by omega, rfl, (by rw [wrap_i64 (by omega)]; omega), (by rw [aluN_succ]; exact h')⟩
        refine ⟨_, _, Sep.lds1 hs rfl, Sep.nw hs fun i3 H4 h4 => Sep.st0 h4 (Nat.le_of_ble_eq_true rfl) fun H5 h5 => ?_⟩
        refine cond_of (fun e128 => ?_) fun e128 => ?_
        · have e128 : 16 * (j : Int) = 128 := by simpa using e128
          refine ⟨_, _, Sep.lds2 h5 rfl, Sep.nw h5 fun i8 H9 h9 => ?_⟩
          rw [o1] at h9
          refine rows_s (r := rNeg) (ops := [16 * (j : Int) + 7]) (by simp) (Sep.up2 h9) fun H11 h11 => ⟨rfl, fin H11 ?_⟩
          rw [alu_neg _ _ e128]
          exact Sep.rm1 h11
        have e128 : ¬ 16 * (j : Int) = 128 := by simpa using e128
        refine cond_of (fun e96 => ?_) fun e96 => ?_
        · have e96 : 16 * (j : Int) = 96 := by simpa using e96
          have hs3 : 16 * (j : Int) = 96 ∨ 16 * (j : Int) = 112 ∨ 16 * (j : Int) = 192 := by omega
          refine Sep.st0 h5 (Nat.le_of_ble_eq_true rfl) fun H13 h13 => ?_
          refine ⟨_, _, _, _, _, _, _, .inl ⟨Sep.lds0 h13 rfl, Sep.nw h13 fun i22 H23 h23 => ?_⟩⟩
          rw [o1] at h23
          refine rows_s (r := rShf 63) (ops := [16 * (j : Int) + 7]) (by simp) (Sep.up2 h23) fun H25 h25 => ⟨rfl, _, _, Sep.lds2 h25 rfl, Sep.nw h25 fun i28 H29 h29 => ?_⟩
          rw [o2] at h29
          refine rows_s (r := rSrc) (ops := [16 * (j : Int) + 8 + 7]) (by simp) (Sep.up1 h29) fun H31 h31 => ⟨rfl, fin H31 ?_⟩
          rw [alu_shf _ _ e128 hs3]
          exact Sep.rm1 h31
        have e96 : ¬ 16 * (j : Int) = 96 := by simpa using e96
        refine cond_of (fun e112 => ?_) fun e112 => ?_
        · have e112 : 16 * (j : Int) = 112 := by simpa using e112
          have hs3 : 16 * (j : Int) = 96 ∨ 16 * (j : Int) = 112 ∨ 16 * (j : Int) = 192 := by omega
          refine Sep.st0 h5 (Nat.le_of_ble_eq_true rfl) fun H13 h13 => ?_
          refine ⟨_, _, _, _, _, _, _, .inl ⟨Sep.lds0 h13 rfl, Sep.nw h13 fun i22 H23 h23 => ?_⟩⟩
          rw [o1] at h23
          refine rows_s (r := rShf 63) (ops := [16 * (j : Int) + 7]) (by simp) (Sep.up2 h23) fun H25 h25 => ⟨rfl, _, _, Sep.lds2 h25 rfl, Sep.nw h25 fun i28 H29 h29 => ?_⟩
          rw [o2] at h29
          refine rows_s (r := rSrc) (ops := [16 * (j : Int) + 8 + 7]) (by simp) (Sep.up1 h29) fun H31 h31 => ⟨rfl, fin H31 ?_⟩
          rw [alu_shf _ _ e128 hs3]
          exact Sep.rm1 h31
        have e112 : ¬ 16 * (j : Int) = 112 := by simpa using e112
        refine cond_of (fun e192 => ?_) fun e192 => ?_
        · have e192 : 16 * (j : Int) = 192 := by simpa using e192
          have hs3 : 16 * (j : Int) = 96 ∨ 16 * (j : Int) = 112 ∨ 16 * (j : Int) = 192 := by omega
          refine Sep.st0 h5 (Nat.le_of_ble_eq_true rfl) fun H13 h13 => ?_
          refine ⟨_, _, _, _, _, _, _, .inl ⟨Sep.lds0 h13 rfl, Sep.nw h13 fun i22 H23 h23 => ?_⟩⟩
          rw [o1] at h23
          refine rows_s (r := rShf 63) (ops := [16 * (j : Int) + 7]) (by simp) (Sep.up2 h23) fun H25 h25 => ⟨rfl, _, _, Sep.lds2 h25 rfl, Sep.nw h25 fun i28 H29 h29 => ?_⟩
          rw [o2] at h29
          refine rows_s (r := rSrc) (ops := [16 * (j : Int) + 8 + 7]) (by simp) (Sep.up1 h29) fun H31 h31 => ⟨rfl, fin H31 ?_⟩
          rw [alu_shf _ _ e128 hs3]
          exact Sep.rm1 h31
        · have e192 : ¬ 16 * (j : Int) = 192 := by simpa using e192
          refine ⟨_, _, _, _, _, _, _, .inl ⟨Sep.lds0 h5 rfl, Sep.nw h5 fun i22 H23 h23 => ?_⟩⟩
          rw [o1] at h23
          refine rows_s (r := rImm) (ops := [16 * (j : Int) + 7]) (by simp) (Sep.up2 h23) fun H25 h25 => ⟨rfl, _, _, Sep.lds2 h25 rfl, Sep.nw h25 fun i28 H29 h29 => ?_⟩
          rw [o2] at h29
          refine rows_s (r := rSrc) (ops := [16 * (j : Int) + 8 + 7]) (by simp) (Sep.up1 h29) fun H31 h31 => ⟨rfl, fin H31 ?_⟩
          rw [alu_imm _ _ e128 (by omega)]
          exact Sep.rm1 h31
      · simp only [decide_eq_false_iff_not] at h1
        obtain rfl : j = 13 := by omega
        exact ⟨2 - (1 + 1), by omega, 1 + 1, by omega, rfl, rfl, by rw [outT_1]; exact hs⟩
  · simp only [decide_eq_false_iff_not] at h1
    obtain rfl : p = 2 := by omega
    refine ⟨_, _, Sep.lds1 hs rfl, Sep.nw hs fun i7 H8 h8 => ?_⟩
    refine rows_s (r := rTurn) (ops := [212, 220]) (by simp) (Sep.up1 h8) fun H10 h10 => ⟨rfl, hR H10 ?_⟩
    rw [alusT_eq]
    exact Sep.rm3 h10

/-! ### The table -/
set_option maxHeartbeats 1000000 in
theorem table_s (h : Sep H (gh :: ga :: L)) (hR : ∀ H' b, Sep H' (tb b tab :: gh :: ga :: L) → R (.map (some b)) H') : CA en F.insn_table [] H R := by
  apply vc_insn_table
  refine im_new (ik := .i64) h fun b H2 h2 => ?_
  refine alus_s (l := []) h2 fun H4 h4 => ⟨rfl, Sep.nw h4 fun i5 H6 h6 => ?_⟩
  refine use_insn_table_0 (fun k t13 H => ∃ j : Nat, j ≤ 11 ∧ k = 11 - j ∧ t13 = (j : Int) ∧ Sep H (bx i5 (.cells true 1 (jmps.map fun o => I o)) :: tb b (jmpN (alusT []) (jmps.take j)) :: gh :: ga :: L)) 11 ⟨0, by omega, rfl, rfl, by rw [List.take_zero, jmpN_nil, jmps_map]; exact h6⟩ ?_
  clear h6 h4 h2 h
  rintro k t13 ys H3 ⟨j, hj, rfl, rfl, hs⟩
  refine cond_of (fun h1 => ?_) fun h1 => ?_
  · have hj' : j < 11 := by simp only [decide_eq_true_eq] at h1; omega
    have o5 := or_jmp ⟨j, hj'⟩ 5
    have o6 := or_jmp ⟨j, hj'⟩ 6
    have hop : (jmps.map fun o => I o)[j]? = some (I (jmps.getD j 0)) := by
      rw [List.getElem?_map, List.getD_eq_getElem?_getD, List.getElem?_eq_getElem (show j < jmps.length by rw [jmps_len]; exact hj')]; rfl
    obtain ⟨p5, q5⟩ := o5
    obtain ⟨p6, q6⟩ := o6
    have e := take_snoc (ops := jmps) (j := j) (by rw [jmps_len]; exact hj')
    generalize hx : jmps.getD j 0 = x at *
    have p5 : IntKind.i64.wrap ((BitVec.ofInt 64 x ||| (BitVec.ofInt 64 5)).toNat : Int) = x + 5 := p5
    have p6 : IntKind.i64.wrap ((BitVec.ofInt 64 x ||| (BitVec.ofInt 64 6)).toNat : Int) = x + 6 := p6
    have q5 : IntKind.i64.wrap ((BitVec.ofInt 64 (IntKind.i64.wrap ((BitVec.ofInt 64 x ||| (BitVec.ofInt 64 8)).toNat : Int)) ||| (BitVec.ofInt 64 5)).toNat : Int) = x + 8 + 5 := q5
    have q6 : IntKind.i64.wrap ((BitVec.ofInt 64 (IntKind.i64.wrap ((BitVec.ofInt 64 x ||| (BitVec.ofInt 64 8)).toNat : Int)) ||| (BitVec.ofInt 64 6)).toNat : Int) = x + 8 + 6 := q6
    refine ⟨by unfold inB; omega, x, Sep.ld0 hs (by rw [Nat.zero_add, Int.toNat_natCast, Nat.mul_one]; exact hop), _, _, Sep.lds2 hs rfl, Sep.nw hs fun i4 H5 h5 => ?_⟩
    rw [p5, p6] at h5
    refine rows_s (r := rJmpI) (ops := [x + 5, x + 6]) (by simp) (Sep.up2 h5) fun H7 h7 => ⟨rfl, _, _, Sep.lds2 h7 rfl, Sep.nw h7 fun i10 H11 h11 => ?_⟩
    rw [q5, q6] at h11
    refine rows_s (r := rJmpS) (ops := [x + 8 + 5, x + 8 + 6]) (by simp) (Sep.up1 h11) fun H13 h13 => ⟨rfl, 11 - (j + 1), by omega, j + 1, by omega, rfl, ?_, ?_⟩
    · rw [wrap_i64 (by omega)]; omega
    · rw [e, jmpN_snoc]
      exact Sep.up1 h13
  · simp only [decide_eq_false_iff_not] at h1
    obtain rfl : j = 11 := by omega
    have hs : Sep H3 (tb b (jmpN (alusT []) jmps) :: gh :: ga :: L) := by rw [jmps_all] at hs; exact hs.tail
    refine ⟨_, _, Sep.lds1 hs rfl, Sep.nw hs fun i11 H12 h12 => ?_⟩
    refine rows_s (r := ⟨false, false, true, false, -2147483648, 2147483647, false, 0⟩) (ops := [5]) (by simp) (Sep.up1 h12) fun H14 h14 => ⟨rfl, _, _, Sep.lds1 h14 rfl, Sep.nw h14 fun i17 H18 h18 => ?_⟩
    refine rows_s (r := ⟨false, false, false, true, -2147483648, 2147483647, false, 0⟩) (ops := [133]) (by simp) (Sep.up1 h18) fun H20 h20 => ⟨rfl, _, _, Sep.lds1 h20 rfl, Sep.nw h20 fun i23 H24 h24 => ?_⟩
    refine rows_s (r := ⟨false, false, false, false, -2147483648, 2147483647, false, 0⟩) (ops := [149]) (by simp) (Sep.up1 h24) fun H26 h26 => ⟨rfl, Sep.nw h26 fun i27 H28 h28 => ?_⟩
    refine rows_s (r := ⟨true, true, false, true, -9223372036854775808, 9223372036854775807, true, 2⟩) (ops := [24]) (by simp) (Sep.up1 h28) fun H30 h30 => ⟨rfl, Sep.nw h30 fun i31 H32 h32 => ?_⟩
    refine use_insn_table_1 (fun k t66 H => ∃ j : Nat, j ≤ 4 ∧ k = 4 - j ∧ t66 = (j : Int) ∧ Sep H (bx i31 (.cells true 1 (mems.map fun o => I o)) :: tb b (memN (half4 (jmpN (alusT []) jmps)) (mems.take j)) :: gh :: ga :: L)) 4 ⟨0, by omega, rfl, rfl, by rw [List.take_zero, memN_nil, mems_map, half4_eq]; exact h32⟩ ?_
    clear h32 h30 h28 h26 h24 h20 h18 h14 h12 hs
    rintro k2 t66 ys2 H4 ⟨j, hj, rfl, rfl, hs⟩
    refine cond_of (fun h1 => ?_) fun h1 => ?_
    · have hj' : j < 4 := by simp only [decide_eq_true_eq] at h1; omega
      have o1 := or_mem ⟨j, hj'⟩ 1
      have o2 := or_mem ⟨j, hj'⟩ 2
      have o3 := or_mem ⟨j, hj'⟩ 3
      have hop : (mems.map fun o => I o)[j]? = some (I (mems.getD j 0)) := by
        rw [List.getElem?_map, List.getD_eq_getElem?_getD, List.getElem?_eq_getElem (show j < mems.length by rw [mems_len]; exact hj')]; rfl
      have e := take_snoc (ops := mems) (j := j) (by rw [mems_len]; exact hj')
      generalize hx : mems.getD j 0 = x at *
      have o1 : IntKind.i64.wrap ((BitVec.ofInt 64 (IntKind.i64.wrap ((BitVec.ofInt 64 96 ||| (BitVec.ofInt 64 x)).toNat : Int)) ||| (BitVec.ofInt 64 1)).toNat : Int) = 96 + x + 1 := o1
      have o2 : IntKind.i64.wrap ((BitVec.ofInt 64 (IntKind.i64.wrap ((BitVec.ofInt 64 96 ||| (BitVec.ofInt 64 x)).toNat : Int)) ||| (BitVec.ofInt 64 2)).toNat : Int) = 96 + x + 2 := o2
      have o3 : IntKind.i64.wrap ((BitVec.ofInt 64 (IntKind.i64.wrap ((BitVec.ofInt 64 96 ||| (BitVec.ofInt 64 x)).toNat : Int)) ||| (BitVec.ofInt 64 3)).toNat : Int) = 96 + x + 3 := o3
      refine ⟨by unfold inB; omega, x, Sep.ld0 hs (by rw [Nat.zero_add, Int.toNat_natCast, Nat.mul_one]; exact hop), _, _, Sep.lds2 hs rfl, Sep.nw hs fun i4 H5 h5 => ?_⟩
      rw [o1] at h5
      refine rows_s (r := ⟨true, true, true, false, -2147483648, 2147483647, true, 0⟩) (ops := [96 + x + 1]) (by simp) (Sep.up2 h5) fun H7 h7 => ⟨rfl, _, _, Sep.lds2 h7 rfl, Sep.nw h7 fun i10 H11 h11 => ?_⟩
      rw [o2] at h11
      refine rows_s (r := ⟨true, false, true, true, -2147483648, 2147483647, false, 0⟩) (ops := [96 + x + 2]) (by simp) (Sep.up1 h11) fun H13 h13 => ⟨rfl, _, _, Sep.lds2 h13 rfl, Sep.nw h13 fun i16 H17 h17 => ?_⟩
      rw [o3] at h17
      refine rows_s (r := ⟨true, true, true, false, -2147483648, 2147483647, false, 0⟩) (ops := [96 + x + 3]) (by simp) (Sep.up1 h17) fun H19 h19 => ⟨rfl, 4 - (j + 1), by omega, j + 1, by omega, rfl, ?_, ?_⟩
      · rw [wrap_i64 (by omega)]; omega
      · rw [e, memN_snoc, rMem_eq]
        exact Sep.up1 h19
    · simp only [decide_eq_false_iff_not] at h1
      obtain rfl : j = 4 := by omega
      rw [mems_all] at hs
      have hs := hs.tail
      refine ⟨_, _, Sep.lds1 hs rfl, Sep.nw hs fun i37 H38 h38 => ?_⟩
      exact rows_s (r := rAtom) (ops := [195, 219]) (by simp) (Sep.up1 h38) fun H40 h40 => ⟨rfl, hR H40 b (by rw [tab_eq]; exact h40)⟩
end Go.Proofs.YtmgkngdbphkmmaaDoor
