/-
  The instruction that bytes begin with: insn.one answers getOne.
-/
import Derived.Test.YtmgkngdbphkmmaaDoorInsnPut
import Derived.Test.YtmgkngdbphkmmaaDoorVcG
namespace Go.Proofs.YtmgkngdbphkmmaaDoor
open Go Go.AS Go.RowKit
set_option linter.unusedVariables false
variable {H H' : Heap} {R : Value → Heap → Prop} {L : List Asr} {i z o : Nat} {w : Bool} {c : List Value}

theorem byte_parts : ∀ b : Fin 256, IntKind.i64.wrap (IntKind.u8.wrap ((BitVec.ofInt 8 ((b : Nat) : Int) &&& (BitVec.ofInt 8 15)).toNat : Int)) = (((b : Nat) % 16 : Nat) : Int) ∧ IntKind.i64.wrap (Int.fdiv ((b : Nat) : Int) 16) = (((b : Nat) / 16 : Nat) : Int) := by decide +kernel

theorem ofInt_wrap (v : Int) : BitVec.ofInt 64 (IntKind.i64.wrap v) = BitVec.ofInt 64 v := by
  apply BitVec.eq_of_toNat_eq
  rw [BitVec.toNat_ofInt, BitVec.toNat_ofInt, wrap_i64']
  congr 1
  show (_ : Int) % 18446744073709551616 = v % 18446744073709551616
  split <;> omega

theorem wide_imm {lo hi : Nat} (hl : lo < 4294967296) (hh : hi < 4294967296) :
    IntKind.i64.wrap ((BitVec.ofInt 64 (IntKind.i64.wrap (sgn 4294967296 hi * 4294967296)) ||| (BitVec.ofInt 64 (IntKind.i64.wrap (lo : Int)))).toNat : Int) = sgn 18446744073709551616 (lo + 4294967296 * hi) := by
  rw [ofInt_wrap, ofInt_wrap, BitVec.toNat_or, BitVec.toNat_ofInt, BitVec.toNat_ofInt]
  have e1 : ((sgn 4294967296 hi * 4294967296) % ((2 ^ 64 : Nat) : Int)).toNat = hi * 4294967296 := by
    show ((sgn 4294967296 hi * 4294967296) % 18446744073709551616).toNat = _
    unfold sgn
    split <;> omega
  have e2 : ((lo : Int) % ((2 ^ 64 : Nat) : Int)).toNat = lo := by
    show ((lo : Int) % 18446744073709551616).toNat = _
    omega
  rw [e1, e2]
  have e3 : hi * 4294967296 ||| lo = hi * 4294967296 + lo := by
    have := Nat.shiftLeft_add_eq_or_of_lt (i := 32) (b := lo) hl hi
    rw [Nat.shiftLeft_eq] at this
    exact this.symm
  rw [e3, wrap_i64']
  unfold sgn
  split <;> split <;> omega

theorem Bytes.sub {p : Nat} {bs : List Nat} (h : Bytes c p bs) (k n : Nat) : Bytes c (p + k) ((bs.drop k).take n) := by
  intro j b hj
  have h1 : (bs.drop k)[j]? = some b := by
    rw [List.getElem?_take] at hj
    split at hj
    · exact hj
    · cases hj
  rw [List.getElem?_drop] at h1
  rw [Nat.add_assoc]
  exact h (k + j) b h1

theorem same5 (a b c d e : Int) : sameN 8 (.agg #[.int .i64 a, .int .i64 b, .int .i64 c, .int .i64 d, .int .i64 e]) (.agg #[.int .i64 a, .int .i64 b, .int .i64 c, .int .i64 d, .int .i64 e]) = true := by simp [sameN, sameN.sameL]

theorem get4_s {at' n : Nat} {bs : List Nat} (h : Sep H (bx i (.cells w z c) :: L)) (hz : z = 0 ∨ z = 1) (hs : bs.length = 4) (hf : at' + 4 ≤ n) (hn : n < 4611686018427387904)
    (hb : Bytes c (o + at') bs) (hlt : ∀ b ∈ bs, b < 256)
    (hR : ∀ H', Sep H' (bx i (.cells w z c) :: L) → R (.tuple #[.int .u64 (leNum bs : Int), .bool true]) H') : CA en F.word_Get [.slice (some ⟨i, o, none⟩) n 0, I at', I 4] H R := by
  have := get_s (R := R) (n := n) (at' := at') (o := o) h hz (by omega) (by omega) hn hb hlt hR
  rw [hs] at this
  exact this

def in0 : Ins := ⟨0, 0, 0, 0, 0⟩

theorem one_s {bs : List Nat} (h : Sep H (bx i (.cells w z c) :: gh :: ga :: L)) (hz : z = 0 ∨ z = 1) (hb : Bytes c o bs) (hlt : ∀ b ∈ bs, b < 256) (hn : bs.length < 4611686018427387904) (h1 : 1 ≤ bs.length)
    (hR : ∀ H', Sep H' (bx i (.cells w z c) :: gh :: ga :: L) → R (.tuple #[(getOne chkI bs).1.val, I (getOne chkI bs).2.1, I (getOne chkI bs).2.2]) H') :
    CA en F.insn_one [.slice (some ⟨i, o, none⟩) bs.length 0] H R := by
  apply vc_insn_one
  refine Sep.nw h fun i1 H2 h2 => ?_
  have short : ∀ H' {A : Asr}, (bs.length < 8 ∨ bs.getD 0 0 = 24 ∧ bs.length < 16) → Sep H' (A :: bx i (.cells w z c) :: gh :: ga :: L) → R (.tuple #[in0.val, I 0, I 20]) H' := by
    intro H' A hs h'
    have := hR H' h'.tail
    have e : getOne chkI bs = (⟨0, 0, 0, 0, 0⟩, 0, 20) := if_pos hs
    rw [e] at this
    exact this
  refine cond_of (fun h8 => ?_) fun h8 => ?_
  · have h8 : bs.length < 8 := by simp only [decide_eq_true_eq] at h8; omega
    exact Sep.st0 h2 (Nat.le_of_ble_eq_true rfl) fun H3 h3 => ⟨_, _, _, _, _, Sep.lds0 h3 rfl, short H3 (.inl h8) h3⟩
  have h8 : 8 ≤ bs.length := by simp only [decide_eq_false_iff_not] at h8; omega
  obtain ⟨b0, hb0⟩ : ∃ b, bs[0]? = some b := ⟨_, List.getElem?_eq_getElem (by omega)⟩
  obtain ⟨b1, hb1⟩ : ∃ b, bs[1]? = some b := ⟨_, List.getElem?_eq_getElem (by omega)⟩
  have g0 : bs.getD 0 0 = b0 := by rw [List.getD_eq_getElem?_getD, hb0]; rfl
  have g1 : bs.getD 1 0 = b1 := by rw [List.getD_eq_getElem?_getD, hb1]; rfl
  have l0 := hlt b0 (List.mem_of_getElem? hb0)
  have l1 := hlt b1 (List.mem_of_getElem? hb1)
  have c0 : c[o]? = some (Y b0) := hb 0 b0 hb0
  have c1 : c[o + 1]? = some (Y b1) := hb 1 b1 hb1
  have i0 : inB 0 bs.length := by unfold inB; omega
  have i1' : inB 1 bs.length := by unfold inB; omega
  have n4 : nn 4 := by unfold nn; decide
  obtain ⟨p1, p2⟩ := byte_parts ⟨b1, l1⟩
  simp only at p1 p2
  have w0 : IntKind.i64.wrap (b0 : Int) = (b0 : Int) := wrap_i64 (by omega)
  have hT := h2.fore1 (n := 22) (a := 19) (.cells true 0 [I 0, I 0, I 0, I 0, I 0]) (by decide)
  -- rb i1 bytes gh ga
  refine ⟨i0, asRow_in ⟨_, Sep.ld1 h2 c0, cond_of (fun e24 => ?_) fun e24 => ?_⟩⟩
  · have e24 : b0 = 24 := by have : (b0 : Int) = 24 := by simpa using e24
                             omega
    refine cond_of (fun h16 => ?_) fun h16 => ?_
    · have h16 : bs.length < 16 := by simp only [decide_eq_true_eq] at h16; omega
      exact Sep.st0 h2 (Nat.le_of_ble_eq_true rfl) fun H3 h3 => ⟨_, _, _, _, _, Sep.lds0 h3 rfl, short H3 (.inr ⟨by rw [g0, e24], h16⟩) h3⟩
    have h16 : 16 ≤ bs.length := by simp only [decide_eq_false_iff_not] at h16; omega
    have hsh : ¬ (bs.length < 8 ∨ bs.getD 0 0 = 24 ∧ bs.length < 16) := by omega
    refine ⟨i0, asRow_in ⟨_, Sep.ld2 hT c0, i1', asRow_in ⟨_, Sep.ld2 hT c1, i1', asRow_in ⟨_, Sep.ld2 hT c1, n4, ?_⟩⟩⟩⟩
    refine number2_s (at' := 2) (o := o) (Sep.up2 hT) hz (sub_len (by omega)) (by omega) hn (hb.sub 2 2) (mem_sub hlt 2 2) fun H28 h28 => ⟨_, rfl, ?_⟩
    refine number4_s (at' := 4) (o := o) h28 hz (sub_len (by omega)) (by omega) hn (hb.sub 4 4) (mem_sub hlt 4 4) fun H31 h31 => ⟨_, rfl, ?_⟩
    rw [p1, p2, w0]
    refine Sep.st1 h31 (Nat.le_of_ble_eq_true rfl) fun H33 h33 => ⟨⟨_, Sep.ld1 h33 rfl, cond_yes (by rw [e24]; rfl) ?_⟩, ?_, ?_, ?_, ?_, ?_, ?_, trivial⟩
    · refine number4_s (at' := 8) (o := o) h33 hz (sub_len (by omega)) (by omega) hn (hb.sub 8 4) (mem_sub hlt 8 4) fun H48 h48 => ⟨_, rfl, cond_of (fun hz8 => ?_) fun hz8 => ?_⟩
      · have hz8 : ¬ leNum ((bs.drop 8).take 4) = 0 := by
          intro e
          rw [e] at hz8
          simp [sgn] at hz8
        refine Sep.st2 h48 (Nat.le_of_ble_eq_true rfl) fun H50 h50 => ⟨_, _, _, _, _, Sep.lds2 h50 rfl, ?_⟩
        have := hR H50 (Sep.rm1 (Sep.rm1 h50))
        have e : getOne chkI bs = (⟨0, 0, 0, 0, 0⟩, 0, 9) := by
          unfold getOne
          rw [if_neg hsh, if_pos (by rw [g0, e24]), if_neg hz8]
        rw [e] at this
        exact this
      · have hz8 : leNum ((bs.drop 8).take 4) = 0 := by
          have l := leNum_lt _ (mem_sub hlt 8 4)
          rw [sub_len (by omega)] at l
          have l : leNum ((bs.drop 8).take 4) < 4294967296 := l
          have hz8 : sgn 4294967296 (leNum ((bs.drop 8).take 4)) = 0 := by simpa using hz8
          unfold sgn at hz8
          split at hz8 <;> omega
        have s4 : ((bs.drop 4).take 4).length = 4 := sub_len (by omega)
        have lo := leNum_lt _ (mem_sub hlt 4 4)
        have hi := leNum_lt _ (mem_sub hlt 12 4)
        rw [sub_len (by omega)] at lo hi
        refine get4_s (at' := 4) (o := o) h48 hz s4 (by omega) hn (hb.sub 4 4) (mem_sub hlt 4 4) fun H57 h57 => ⟨_, _, rfl, number4_s (at' := 12) (o := o) h57 hz (sub_len (by omega)) (by omega) hn (hb.sub 12 4) (mem_sub hlt 12 4) fun H61 h61 => ⟨_, rfl, by unfold nn; decide, ?_⟩⟩
        rw [wide_imm lo hi]
        refine Sep.st1 h61 (Nat.le_of_ble_eq_true rfl) fun H63 h63 => ?_
        have hB := h63.bump 7
        refine ⟨_, _, _, _, _, Sep.lds1 hB rfl, _, _, _, _, _, Sep.lds1 hB rfl, ?_⟩
        have e : getOne chkI bs = (⟨b0, (b1 % 16 : Nat), (b1 / 16 : Nat), sgn 65536 (leNum ((bs.drop 2).take 2)), sgn 18446744073709551616 (leNum ((bs.drop 4).take 4) + 4294967296 * leNum ((bs.drop 12).take 4))⟩, 16, chkI ⟨b0, (b1 % 16 : Nat), (b1 / 16 : Nat), sgn 65536 (leNum ((bs.drop 2).take 2)), sgn 18446744073709551616 (leNum ((bs.drop 4).take 4) + 4294967296 * leNum ((bs.drop 12).take 4))⟩) := by
          unfold getOne
          rw [if_neg hsh, if_pos (by rw [g0, e24]), if_pos hz8, g1, e24]; rfl
        rw [e] at hR
        refine check_s (x := ⟨b0, (b1 % 16 : Nat), (b1 / 16 : Nat), sgn 65536 (leNum ((bs.drop 2).take 2)), sgn 18446744073709551616 (leNum ((bs.drop 4).take 4) + 4294967296 * leNum ((bs.drop 12).take 4))⟩) (Sep.up4 (Sep.up4 hB)) fun H75 h75 => ⟨_, rfl, Sep.st4 h75 (Nat.le_of_ble_eq_true rfl) fun H77 h77 => ⟨⟨_, _, _, _, _, Sep.lds4 h77 rfl, ?_⟩, ⟨⟨_, _, _, _, _, Sep.lds1 hB rfl, same5 _ _ _ _ _⟩, ⟨_, _, _, _, _, Sep.lds3 h75 rfl, same5 _ _ _ _ _⟩, trivial⟩, trivial⟩⟩
        exact hR H77 (Sep.up2 (Sep.rm3 (Sep.rm3 h77)))
    · exact ⟨⟨_, Sep.get0 hT, rfl⟩, ⟨_, Sep.get1 h28, rfl⟩, ⟨_, Sep.get1 h31, rfl⟩, trivial⟩
    · exact ⟨⟨n4, rfl⟩, ⟨n4, rfl⟩, ⟨n4, rfl⟩, trivial⟩
    · exact ⟨⟨_, Sep.ld2 hT c1, rfl⟩, ⟨_, Sep.ld0 h28 c1, rfl⟩, ⟨_, Sep.ld0 h31 c1, rfl⟩, trivial⟩
    · exact ⟨rfl, rfl, rfl, trivial⟩
    · exact ⟨⟨_, Sep.ld2 hT c1, rfl⟩, ⟨_, Sep.ld0 h28 c1, rfl⟩, ⟨_, Sep.ld0 h31 c1, rfl⟩, trivial⟩
    · exact ⟨⟨_, Sep.ld2 hT c0, rfl⟩, ⟨_, Sep.ld0 h28 c0, rfl⟩, ⟨_, Sep.ld0 h31 c0, rfl⟩, trivial⟩
  · have e24 : ¬ b0 = 24 := by
      intro e
      rw [e] at e24
      simp at e24
    have hsh : ¬ (bs.length < 8 ∨ bs.getD 0 0 = 24 ∧ bs.length < 16) := by omega
    refine ⟨i0, asRow_in ⟨_, Sep.ld2 hT c0, i1', asRow_in ⟨_, Sep.ld2 hT c1, i1', asRow_in ⟨_, Sep.ld2 hT c1, n4, ?_⟩⟩⟩⟩
    refine number2_s (at' := 2) (o := o) (Sep.up2 hT) hz (sub_len (by omega)) (by omega) hn (hb.sub 2 2) (mem_sub hlt 2 2) fun H28 h28 => ⟨_, rfl, ?_⟩
    refine number4_s (at' := 4) (o := o) h28 hz (sub_len (by omega)) (by omega) hn (hb.sub 4 4) (mem_sub hlt 4 4) fun H31 h31 => ⟨_, rfl, ?_⟩
    rw [p1, p2, w0]
    refine Sep.st1 h31 (Nat.le_of_ble_eq_true rfl) fun H33 h33 => ⟨⟨_, Sep.ld1 h33 rfl, cond_no (by rw [beq_eq_false_iff_ne]; omega) ?_⟩, ?_, ?_, ?_, ?_, ?_, ?_, trivial⟩
    · have hB := h33.bump 7
      refine ⟨_, _, _, _, _, Sep.lds1 hB rfl, _, _, _, _, _, Sep.lds1 hB rfl, ?_⟩
      have e : getOne chkI bs = (⟨b0, (b1 % 16 : Nat), (b1 / 16 : Nat), sgn 65536 (leNum ((bs.drop 2).take 2)), sgn 4294967296 (leNum ((bs.drop 4).take 4))⟩, 8, chkI ⟨b0, (b1 % 16 : Nat), (b1 / 16 : Nat), sgn 65536 (leNum ((bs.drop 2).take 2)), sgn 4294967296 (leNum ((bs.drop 4).take 4))⟩) := by
        unfold getOne
        rw [if_neg hsh, if_neg (by rw [g0]; exact e24), g0, g1]
      rw [e] at hR
      refine check_s (x := ⟨b0, (b1 % 16 : Nat), (b1 / 16 : Nat), sgn 65536 (leNum ((bs.drop 2).take 2)), sgn 4294967296 (leNum ((bs.drop 4).take 4))⟩) (Sep.up4 (Sep.up4 hB)) fun H75 h75 => ⟨_, rfl, Sep.st4 h75 (Nat.le_of_ble_eq_true rfl) fun H77 h77 => ⟨⟨_, _, _, _, _, Sep.lds4 h77 rfl, ?_⟩, ⟨⟨_, _, _, _, _, Sep.lds1 hB rfl, same5 _ _ _ _ _⟩, ⟨_, _, _, _, _, Sep.lds3 h75 rfl, same5 _ _ _ _ _⟩, trivial⟩, trivial⟩⟩
      exact hR H77 (Sep.up2 (Sep.rm3 (Sep.rm3 h77)))
    · exact ⟨⟨_, Sep.get0 hT, rfl⟩, ⟨_, Sep.get1 h28, rfl⟩, ⟨_, Sep.get1 h31, rfl⟩, trivial⟩
    · exact ⟨⟨n4, rfl⟩, ⟨n4, rfl⟩, ⟨n4, rfl⟩, trivial⟩
    · exact ⟨⟨_, Sep.ld2 hT c1, rfl⟩, ⟨_, Sep.ld0 h28 c1, rfl⟩, ⟨_, Sep.ld0 h31 c1, rfl⟩, trivial⟩
    · exact ⟨rfl, rfl, rfl, trivial⟩
    · exact ⟨⟨_, Sep.ld2 hT c1, rfl⟩, ⟨_, Sep.ld0 h28 c1, rfl⟩, ⟨_, Sep.ld0 h31 c1, rfl⟩, trivial⟩
    · exact ⟨⟨_, Sep.ld2 hT c0, rfl⟩, ⟨_, Sep.ld0 h28 c0, rfl⟩, ⟨_, Sep.ld0 h31 c0, rfl⟩, trivial⟩
end Go.Proofs.YtmgkngdbphkmmaaDoor
