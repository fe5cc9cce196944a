/-
  What functions of this seat's program need (printed by a program, checked by the kernel).
-/
import Derived.Test.YtdkbgjhlpoibdaaNames
import Derived.Test.YtdkbgjhlpoibdaaAs22
namespace Go.Proofs.Ytdkbgjhlpoibdaa
open Go Go.AS Go.RowKit
set_option linter.unusedVariables false
set_option maxRecDepth 100000

/-! crossbarkit_SameInts -/
noncomputable def L_crossbarkit_SameInts_0 : Code := loopAt Go.Proofs.Try.f21 0

theorem vc_crossbarkit_SameInts (x0 : Option Addr) (x0l : Nat) (x1 : Option Addr) (x1l : Nat) (H : Heap) (R : Value → Heap → Prop) :
    (bif (↑x0l : Int) != (↑x1l : Int) then R (Value.bool false) H
 else
  LA en L_crossbarkit_SameInts_0
    [Value.slice x0 x0l 0, Value.slice x1 x1l 0, undef, undef, Value.bool false, Value.int IntKind.i64 0, Value.slice x0 x0l 0, Value.int IntKind.i64 (↑x0l : Int), Value.slice x1 x1l 0,
      Value.int IntKind.i64 (↑x1l : Int), Value.bool false, undef, undef, undef, undef, undef, undef, undef, undef, undef, undef, undef, undef, undef, undef, undef]
    H [(X.exit 0, fun x1 H2 => AS.asBool (List.getD x1 4 undef) fun b3 => R (Value.bool true) H2), (X.ret, fun x4 H5 => AS.asBool (List.getD x4 4 undef) fun b6 => R (Value.bool b6) H5)]) →
    CA Go.Proofs.Ytdkbgjhlpoibdaa.en F.crossbarkit_SameInts [Value.slice x0 x0l 0, Value.slice x1 x1l 0] H R := by
  intro h
  refine wpFn_ok (Z := [[(4, Value.bool false)]]) (fn := Go.Proofs.Try.f21) ?_ ?_ ?_
  · kernel_rfl
  · kernel_rfl
  · apply turnInto h
    kernel_rfl

theorem rule_crossbarkit_SameInts_0 (t0 : Option Addr) (t0l : Nat) (t1 : Option Addr) (t1l : Nat) (t6 : Option Addr) (t6l : Nat) (t7 : Int) (t8 : Option Addr) (t8l : Nat) (t9 : Int) (K0 : Fr → Heap → Prop) (K1 : Fr → Heap → Prop) (I : Nat → Int → Heap → Prop)
    (hstep : ∀ (n : Nat) (t5 : Int) (t4 : Value) (t11 : Value) (t12 : Value) (t13 : Value) (t14 : Value) (t15 : Value) (t16 : Value) (t17 : Value) (t18 : Value) (t19 : Value) (t20 : Value) (t21 : Value) (t22 : Value) (t23 : Value) (t24 : Value) (t25 : Value) (H : Heap), I n t5 H →
    (bif decide (t5 < (↑t0l : Int)) then
  inB t5 t0l ∧
    asRow t0 fun i1 i2 =>
      ∃ n3,
        (H.bump 9).cell i1 (i2 + t5.toNat * 1) = some (Value.int IntKind.i64 n3) ∧
          inB t5 t1l ∧
            asRow t1 fun i4 i5 =>
              ∃ n6,
                (H.bump 9).cell i4 (i5 + t5.toNat * 1) = some (Value.int IntKind.i64 n6) ∧
                  (bif n3 != n6 then
                      K1
                        [Value.slice t0 t0l 0, Value.slice t1 t1l 0, undef, undef, Value.bool false, Value.int IntKind.i64 t5, Value.slice t6 t6l 0, Value.int IntKind.i64 t7, Value.slice t8 t8l 0,
                          Value.int IntKind.i64 t9, Value.bool false, Value.int IntKind.i64 t5, Value.slice t0 t0l 0, Value.int IntKind.i64 (↑t0l : Int), Value.bool true, t15, t16,
                          Value.slice t0 t0l 0, Value.int IntKind.i64 t5, Value.pointer (some { block := i1, off := i2 + t5.toNat * 1 }), Value.int IntKind.i64 n3, Value.slice t1 t1l 0,
                          Value.int IntKind.i64 t5, Value.pointer (some { block := i4, off := i5 + t5.toNat * 1 }), Value.int IntKind.i64 n6, Value.bool true]
                        (H.bump 9)
                    else ∃ i7, i7 < n ∧ I i7 (IntKind.i64.wrap (t5 + 1)) (H.bump 9)) ∧
                    True
 else
  K0
    [Value.slice t0 t0l 0, Value.slice t1 t1l 0, undef, undef, t4, Value.int IntKind.i64 t5, Value.slice t6 t6l 0, Value.int IntKind.i64 t7, Value.slice t8 t8l 0, Value.int IntKind.i64 t9,
      Value.bool false, Value.int IntKind.i64 t5, Value.slice t0 t0l 0, Value.int IntKind.i64 (↑t0l : Int), Value.bool false, t15, t16, t17, t18, t19, t20, t21, t22, t23, t24, t25]
    H)) :
    ∀ (n : Nat) (t5 : Int) (t4 : Value) (t11 : Value) (t12 : Value) (t13 : Value) (t14 : Value) (t15 : Value) (t16 : Value) (t17 : Value) (t18 : Value) (t19 : Value) (t20 : Value) (t21 : Value) (t22 : Value) (t23 : Value) (t24 : Value) (t25 : Value) (H : Heap), I n t5 H →
    LA en L_crossbarkit_SameInts_0
  [Value.slice t0 t0l 0, Value.slice t1 t1l 0, undef, undef, t4, Value.int IntKind.i64 t5, Value.slice t6 t6l 0, Value.int IntKind.i64 t7, Value.slice t8 t8l 0, Value.int IntKind.i64 t9,
    Value.bool false, t11, t12, t13, t14, t15, t16, t17, t18, t19, t20, t21, t22, t23, t24, t25]
  H [(X.exit 0, K0), (X.ret, K1)] := by
  intro n t5 t4 t11 t12 t13 t14 t15 t16 t17 t18 t19 t20 t21 t22 t23 t24 t25 H hI
  refine LA_rule (Z := []) (fun m xs H' => AS.asInt IntKind.i64 (xs.getD 5 undef) fun t5 => I m t5 H') ?_ n H ?_
  · intro n H
    suffices hs : ∀ s11 : Value, ∀ s12 : Value, ∀ s13 : Value, ∀ s14 : Value, ∀ s17 : Value, ∀ s18 : Value, ∀ s19 : Value, ∀ s20 : Value, ∀ s21 : Value, ∀ s22 : Value, ∀ s23 : Value, ∀ s24 : Value, ∀ s25 : Value, ∀ s4 : Value, ∀ s15 : Value, ∀ s16 : Value, ∀ s5 : Value, ((AS.asInt IntKind.i64 s5 fun n1 => I n n1 H) → wpCode en L_crossbarkit_SameInts_0 []
  [Value.slice t0 t0l 0, Value.slice t1 t1l 0, undef, undef, s4, s5, Value.slice t6 t6l 0, Value.int IntKind.i64 t7, Value.slice t8 t8l 0, Value.int IntKind.i64 t9, Value.bool false, s11, s12, s13,
    s14, s15, s16, s17, s18, s19, s20, s21, s22, s23, s24, s25]
  H (loopQ (fun m xs H' => AS.asInt IntKind.i64 (xs.getD 5 undef) fun t5 => I m t5 H') n [(X.exit 0, K0), (X.ret, K1)])) by
      apply turnInto hs
      kernel_rfl
    intro s11 s12 s13 s14 s17 s18 s19 s20 s21 s22 s23 s24 s25 s4 s15 s16 s5 hP
    replace hP := asInt_elim hP
    obtain ⟨t5, rfl, hP⟩ := hP
    apply turnInto (hstep n t5 s4 s11 s12 s13 s14 s15 s16 s17 s18 s19 s20 s21 s22 s23 s24 s25 H hP)
    kernel_rfl
  · apply turnInto hI
    kernel_rfl



/-! crossbarkit_SpoilInts -/
noncomputable def L_crossbarkit_SpoilInts_0 : Code := loopAt Go.Proofs.Try.f25 0

theorem vc_crossbarkit_SpoilInts (x0 : Option Addr) (x0l : Nat) (H : Heap) (R : Value → Heap → Prop) :
    (LA en L_crossbarkit_SpoilInts_0 [Value.slice x0 x0l 0, undef, Value.int IntKind.i64 0, undef, undef, undef, undef, undef, undef, undef, undef, undef, undef, undef, undef] H
  [(X.exit 0, fun x1 H2 => R undef H2)]) →
    CA Go.Proofs.Ytdkbgjhlpoibdaa.en F.crossbarkit_SpoilInts [Value.slice x0 x0l 0] H R := by
  intro h
  refine wpFn_ok (Z := [[]]) (fn := Go.Proofs.Try.f25) ?_ ?_ ?_
  · kernel_rfl
  · kernel_rfl
  · apply turnInto h
    kernel_rfl

theorem rule_crossbarkit_SpoilInts_0 (t0 : Option Addr) (t0l : Nat) (K0 : Fr → Heap → Prop) (I : Nat → Int → Heap → Prop)
    (hstep : ∀ (n : Nat) (t2 : Int) (t3 : Value) (t4 : Value) (t5 : Value) (t6 : Value) (t7 : Value) (t8 : Value) (t9 : Value) (t10 : Value) (t11 : Value) (t12 : Value) (t13 : Value) (t14 : Value) (H : Heap), I n t2 H →
    (bif decide (t2 < (↑t0l : Int)) then
  CA en F.crossbarkit_markInts [Value.int IntKind.i64 (IntKind.i64.wrap (t2 + 7))] H fun v1 H2 =>
    ∃ n3, v1 = Value.int IntKind.i64 n3 ∧ inB t2 t0l ∧ asRow t0 fun i4 i5 => stc H2 i4 (i5 + t2.toNat * 1) [Value.int IntKind.i64 n3] fun H6 => ∃ i7, i7 < n ∧ I i7 (IntKind.i64.wrap (t2 + 1)) H6
 else
  K0 [Value.slice t0 t0l 0, undef, Value.int IntKind.i64 t2, Value.int IntKind.i64 t2, Value.slice t0 t0l 0, Value.int IntKind.i64 (↑t0l : Int), Value.bool false, t7, t8, t9, t10, t11, t12, t13, t14]
    H)) :
    ∀ (n : Nat) (t2 : Int) (t3 : Value) (t4 : Value) (t5 : Value) (t6 : Value) (t7 : Value) (t8 : Value) (t9 : Value) (t10 : Value) (t11 : Value) (t12 : Value) (t13 : Value) (t14 : Value) (H : Heap), I n t2 H →
    LA en L_crossbarkit_SpoilInts_0 [Value.slice t0 t0l 0, undef, Value.int IntKind.i64 t2, t3, t4, t5, t6, t7, t8, t9, t10, t11, t12, t13, t14] H [(X.exit 0, K0)] := by
  intro n t2 t3 t4 t5 t6 t7 t8 t9 t10 t11 t12 t13 t14 H hI
  refine LA_rule (Z := []) (fun m xs H' => AS.asInt IntKind.i64 (xs.getD 2 undef) fun t2 => I m t2 H') ?_ n H ?_
  · intro n H
    suffices hs : ∀ s3 : Value, ∀ s4 : Value, ∀ s5 : Value, ∀ s6 : Value, ∀ s9 : Value, ∀ s10 : Value, ∀ s11 : Value, ∀ s12 : Value, ∀ s13 : Value, ∀ s14 : Value, ∀ s7 : Value, ∀ s8 : Value, ∀ s2 : Value, ((AS.asInt IntKind.i64 s2 fun n1 => I n n1 H) → wpCode en L_crossbarkit_SpoilInts_0 [] [Value.slice t0 t0l 0, undef, s2, s3, s4, s5, s6, s7, s8, s9, s10, s11, s12, s13, s14] H
  (loopQ (fun m xs H' => AS.asInt IntKind.i64 (xs.getD 2 undef) fun t2 => I m t2 H') n [(X.exit 0, K0)])) by
      apply turnInto hs
      kernel_rfl
    intro s3 s4 s5 s6 s9 s10 s11 s12 s13 s14 s7 s8 s2 hP
    replace hP := asInt_elim hP
    obtain ⟨t2, rfl, hP⟩ := hP
    apply turnInto (hstep n t2 s3 s4 s5 s6 s7 s8 s9 s10 s11 s12 s13 s14 H hP)
    kernel_rfl
  · apply turnInto hI
    kernel_rfl



/-! crossbarlaw08_SmemLaws -/

theorem vc_crossbarlaw08_SmemLaws (x0 : Int) (x1 : Int) (x2 : Int) (H : Heap) (R : Value → Heap → Prop) :
    (CA en F.smem_New [Value.int IntKind.i64 2] H fun v1 H2 =>
  ∃ a3,
    v1 = Value.pointer a3 ∧
      bif a3.isNone then R (Value.bool false) H2
      else
        CA en F.smem_Mem_Make [Value.pointer a3, Value.int IntKind.i64 1] H2 fun v4 H5 =>
          ∃ n6 n7,
            v4 = Value.tuple #[Value.int IntKind.i64 n6, Value.int IntKind.i64 n7] ∧
              CA en F.smem_Mem_Store [Value.pointer a3, Value.int IntKind.i64 n6, Value.int IntKind.i64 0, Value.int IntKind.u64 x0] H5 fun v8 H9 =>
                ∃ b10,
                  v8 = Value.bool b10 ∧
                    CA en F.smem_Mem_Load [Value.pointer a3, Value.int IntKind.i64 n6, Value.int IntKind.i64 0] H9 fun v11 H12 =>
                      ∃ n13 b14,
                        v11 = Value.tuple #[Value.int IntKind.u64 n13, Value.bool b14] ∧
                          bif n7 != 0 then R (Value.bool false) H12
                          else
                            bif !b10 then R (Value.bool false) H12
                            else
                              bif !b14 then R (Value.bool false) H12
                              else
                                bif n13 != x0 then R (Value.bool false) H12
                                else
                                  CA en F.smem_Mem_Swap [Value.pointer a3, Value.int IntKind.i64 n6, Value.int IntKind.i64 0, Value.int IntKind.u64 x2, Value.int IntKind.u64 x1] H12 fun v15 H16 =>
                                    ∃ n17 b18,
                                      v15 = Value.tuple #[Value.int IntKind.u64 n17, Value.bool b18] ∧
                                        CA en F.smem_Mem_Load [Value.pointer a3, Value.int IntKind.i64 n6, Value.int IntKind.i64 0] H16 fun v19 H20 =>
                                          ∃ n21 b22,
                                            v19 = Value.tuple #[Value.int IntKind.u64 n21, Value.bool b22] ∧
                                              CA en F.smem_Mem_Swap [Value.pointer a3, Value.int IntKind.i64 n6, Value.int IntKind.i64 0, Value.int IntKind.u64 x2, Value.int IntKind.u64 x0] H20
                                                fun v23 H24 =>
                                                ∃ n25 b26,
                                                  v23 = Value.tuple #[Value.int IntKind.u64 n25, Value.bool b26] ∧
                                                    CA en F.smem_Mem_Load [Value.pointer a3, Value.int IntKind.i64 n6, Value.int IntKind.i64 0] H24 fun v27 H28 =>
                                                      ∃ n29 b30,
                                                        v27 = Value.tuple #[Value.int IntKind.u64 n29, Value.bool b30] ∧
                                                          bif n17 != x0 then R (Value.bool false) H28
                                                          else
                                                            bif
                                                                n21 !=
                                                                  IntKind.u64.wrap
                                                                    (↑(BitVec.ofInt 64 (IntKind.u64.wrap (↑(BitVec.ofInt 64 x0 &&& ~~~BitVec.ofInt 64 x2).toNat : Int)) |||
                                                                            BitVec.ofInt 64 (IntKind.u64.wrap (↑(BitVec.ofInt 64 x1 &&& BitVec.ofInt 64 x2).toNat : Int))).toNat :
                                                                      Int) then
                                                              R (Value.bool false) H28
                                                            else
                                                              bif n25 != n21 then R (Value.bool false) H28
                                                              else
                                                                bif n29 != x0 then R (Value.bool false) H28
                                                                else
                                                                  CA en F.smem_Mem_Cas
                                                                    [Value.pointer a3, Value.int IntKind.i64 n6, Value.int IntKind.i64 0, Value.int IntKind.u64 18446744073709551615,
                                                                      Value.int IntKind.u64 (IntKind.u64.wrap (x0 + 1)), Value.int IntKind.u64 x1]
                                                                    H28 fun v31 H32 =>
                                                                    ∃ n33 b34,
                                                                      v31 = Value.tuple #[Value.int IntKind.u64 n33, Value.bool b34] ∧
                                                                        CA en F.smem_Mem_Load [Value.pointer a3, Value.int IntKind.i64 n6, Value.int IntKind.i64 0] H32 fun v35 H36 =>
                                                                          ∃ n37 b38,
                                                                            v35 = Value.tuple #[Value.int IntKind.u64 n37, Value.bool b38] ∧
                                                                              CA en F.smem_Mem_Cas
                                                                                [Value.pointer a3, Value.int IntKind.i64 n6, Value.int IntKind.i64 0, Value.int IntKind.u64 x2,
                                                                                  Value.int IntKind.u64
                                                                                    (IntKind.u64.wrap
                                                                                      (↑(BitVec.ofInt 64 x0 |||
                                                                                              BitVec.ofInt 64
                                                                                                (IntKind.u64.wrap
                                                                                                  (↑(BitVec.ofInt 64 (if IntKind.u64.signed = true then -1 else IntKind.u64.max) ^^^
                                                                                                          BitVec.ofInt 64 x2).toNat :
                                                                                                    Int))).toNat :
                                                                                        Int)),
                                                                                  Value.int IntKind.u64 x1]
                                                                                H36 fun v39 H40 =>
                                                                                ∃ n41 b42,
                                                                                  v39 = Value.tuple #[Value.int IntKind.u64 n41, Value.bool b42] ∧
                                                                                    CA en F.smem_Mem_Load [Value.pointer a3, Value.int IntKind.i64 n6, Value.int IntKind.i64 0] H40 fun v43 H44 =>
                                                                                      ∃ n45 b46,
                                                                                        v43 = Value.tuple #[Value.int IntKind.u64 n45, Value.bool b46] ∧
                                                                                          bif n33 != x0 then R (Value.bool false) H44
                                                                                          else
                                                                                            bif n37 != x0 then R (Value.bool false) H44
                                                                                            else
                                                                                              bif n41 != x0 then R (Value.bool false) H44
                                                                                              else
                                                                                                bif n45 != n21 then R (Value.bool false) H44
                                                                                                else
                                                                                                  CA en F.smem_Mem_Fetch
                                                                                                    [Value.pointer a3, Value.int IntKind.i64 n6, Value.int IntKind.i64 0, Value.int IntKind.i64 0,
                                                                                                      Value.int IntKind.u64 18446744073709551615, Value.int IntKind.u64 x1]
                                                                                                    H44 fun v47 H48 =>
                                                                                                    ∃ n49 b50,
                                                                                                      v47 = Value.tuple #[Value.int IntKind.u64 n49, Value.bool b50] ∧
                                                                                                        CA en F.smem_Mem_Fetch
                                                                                                          [Value.pointer a3, Value.int IntKind.i64 n6, Value.int IntKind.i64 0, Value.int IntKind.i64 0,
                                                                                                            Value.int IntKind.u64 18446744073709551615,
                                                                                                            Value.int IntKind.u64 (IntKind.u64.wrap (0 - x1))]
                                                                                                          H48 fun v51 H52 =>
                                                                                                          ∃ n53 b54,
                                                                                                            v51 = Value.tuple #[Value.int IntKind.u64 n53, Value.bool b54] ∧
                                                                                                              CA en F.smem_Mem_Load
                                                                                                                [Value.pointer a3, Value.int IntKind.i64 n6, Value.int IntKind.i64 0] H52 fun v55 H56 =>
                                                                                                                ∃ n57 b58,
                                                                                                                  v55 = Value.tuple #[Value.int IntKind.u64 n57, Value.bool b58] ∧
                                                                                                                    CA en F.smem_Mem_Fetch
                                                                                                                      [Value.pointer a3, Value.int IntKind.i64 n6, Value.int IntKind.i64 0,
                                                                                                                        Value.int IntKind.i64 160, Value.int IntKind.u64 x2, Value.int IntKind.u64 x1]
                                                                                                                      H56 fun v59 H60 =>
                                                                                                                      ∃ n61 b62,
                                                                                                                        v59 = Value.tuple #[Value.int IntKind.u64 n61, Value.bool b62] ∧
                                                                                                                          CA en F.smem_Mem_Fetch
                                                                                                                            [Value.pointer a3, Value.int IntKind.i64 n6, Value.int IntKind.i64 0,
                                                                                                                              Value.int IntKind.i64 160, Value.int IntKind.u64 x2,
                                                                                                                              Value.int IntKind.u64 x1]
                                                                                                                            H60 fun v63 H64 =>
                                                                                                                            ∃ n65 b66,
                                                                                                                              v63 = Value.tuple #[Value.int IntKind.u64 n65, Value.bool b66] ∧
                                                                                                                                CA en F.smem_Mem_Load
                                                                                                                                  [Value.pointer a3, Value.int IntKind.i64 n6, Value.int IntKind.i64 0]
                                                                                                                                  H64 fun v67 H68 =>
                                                                                                                                  ∃ n69 b70,
                                                                                                                                    v67 = Value.tuple #[Value.int IntKind.u64 n69, Value.bool b70] ∧
                                                                                                                                      CA en F.smem_Mem_Swap
                                                                                                                                        [Value.pointer a3, Value.int IntKind.i64 n6,
                                                                                                                                          Value.int IntKind.i64 0, Value.int IntKind.u64 0,
                                                                                                                                          Value.int IntKind.u64
                                                                                                                                            (IntKind.u64.wrap
                                                                                                                                              (↑(BitVec.ofInt 64
                                                                                                                                                        (if IntKind.u64.signed = true then -1
                                                                                                                                                        else IntKind.u64.max) ^^^
                                                                                                                                                      BitVec.ofInt 64 n69).toNat :
                                                                                                                                                Int))]
                                                                                                                                        H68 fun v71 H72 =>
                                                                                                                                        ∃ n73 b74,
                                                                                                                                          v71 =
                                                                                                                                              Value.tuple #[Value.int IntKind.u64 n73, Value.bool b74] ∧
                                                                                                                                            CA en F.smem_Mem_Fetch
                                                                                                                                              [Value.pointer a3, Value.int IntKind.i64 n6,
                                                                                                                                                Value.int IntKind.i64 0, Value.int IntKind.i64 64,
                                                                                                                                                Value.int IntKind.u64 0,
                                                                                                                                                Value.int IntKind.u64 18446744073709551615]
                                                                                                                                              H72 fun v75 H76 =>
                                                                                                                                              ∃ n77 b78,
                                                                                                                                                v75 =
                                                                                                                                                    Value.tuple
                                                                                                                                                      #[Value.int IntKind.u64 n77, Value.bool b78] ∧
                                                                                                                                                  CA en F.smem_Mem_Load
                                                                                                                                                    [Value.pointer a3, Value.int IntKind.i64 n6,
                                                                                                                                                      Value.int IntKind.i64 0]
                                                                                                                                                    H76 fun v79 H80 =>
                                                                                                                                                    ∃ n81 b82,
                                                                                                                                                      v79 =
                                                                                                                                                          Value.tuple
                                                                                                                                                            #[Value.int IntKind.u64 n81,
                                                                                                                                                              Value.bool b82] ∧
                                                                                                                                                        bif n57 == n21 then
                                                                                                                                                          bif n69 == n21 then
                                                                                                                                                            bif n81 == n21 then
                                                                                                                                                              CA en F.smem_Mem_Bad [Value.pointer a3]
                                                                                                                                                                H80 fun v83 H84 =>
                                                                                                                                                                ∃ n85,
                                                                                                                                                                  v83 = Value.int IntKind.i64 n85 ∧
                                                                                                                                                                    bif n85 == 0 then
                                                                                                                                                                      CA en F.smem_Mem_Live
                                                                                                                                                                        [Value.pointer a3] H84
                                                                                                                                                                        fun v86 H87 =>
                                                                                                                                                                        ∃ n88,
                                                                                                                                                                          v86 =
                                                                                                                                                                              Value.int IntKind.i64
                                                                                                                                                                                n88 ∧
                                                                                                                                                                            bif n88 == 1 then
                                                                                                                                                                              CA en F.smem_Mem_Room
                                                                                                                                                                                [Value.pointer a3] H87
                                                                                                                                                                                fun v89 H90 =>
                                                                                                                                                                                ∃ n91,
                                                                                                                                                                                  v89 =
                                                                                                                                                                                      Value.int
                                                                                                                                                                                        IntKind.i64
                                                                                                                                                                                        n91 ∧
                                                                                                                                                                                    bif n91 == 1 then
                                                                                                                                                                                      CA en
                                                                                                                                                                                        F.crossbarlaw08_known
                                                                                                                                                                                        [] H90
                                                                                                                                                                                        fun v92 H93 =>
                                                                                                                                                                                        ∃ b94,
                                                                                                                                                                                          v92 =
                                                                                                                                                                                              Value.bool
                                                                                                                                                                                                b94 ∧
                                                                                                                                                                                            R
                                                                                                                                                                                              (Value.bool
                                                                                                                                                                                                b94)
                                                                                                                                                                                              H93
                                                                                                                                                                                    else
                                                                                                                                                                                      R
                                                                                                                                                                                        (Value.bool
                                                                                                                                                                                          false)
                                                                                                                                                                                        H90
                                                                                                                                                                            else
                                                                                                                                                                              R (Value.bool false) H87
                                                                                                                                                                    else R (Value.bool false) H84
                                                                                                                                                            else R (Value.bool false) H80
                                                                                                                                                          else R (Value.bool false) H80
                                                                                                                                                        else R (Value.bool false) H80) →
    CA Go.Proofs.Ytdkbgjhlpoibdaa.en F.crossbarlaw08_SmemLaws [Value.int IntKind.u64 x0, Value.int IntKind.u64 x1, Value.int IntKind.u64 x2] H R := by
  intro h
  refine wpFn_ok (Z := []) (fn := Go.Proofs.Try.f7) ?_ ?_ ?_
  · kernel_rfl
  · kernel_rfl
  · apply turnInto h
    kernel_rfl



/-! smem_New -/

theorem vc_smem_New (x0 : Int) (H : Heap) (R : Value → Heap → Prop) :
    (R (Value.pointer (some { block := (H.new (AS.Obj.map [] 0)).next, off := 0 }))
  ((H.new (AS.Obj.map [] 0)).new
    (AS.Obj.cells true 0
      [Value.map (some H.next), Value.int IntKind.i64 0, Value.int IntKind.i64 (if (if 65536 < x0 then 65536 else x0) > 0 then if 65536 < x0 then 65536 else x0 else 0), Value.int IntKind.i64 0,
        Value.int IntKind.i64 0]))) →
    CA Go.Proofs.Ytdkbgjhlpoibdaa.en F.smem_New [Value.int IntKind.i64 x0] H R := by
  intro h
  refine wpFn_ok (Z := []) (fn := Go.Proofs.Try.f29) ?_ ?_ ?_
  · kernel_rfl
  · kernel_rfl
  · apply turnInto h
    kernel_rfl



/-! smem_Mem_Make -/

theorem vc_smem_Mem_Make (x0 : Option Addr) (x1 : Int) (H : Heap) (R : Value → Heap → Prop) :
    (bif decide (x1 < 1) then R (Value.tuple #[Value.int IntKind.i64 0, Value.int IntKind.i64 1]) H
 else
  bif decide (x1 > 65536) then R (Value.tuple #[Value.int IntKind.i64 0, Value.int IntKind.i64 1]) H
  else
    AS.asAddr (Value.pointer x0) fun i1 i2 =>
      ∃ n3,
        H.cell i1 (i2 + 2) = some (Value.int IntKind.i64 n3) ∧
          bif decide (x1 > n3) then R (Value.tuple #[Value.int IntKind.i64 0, Value.int IntKind.i64 5]) H
          else
            AS.asAddr (Value.pointer x0) fun i4 i5 =>
              ∃ n6,
                H.cell i4 (i5 + 1) = some (Value.int IntKind.i64 n6) ∧
                  AS.asAddr (Value.pointer x0) fun i7 i8 =>
                    stc H i7 (i8 + 1) [Value.int IntKind.i64 (IntKind.i64.wrap (n6 + 1))] fun H9 =>
                      AS.asAddr (Value.pointer x0) fun i10 i11 =>
                        ∃ n12,
                          H9.cell i10 (i11 + 2) = some (Value.int IntKind.i64 n12) ∧
                            AS.asAddr (Value.pointer x0) fun i13 i14 =>
                              stc H9 i13 (i14 + 2) [Value.int IntKind.i64 (IntKind.i64.wrap (n12 - x1))] fun H15 =>
                                AS.asAddr (Value.pointer x0) fun i16 i17 =>
                                  ∃ m18,
                                    (H15.bump 11).cell i16 i17 = some (Value.map m18) ∧
                                      AS.asAddr (Value.pointer x0) fun i19 i20 =>
                                        ∃ n21,
                                          (H15.bump 11).cell i19 (i20 + 1) = some (Value.int IntKind.i64 n21) ∧
                                            okLen 8 x1 x1 ∧
                                              upM ((H15.bump 11).new (AS.Obj.cells true 1 (reps x1.toNat [Value.int IntKind.u64 0]))) (TypeDesc.int IntKind.i64) m18 (Value.int IntKind.i64 n21)
                                                (Value.slice (some { block := (H15.bump 11).next, off := 0 }) x1.toNat 0) fun H22 =>
                                                (AS.asAddr (Value.pointer x0) fun i23 i24 =>
                                                    ∃ n25, H22.cell i23 (i24 + 1) = some (Value.int IntKind.i64 n25) ∧ R (Value.tuple #[Value.int IntKind.i64 n25, Value.int IntKind.i64 0]) H22) ∧
                                                  ((∃ n27, (H15.bump 11).cell i19 (i20 + 1) = some (Value.int IntKind.i64 n27) ∧ n21 = n27) ∧
                                                      (∃ n26,
                                                          ((H15.bump 11).new (AS.Obj.cells true 1 (reps x1.toNat [Value.int IntKind.u64 0]))).cell i19 (i20 + 1) = some (Value.int IntKind.i64 n26) ∧
                                                            n21 = n26) ∧
                                                        True) ∧
                                                    ((∃ m29, (H15.bump 11).cell i16 i17 = some (Value.map m29) ∧ m18 = m29) ∧
                                                        (∃ m28, ((H15.bump 11).new (AS.Obj.cells true 1 (reps x1.toNat [Value.int IntKind.u64 0]))).cell i16 i17 = some (Value.map m28) ∧ m18 = m28) ∧
                                                          True) ∧
                                                      True) →
    CA Go.Proofs.Ytdkbgjhlpoibdaa.en F.smem_Mem_Make [Value.pointer x0, Value.int IntKind.i64 x1] H R := by
  intro h
  refine wpFn_ok (Z := []) (fn := Go.Proofs.Try.f30) ?_ ?_ ?_
  · kernel_rfl
  · kernel_rfl
  · apply turnInto h
    kernel_rfl



/-! smem_Mem_Store -/

theorem vc_smem_Mem_Store (x0 : Option Addr) (x1 : Int) (x2 : Int) (x3 : Int) (H : Heap) (R : Value → Heap → Prop) :
    (CA en F.smem_Mem_Mask [Value.pointer x0, Value.int IntKind.i64 x1, Value.int IntKind.i64 x2, Value.int IntKind.u64 18446744073709551615, Value.int IntKind.u64 x3] H fun v1 H2 =>
  ∃ b3, v1 = Value.bool b3 ∧ R (Value.bool b3) H2) →
    CA Go.Proofs.Ytdkbgjhlpoibdaa.en F.smem_Mem_Store [Value.pointer x0, Value.int IntKind.i64 x1, Value.int IntKind.i64 x2, Value.int IntKind.u64 x3] H R := by
  intro h
  refine wpFn_ok (Z := []) (fn := Go.Proofs.Try.f31) ?_ ?_ ?_
  · kernel_rfl
  · kernel_rfl
  · apply turnInto h
    kernel_rfl



/-! smem_Mem_Load -/

theorem vc_smem_Mem_Load (x0 : Option Addr) (x1 : Int) (x2 : Int) (H : Heap) (R : Value → Heap → Prop) :
    (CA en F.smem_Mem_access [Value.pointer x0, Value.int IntKind.i64 x1, Value.int IntKind.i64 x2, Value.bool true, Value.func (Fn.func F.smem_Mem_Load_1) #[] #[]] H fun v1 H2 =>
  ∃ n3 b4, v1 = Value.tuple #[Value.int IntKind.u64 n3, Value.bool b4] ∧ R (Value.tuple #[Value.int IntKind.u64 n3, Value.bool b4]) H2) →
    CA Go.Proofs.Ytdkbgjhlpoibdaa.en F.smem_Mem_Load [Value.pointer x0, Value.int IntKind.i64 x1, Value.int IntKind.i64 x2] H R := by
  intro h
  refine wpFn_ok (Z := []) (fn := Go.Proofs.Try.f32) ?_ ?_ ?_
  · kernel_rfl
  · kernel_rfl
  · apply turnInto h
    kernel_rfl



/-! smem_Mem_Swap -/

theorem vc_smem_Mem_Swap (x0 : Option Addr) (x1 : Int) (x2 : Int) (x3 : Int) (x4 : Int) (H : Heap) (R : Value → Heap → Prop) :
    (CA en F.smem_Mem_access
  [Value.pointer x0, Value.int IntKind.i64 x1, Value.int IntKind.i64 x2, Value.bool true,
    Value.func (Fn.func F.smem_Mem_Swap_1) #[]
      #[Value.pointer (some { block := H.next, off := 0 }), Value.pointer (some { block := (H.new (AS.Obj.cells true 0 [Value.int IntKind.u64 x3])).next, off := 0 })]]
  ((H.new (AS.Obj.cells true 0 [Value.int IntKind.u64 x3])).new (AS.Obj.cells true 0 [Value.int IntKind.u64 x4])) fun v1 H2 =>
  ∃ n3 b4, v1 = Value.tuple #[Value.int IntKind.u64 n3, Value.bool b4] ∧ R (Value.tuple #[Value.int IntKind.u64 n3, Value.bool b4]) H2) →
    CA Go.Proofs.Ytdkbgjhlpoibdaa.en F.smem_Mem_Swap [Value.pointer x0, Value.int IntKind.i64 x1, Value.int IntKind.i64 x2, Value.int IntKind.u64 x3, Value.int IntKind.u64 x4] H R := by
  intro h
  refine wpFn_ok (Z := []) (fn := Go.Proofs.Try.f33) ?_ ?_ ?_
  · kernel_rfl
  · kernel_rfl
  · apply turnInto h
    kernel_rfl



/-! smem_Mem_Cas -/

theorem vc_smem_Mem_Cas (x0 : Option Addr) (x1 : Int) (x2 : Int) (x3 : Int) (x4 : Int) (x5 : Int) (H : Heap) (R : Value → Heap → Prop) :
    (CA en F.smem_Mem_access
  [Value.pointer x0, Value.int IntKind.i64 x1, Value.int IntKind.i64 x2, Value.bool true,
    Value.func (Fn.func F.smem_Mem_Cas_1) #[]
      #[Value.pointer (some { block := (H.new (AS.Obj.cells true 0 [Value.int IntKind.u64 x3])).next, off := 0 }), Value.pointer (some { block := H.next, off := 0 }),
        Value.pointer (some { block := ((H.new (AS.Obj.cells true 0 [Value.int IntKind.u64 x3])).new (AS.Obj.cells true 0 [Value.int IntKind.u64 x4])).next, off := 0 })]]
  (((H.new (AS.Obj.cells true 0 [Value.int IntKind.u64 x3])).new (AS.Obj.cells true 0 [Value.int IntKind.u64 x4])).new (AS.Obj.cells true 0 [Value.int IntKind.u64 x5])) fun v1 H2 =>
  ∃ n3 b4, v1 = Value.tuple #[Value.int IntKind.u64 n3, Value.bool b4] ∧ R (Value.tuple #[Value.int IntKind.u64 n3, Value.bool b4]) H2) →
    CA Go.Proofs.Ytdkbgjhlpoibdaa.en F.smem_Mem_Cas [Value.pointer x0, Value.int IntKind.i64 x1, Value.int IntKind.i64 x2, Value.int IntKind.u64 x3, Value.int IntKind.u64 x4, Value.int IntKind.u64 x5] H R := by
  intro h
  refine wpFn_ok (Z := []) (fn := Go.Proofs.Try.f34) ?_ ?_ ?_
  · kernel_rfl
  · kernel_rfl
  · apply turnInto h
    kernel_rfl



/-! smem_Mem_Fetch -/

theorem vc_smem_Mem_Fetch (x0 : Option Addr) (x1 : Int) (x2 : Int) (x3 : Int) (x4 : Int) (x5 : Int) (H : Heap) (R : Value → Heap → Prop) :
    (∃ n1,
  (((H.new (AS.Obj.cells true 0 [Value.int IntKind.i64 x3])).new (AS.Obj.cells true 0 [Value.int IntKind.u64 x4])).new (AS.Obj.cells true 0 [Value.int IntKind.u64 x5])).cell H.next 0 =
      some (Value.int IntKind.i64 n1) ∧
    bif n1 == 0 then
      CA en F.smem_Mem_access
        [Value.pointer x0, Value.int IntKind.i64 x1, Value.int IntKind.i64 x2, Value.bool true,
          Value.func (Fn.func F.smem_Mem_Fetch_1) #[]
            #[Value.pointer (some { block := H.next, off := 0 }), Value.pointer (some { block := (H.new (AS.Obj.cells true 0 [Value.int IntKind.i64 x3])).next, off := 0 }),
              Value.pointer (some { block := ((H.new (AS.Obj.cells true 0 [Value.int IntKind.i64 x3])).new (AS.Obj.cells true 0 [Value.int IntKind.u64 x4])).next, off := 0 })]]
        (((H.new (AS.Obj.cells true 0 [Value.int IntKind.i64 x3])).new (AS.Obj.cells true 0 [Value.int IntKind.u64 x4])).new (AS.Obj.cells true 0 [Value.int IntKind.u64 x5])) fun v2 H3 =>
        ∃ n4 b5, v2 = Value.tuple #[Value.int IntKind.u64 n4, Value.bool b5] ∧ R (Value.tuple #[Value.int IntKind.u64 n4, Value.bool b5]) H3
    else
      ∃ n6,
        (((H.new (AS.Obj.cells true 0 [Value.int IntKind.i64 x3])).new (AS.Obj.cells true 0 [Value.int IntKind.u64 x4])).new (AS.Obj.cells true 0 [Value.int IntKind.u64 x5])).cell H.next 0 =
            some (Value.int IntKind.i64 n6) ∧
          bif n6 == 80 then
            CA en F.smem_Mem_access
              [Value.pointer x0, Value.int IntKind.i64 x1, Value.int IntKind.i64 x2, Value.bool true,
                Value.func (Fn.func F.smem_Mem_Fetch_1) #[]
                  #[Value.pointer (some { block := H.next, off := 0 }), Value.pointer (some { block := (H.new (AS.Obj.cells true 0 [Value.int IntKind.i64 x3])).next, off := 0 }),
                    Value.pointer (some { block := ((H.new (AS.Obj.cells true 0 [Value.int IntKind.i64 x3])).new (AS.Obj.cells true 0 [Value.int IntKind.u64 x4])).next, off := 0 })]]
              (((H.new (AS.Obj.cells true 0 [Value.int IntKind.i64 x3])).new (AS.Obj.cells true 0 [Value.int IntKind.u64 x4])).new (AS.Obj.cells true 0 [Value.int IntKind.u64 x5])) fun v7 H8 =>
              ∃ n9 b10, v7 = Value.tuple #[Value.int IntKind.u64 n9, Value.bool b10] ∧ R (Value.tuple #[Value.int IntKind.u64 n9, Value.bool b10]) H8
          else
            ∃ n11,
              (((H.new (AS.Obj.cells true 0 [Value.int IntKind.i64 x3])).new (AS.Obj.cells true 0 [Value.int IntKind.u64 x4])).new (AS.Obj.cells true 0 [Value.int IntKind.u64 x5])).cell H.next 0 =
                  some (Value.int IntKind.i64 n11) ∧
                bif n11 == 64 then
                  CA en F.smem_Mem_access
                    [Value.pointer x0, Value.int IntKind.i64 x1, Value.int IntKind.i64 x2, Value.bool true,
                      Value.func (Fn.func F.smem_Mem_Fetch_1) #[]
                        #[Value.pointer (some { block := H.next, off := 0 }), Value.pointer (some { block := (H.new (AS.Obj.cells true 0 [Value.int IntKind.i64 x3])).next, off := 0 }),
                          Value.pointer (some { block := ((H.new (AS.Obj.cells true 0 [Value.int IntKind.i64 x3])).new (AS.Obj.cells true 0 [Value.int IntKind.u64 x4])).next, off := 0 })]]
                    (((H.new (AS.Obj.cells true 0 [Value.int IntKind.i64 x3])).new (AS.Obj.cells true 0 [Value.int IntKind.u64 x4])).new (AS.Obj.cells true 0 [Value.int IntKind.u64 x5]))
                    fun v12 H13 => ∃ n14 b15, v12 = Value.tuple #[Value.int IntKind.u64 n14, Value.bool b15] ∧ R (Value.tuple #[Value.int IntKind.u64 n14, Value.bool b15]) H13
                else
                  ∃ n16,
                    (((H.new (AS.Obj.cells true 0 [Value.int IntKind.i64 x3])).new (AS.Obj.cells true 0 [Value.int IntKind.u64 x4])).new (AS.Obj.cells true 0 [Value.int IntKind.u64 x5])).cell H.next
                          0 =
                        some (Value.int IntKind.i64 n16) ∧
                      CA en F.smem_Mem_access
                        [Value.pointer x0, Value.int IntKind.i64 x1, Value.int IntKind.i64 x2, Value.bool (n16 == 160),
                          Value.func (Fn.func F.smem_Mem_Fetch_1) #[]
                            #[Value.pointer (some { block := H.next, off := 0 }), Value.pointer (some { block := (H.new (AS.Obj.cells true 0 [Value.int IntKind.i64 x3])).next, off := 0 }),
                              Value.pointer (some { block := ((H.new (AS.Obj.cells true 0 [Value.int IntKind.i64 x3])).new (AS.Obj.cells true 0 [Value.int IntKind.u64 x4])).next, off := 0 })]]
                        (((H.new (AS.Obj.cells true 0 [Value.int IntKind.i64 x3])).new (AS.Obj.cells true 0 [Value.int IntKind.u64 x4])).new (AS.Obj.cells true 0 [Value.int IntKind.u64 x5]))
                        fun v17 H18 => ∃ n19 b20, v17 = Value.tuple #[Value.int IntKind.u64 n19, Value.bool b20] ∧ R (Value.tuple #[Value.int IntKind.u64 n19, Value.bool b20]) H18) →
    CA Go.Proofs.Ytdkbgjhlpoibdaa.en F.smem_Mem_Fetch [Value.pointer x0, Value.int IntKind.i64 x1, Value.int IntKind.i64 x2, Value.int IntKind.i64 x3, Value.int IntKind.u64 x4, Value.int IntKind.u64 x5] H R := by
  intro h
  refine wpFn_ok (Z := []) (fn := Go.Proofs.Try.f35) ?_ ?_ ?_
  · kernel_rfl
  · kernel_rfl
  · apply turnInto h
    kernel_rfl



/-! smem_Mem_Bad -/

theorem vc_smem_Mem_Bad (x0 : Option Addr) (H : Heap) (R : Value → Heap → Prop) :
    (AS.asAddr (Value.pointer x0) fun i1 i2 => ∃ n3, H.cell i1 (i2 + 4) = some (Value.int IntKind.i64 n3) ∧ R (Value.int IntKind.i64 n3) H) →
    CA Go.Proofs.Ytdkbgjhlpoibdaa.en F.smem_Mem_Bad [Value.pointer x0] H R := by
  intro h
  refine wpFn_ok (Z := []) (fn := Go.Proofs.Try.f36) ?_ ?_ ?_
  · kernel_rfl
  · kernel_rfl
  · apply turnInto h
    kernel_rfl



/-! smem_Mem_Live -/

theorem vc_smem_Mem_Live (x0 : Option Addr) (H : Heap) (R : Value → Heap → Prop) :
    (AS.asAddr (Value.pointer x0) fun i1 i2 => ∃ m3, H.cell i1 i2 = some (Value.map m3) ∧ lnM H m3 fun n4 => R (Value.int IntKind.i64 n4) H) →
    CA Go.Proofs.Ytdkbgjhlpoibdaa.en F.smem_Mem_Live [Value.pointer x0] H R := by
  intro h
  refine wpFn_ok (Z := []) (fn := Go.Proofs.Try.f37) ?_ ?_ ?_
  · kernel_rfl
  · kernel_rfl
  · apply turnInto h
    kernel_rfl



/-! smem_Mem_Room -/

theorem vc_smem_Mem_Room (x0 : Option Addr) (H : Heap) (R : Value → Heap → Prop) :
    (AS.asAddr (Value.pointer x0) fun i1 i2 => ∃ n3, H.cell i1 (i2 + 2) = some (Value.int IntKind.i64 n3) ∧ R (Value.int IntKind.i64 n3) H) →
    CA Go.Proofs.Ytdkbgjhlpoibdaa.en F.smem_Mem_Room [Value.pointer x0] H R := by
  intro h
  refine wpFn_ok (Z := []) (fn := Go.Proofs.Try.f38) ?_ ?_ ?_
  · kernel_rfl
  · kernel_rfl
  · apply turnInto h
    kernel_rfl



/-! smem_Mem_Count -/

theorem vc_smem_Mem_Count (x0 : Option Addr) (H : Heap) (R : Value → Heap → Prop) :
    (AS.asAddr (Value.pointer x0) fun i1 i2 => ∃ n3, H.cell i1 (i2 + 3) = some (Value.int IntKind.i64 n3) ∧ R (Value.int IntKind.i64 n3) H) →
    CA Go.Proofs.Ytdkbgjhlpoibdaa.en F.smem_Mem_Count [Value.pointer x0] H R := by
  intro h
  refine wpFn_ok (Z := []) (fn := Go.Proofs.Try.f44) ?_ ?_ ?_
  · kernel_rfl
  · kernel_rfl
  · apply turnInto h
    kernel_rfl



/-! smem_Mem_Size -/

theorem vc_smem_Mem_Size (x0 : Option Addr) (x1 : Int) (H : Heap) (R : Value → Heap → Prop) :
    (AS.asAddr (Value.pointer x0) fun i1 i2 =>
  ∃ m3,
    H.cell i1 i2 = some (Value.map m3) ∧
      ∃ r4, mapGet H (TypeDesc.int IntKind.i64) m3 (Value.int IntKind.i64 x1) = some r4 ∧ ∃ a5 i6, got r4 (Value.slice none 0 0) (Value.slice a5 i6 0) ∧ R (Value.int IntKind.i64 (↑i6 : Int)) H) →
    CA Go.Proofs.Ytdkbgjhlpoibdaa.en F.smem_Mem_Size [Value.pointer x0, Value.int IntKind.i64 x1] H R := by
  intro h
  refine wpFn_ok (Z := []) (fn := Go.Proofs.Try.f19) ?_ ?_ ?_
  · kernel_rfl
  · kernel_rfl
  · apply turnInto h
    kernel_rfl



/-! smem_Mem_Free -/

theorem vc_smem_Mem_Free (x0 : Option Addr) (x1 : Int) (H : Heap) (R : Value → Heap → Prop) :
    (AS.asAddr (Value.pointer x0) fun i1 i2 =>
  ∃ m3,
    H.cell i1 i2 = some (Value.map m3) ∧
      ∃ r4,
        mapGet H (TypeDesc.int IntKind.i64) m3 (Value.int IntKind.i64 x1) = some r4 ∧
          ∃ a5 i6,
            got r4 (Value.slice none 0 0) (Value.slice a5 i6 0) ∧
              AS.asAddr (Value.pointer x0) fun i7 i8 =>
                ∃ n9,
                  H.cell i7 (i8 + 2) = some (Value.int IntKind.i64 n9) ∧
                    AS.asAddr (Value.pointer x0) fun i10 i11 =>
                      stc H i10 (i11 + 2) [Value.int IntKind.i64 (IntKind.i64.wrap (n9 + (↑i6 : Int)))] fun H12 =>
                        AS.asAddr (Value.pointer x0) fun i13 i14 =>
                          ∃ m15, H12.cell i13 i14 = some (Value.map m15) ∧ dlM H12 (TypeDesc.int IntKind.i64) m15 (Value.int IntKind.i64 x1) fun H16 => R (Value.bool r4.isSome) H16) →
    CA Go.Proofs.Ytdkbgjhlpoibdaa.en F.smem_Mem_Free [Value.pointer x0, Value.int IntKind.i64 x1] H R := by
  intro h
  refine wpFn_ok (Z := []) (fn := Go.Proofs.Try.f43) ?_ ?_ ?_
  · kernel_rfl
  · kernel_rfl
  · apply turnInto h
    kernel_rfl



/-! smem_Mem_Mask -/

theorem vc_smem_Mem_Mask (x0 : Option Addr) (x1 : Int) (x2 : Int) (x3 : Int) (x4 : Int) (H : Heap) (R : Value → Heap → Prop) :
    (CA en F.smem_Mem_Swap [Value.pointer x0, Value.int IntKind.i64 x1, Value.int IntKind.i64 x2, Value.int IntKind.u64 x3, Value.int IntKind.u64 x4] H fun v1 H2 =>
  ∃ n3 b4, v1 = Value.tuple #[Value.int IntKind.u64 n3, Value.bool b4] ∧ R (Value.bool b4) H2) →
    CA Go.Proofs.Ytdkbgjhlpoibdaa.en F.smem_Mem_Mask [Value.pointer x0, Value.int IntKind.i64 x1, Value.int IntKind.i64 x2, Value.int IntKind.u64 x3, Value.int IntKind.u64 x4] H R := by
  intro h
  refine wpFn_ok (Z := []) (fn := Go.Proofs.Try.f59) ?_ ?_ ?_
  · kernel_rfl
  · kernel_rfl
  · apply turnInto h
    kernel_rfl



/-! smem_Mem_access -/

theorem vc_smem_Mem_access (x0 : Option Addr) (x1 : Int) (x2 : Int) (x3 : Bool) (x4 : Value) (H : Heap) (R : Value → Heap → Prop) :
    (AS.asAddr (Value.pointer x0) fun i1 i2 =>
  ∃ n3,
    H.cell i1 (i2 + 3) = some (Value.int IntKind.i64 n3) ∧
      AS.asAddr (Value.pointer x0) fun i4 i5 =>
        stc H i4 (i5 + 3) [Value.int IntKind.i64 (IntKind.i64.wrap (n3 + 1))] fun H6 =>
          AS.asAddr (Value.pointer x0) fun i7 i8 =>
            ∃ m9,
              H6.cell i7 i8 = some (Value.map m9) ∧
                ∃ r10,
                  mapGet H6 (TypeDesc.int IntKind.i64) m9 (Value.int IntKind.i64 x1) = some r10 ∧
                    ∃ a11 i12,
                      got r10 (Value.slice none 0 0) (Value.slice a11 i12 0) ∧
                        bif !x3 then
                          AS.asAddr (Value.pointer x0) fun i13 i14 =>
                            ∃ n15,
                              H6.cell i13 (i14 + 4) = some (Value.int IntKind.i64 n15) ∧
                                AS.asAddr (Value.pointer x0) fun i16 i17 =>
                                  stc H6 i16 (i17 + 4) [Value.int IntKind.i64 (IntKind.i64.wrap (n15 + 1))] fun H18 => R (Value.tuple #[Value.int IntKind.u64 0, Value.bool false]) H18
                        else
                          bif decide (x2 < 0) then
                            AS.asAddr (Value.pointer x0) fun i19 i20 =>
                              ∃ n21,
                                H6.cell i19 (i20 + 4) = some (Value.int IntKind.i64 n21) ∧
                                  AS.asAddr (Value.pointer x0) fun i22 i23 =>
                                    stc H6 i22 (i23 + 4) [Value.int IntKind.i64 (IntKind.i64.wrap (n21 + 1))] fun H24 => R (Value.tuple #[Value.int IntKind.u64 0, Value.bool false]) H24
                          else
                            bif decide (x2 ≥ (↑i12 : Int)) then
                              AS.asAddr (Value.pointer x0) fun i25 i26 =>
                                ∃ n27,
                                  H6.cell i25 (i26 + 4) = some (Value.int IntKind.i64 n27) ∧
                                    AS.asAddr (Value.pointer x0) fun i28 i29 =>
                                      stc H6 i28 (i29 + 4) [Value.int IntKind.i64 (IntKind.i64.wrap (n27 + 1))] fun H30 => R (Value.tuple #[Value.int IntKind.u64 0, Value.bool false]) H30
                            else
                              inB x2 i12 ∧
                                asRow a11 fun i31 i32 =>
                                  ∃ n33,
                                    H6.cell i31 (i32 + x2.toNat * 1) = some (Value.int IntKind.u64 n33) ∧
                                      asFn x4 fun x34 l35 l36 =>
                                        (∃ x37, en.fn x34 = some x37) ∧
                                          CA en x34 (l35 ++ [Value.int IntKind.u64 n33] ++ l36) H6 fun v38 H39 =>
                                            ∃ n40,
                                              v38 = Value.int IntKind.u64 n40 ∧
                                                inB x2 i12 ∧
                                                  asRow a11 fun i41 i42 =>
                                                    stc H39 i41 (i42 + x2.toNat * 1) [Value.int IntKind.u64 n40] fun H43 => R (Value.tuple #[Value.int IntKind.u64 n33, Value.bool true]) H43) →
    CA Go.Proofs.Ytdkbgjhlpoibdaa.en F.smem_Mem_access [Value.pointer x0, Value.int IntKind.i64 x1, Value.int IntKind.i64 x2, Value.bool x3, x4] H R := by
  intro h
  refine wpFn_ok (Z := []) (fn := Go.Proofs.Try.f60) ?_ ?_ ?_
  · kernel_rfl
  · kernel_rfl
  · apply turnInto h
    kernel_rfl



/-! smem_Mem_Load_1 -/

theorem vc_smem_Mem_Load_1 (x0 : Int) (H : Heap) (R : Value → Heap → Prop) :
    (R (Value.int IntKind.u64 x0) H) →
    CA Go.Proofs.Ytdkbgjhlpoibdaa.en F.smem_Mem_Load_1 [Value.int IntKind.u64 x0] H R := by
  intro h
  refine wpFn_ok (Z := []) (fn := Go.Proofs.Try.f61) ?_ ?_ ?_
  · kernel_rfl
  · kernel_rfl
  · apply turnInto h
    kernel_rfl



/-! smem_Mem_Swap_1 -/

theorem vc_smem_Mem_Swap_1 (x0 : Int) (c0 : Option Addr) (c1 : Option Addr) (H : Heap) (R : Value → Heap → Prop) :
    (AS.asAddr (Value.pointer c0) fun i1 i2 =>
  ∃ n3,
    H.cell i1 i2 = some (Value.int IntKind.u64 n3) ∧
      AS.asAddr (Value.pointer c1) fun i4 i5 =>
        ∃ n6,
          H.cell i4 i5 = some (Value.int IntKind.u64 n6) ∧
            CA en F.smem_under [Value.int IntKind.u64 x0, Value.int IntKind.u64 n3, Value.int IntKind.u64 n6] H fun v7 H8 => ∃ n9, v7 = Value.int IntKind.u64 n9 ∧ R (Value.int IntKind.u64 n9) H8) →
    CA Go.Proofs.Ytdkbgjhlpoibdaa.en F.smem_Mem_Swap_1 [Value.int IntKind.u64 x0, Value.pointer c0, Value.pointer c1] H R := by
  intro h
  refine wpFn_ok (Z := []) (fn := Go.Proofs.Try.f62) ?_ ?_ ?_
  · kernel_rfl
  · kernel_rfl
  · apply turnInto h
    kernel_rfl



/-! smem_under -/

theorem vc_smem_under (x0 : Int) (x1 : Int) (x2 : Int) (H : Heap) (R : Value → Heap → Prop) :
    (R
  (Value.int IntKind.u64
    (IntKind.u64.wrap
      (↑(BitVec.ofInt 64 (IntKind.u64.wrap (↑(BitVec.ofInt 64 x0 &&& ~~~BitVec.ofInt 64 x1).toNat : Int)) |||
              BitVec.ofInt 64 (IntKind.u64.wrap (↑(BitVec.ofInt 64 x2 &&& BitVec.ofInt 64 x1).toNat : Int))).toNat :
        Int)))
  H) →
    CA Go.Proofs.Ytdkbgjhlpoibdaa.en F.smem_under [Value.int IntKind.u64 x0, Value.int IntKind.u64 x1, Value.int IntKind.u64 x2] H R := by
  intro h
  refine wpFn_ok (Z := []) (fn := Go.Proofs.Try.f63) ?_ ?_ ?_
  · kernel_rfl
  · kernel_rfl
  · apply turnInto h
    kernel_rfl



/-! smem_Mem_Cas_1 -/

theorem vc_smem_Mem_Cas_1 (x0 : Int) (c0 : Option Addr) (c1 : Option Addr) (c2 : Option Addr) (H : Heap) (R : Value → Heap → Prop) :
    (AS.asAddr (Value.pointer c0) fun i1 i2 =>
  ∃ n3,
    H.cell i1 i2 = some (Value.int IntKind.u64 n3) ∧
      AS.asAddr (Value.pointer c1) fun i4 i5 =>
        ∃ n6,
          H.cell i4 i5 = some (Value.int IntKind.u64 n6) ∧
            bif IntKind.u64.wrap (↑(BitVec.ofInt 64 (IntKind.u64.wrap (↑(BitVec.ofInt 64 x0 ^^^ BitVec.ofInt 64 n3).toNat : Int)) &&& BitVec.ofInt 64 n6).toNat : Int) != 0 then
              R (Value.int IntKind.u64 x0) H
            else
              AS.asAddr (Value.pointer c1) fun i7 i8 =>
                ∃ n9,
                  H.cell i7 i8 = some (Value.int IntKind.u64 n9) ∧
                    AS.asAddr (Value.pointer c2) fun i10 i11 =>
                      ∃ n12,
                        H.cell i10 i11 = some (Value.int IntKind.u64 n12) ∧
                          CA en F.smem_under [Value.int IntKind.u64 x0, Value.int IntKind.u64 n9, Value.int IntKind.u64 n12] H fun v13 H14 =>
                            ∃ n15, v13 = Value.int IntKind.u64 n15 ∧ R (Value.int IntKind.u64 n15) H14) →
    CA Go.Proofs.Ytdkbgjhlpoibdaa.en F.smem_Mem_Cas_1 [Value.int IntKind.u64 x0, Value.pointer c0, Value.pointer c1, Value.pointer c2] H R := by
  intro h
  refine wpFn_ok (Z := []) (fn := Go.Proofs.Try.f64) ?_ ?_ ?_
  · kernel_rfl
  · kernel_rfl
  · apply turnInto h
    kernel_rfl



/-! smem_Mem_Fetch_1 -/

theorem vc_smem_Mem_Fetch_1 (x0 : Int) (c0 : Option Addr) (c1 : Option Addr) (c2 : Option Addr) (H : Heap) (R : Value → Heap → Prop) :
    (AS.asAddr (Value.pointer c0) fun i1 i2 =>
  ∃ n3,
    H.cell i1 i2 = some (Value.int IntKind.i64 n3) ∧
      AS.asAddr (Value.pointer c1) fun i4 i5 =>
        ∃ n6,
          H.cell i4 i5 = some (Value.int IntKind.u64 n6) ∧
            AS.asAddr (Value.pointer c2) fun i7 i8 =>
              ∃ n9,
                H.cell i7 i8 = some (Value.int IntKind.u64 n9) ∧
                  AS.asAddr (Value.pointer c1) fun i10 i11 =>
                    ∃ n12,
                      H.cell i10 i11 = some (Value.int IntKind.u64 n12) ∧
                        CA en F.word_Alu
                          [Value.int IntKind.i64 n3, Value.bool true, Value.int IntKind.u64 (IntKind.u64.wrap (↑(BitVec.ofInt 64 x0 &&& BitVec.ofInt 64 n6).toNat : Int)),
                            Value.int IntKind.u64 (IntKind.u64.wrap (↑(BitVec.ofInt 64 n9 &&& BitVec.ofInt 64 n12).toNat : Int))]
                          H fun v13 H14 =>
                          ∃ n15 b16,
                            v13 = Value.tuple #[Value.int IntKind.u64 n15, Value.bool b16] ∧
                              AS.asAddr (Value.pointer c1) fun i17 i18 =>
                                ∃ n19,
                                  H14.cell i17 i18 = some (Value.int IntKind.u64 n19) ∧
                                    CA en F.smem_under [Value.int IntKind.u64 x0, Value.int IntKind.u64 n19, Value.int IntKind.u64 n15] H14 fun v20 H21 =>
                                      ∃ n22, v20 = Value.int IntKind.u64 n22 ∧ R (Value.int IntKind.u64 n22) H21) →
    CA Go.Proofs.Ytdkbgjhlpoibdaa.en F.smem_Mem_Fetch_1 [Value.int IntKind.u64 x0, Value.pointer c0, Value.pointer c1, Value.pointer c2] H R := by
  intro h
  refine wpFn_ok (Z := []) (fn := Go.Proofs.Try.f65) ?_ ?_ ?_
  · kernel_rfl
  · kernel_rfl
  · apply turnInto h
    kernel_rfl



/-! word_Alu -/

theorem vc_word_Alu (x0 : Int) (x1 : Bool) (x2 : Int) (x3 : Int) (H : Heap) (R : Value → Heap → Prop) :
    (bif x0 == 192 then
  bif x1 then nz 64 ∧ nn (x3.tmod 64) ∧ R (Value.tuple #[Value.int IntKind.u64 (IntKind.u64.wrap ((IntKind.i64.wrap x2).fdiv (2 ^ min (x3.tmod 64).toNat 64))), Value.bool true]) H
  else
    bif x0 == 192 then
      nz 32 ∧ nn (x3.tmod 32) ∧ R (Value.tuple #[Value.int IntKind.u64 (IntKind.u64.wrap (IntKind.u32.wrap ((IntKind.i32.wrap x2).fdiv (2 ^ min (x3.tmod 32).toNat 32)))), Value.bool true]) H
    else
      bif x1 then
        CA en F.word_alu_uint64 [Value.int IntKind.i64 x0, Value.int IntKind.u64 64, Value.int IntKind.u64 x2, Value.int IntKind.u64 x3] H fun v1 H2 =>
          ∃ n3 b4, v1 = Value.tuple #[Value.int IntKind.u64 n3, Value.bool b4] ∧ R (Value.tuple #[Value.int IntKind.u64 n3, Value.bool b4]) H2
      else
        CA en F.word_alu_uint32 [Value.int IntKind.i64 x0, Value.int IntKind.u64 32, Value.int IntKind.u32 (IntKind.u32.wrap x2), Value.int IntKind.u32 (IntKind.u32.wrap x3)] H fun v5 H6 =>
          ∃ n7 b8, v5 = Value.tuple #[Value.int IntKind.u32 n7, Value.bool b8] ∧ R (Value.tuple #[Value.int IntKind.u64 (IntKind.u64.wrap n7), Value.bool b8]) H6
 else
  bif x0 == 192 then
    nz 32 ∧ nn (x3.tmod 32) ∧ R (Value.tuple #[Value.int IntKind.u64 (IntKind.u64.wrap (IntKind.u32.wrap ((IntKind.i32.wrap x2).fdiv (2 ^ min (x3.tmod 32).toNat 32)))), Value.bool true]) H
  else
    bif x1 then
      CA en F.word_alu_uint64 [Value.int IntKind.i64 x0, Value.int IntKind.u64 64, Value.int IntKind.u64 x2, Value.int IntKind.u64 x3] H fun v9 H10 =>
        ∃ n11 b12, v9 = Value.tuple #[Value.int IntKind.u64 n11, Value.bool b12] ∧ R (Value.tuple #[Value.int IntKind.u64 n11, Value.bool b12]) H10
    else
      CA en F.word_alu_uint32 [Value.int IntKind.i64 x0, Value.int IntKind.u64 32, Value.int IntKind.u32 (IntKind.u32.wrap x2), Value.int IntKind.u32 (IntKind.u32.wrap x3)] H fun v13 H14 =>
        ∃ n15 b16, v13 = Value.tuple #[Value.int IntKind.u32 n15, Value.bool b16] ∧ R (Value.tuple #[Value.int IntKind.u64 (IntKind.u64.wrap n15), Value.bool b16]) H14) →
    CA Go.Proofs.Ytdkbgjhlpoibdaa.en F.word_Alu [Value.int IntKind.i64 x0, Value.bool x1, Value.int IntKind.u64 x2, Value.int IntKind.u64 x3] H R := by
  intro h
  refine wpFn_ok (Z := []) (fn := Go.Proofs.Try.f66) ?_ ?_ ?_
  · kernel_rfl
  · kernel_rfl
  · apply turnInto h
    kernel_rfl



/-! word_alu_uint64 -/

theorem vc_word_alu_uint64 (x0 : Int) (x1 : Int) (x2 : Int) (x3 : Int) (H : Heap) (R : Value → Heap → Prop) :
    (nz x1 ∧
  bif x0 == 0 then R (Value.tuple #[Value.int IntKind.u64 (IntKind.u64.wrap (x2 + x3)), Value.bool true]) H
  else
    bif x0 == 16 then R (Value.tuple #[Value.int IntKind.u64 (IntKind.u64.wrap (x2 - x3)), Value.bool true]) H
    else
      bif x0 == 32 then R (Value.tuple #[Value.int IntKind.u64 (IntKind.u64.wrap (x2 * x3)), Value.bool true]) H
      else
        bif x0 == 48 then
          CA en F.word_divide_uint64 [Value.int IntKind.u64 x2, Value.int IntKind.u64 x3] H fun v1 H2 =>
            ∃ n3 n4, v1 = Value.tuple #[Value.int IntKind.u64 n3, Value.int IntKind.u64 n4] ∧ R (Value.tuple #[Value.int IntKind.u64 n3, Value.bool true]) H2
        else
          bif x0 == 144 then
            CA en F.word_divide_uint64 [Value.int IntKind.u64 x2, Value.int IntKind.u64 x3] H fun v5 H6 =>
              ∃ n7 n8, v5 = Value.tuple #[Value.int IntKind.u64 n7, Value.int IntKind.u64 n8] ∧ R (Value.tuple #[Value.int IntKind.u64 n8, Value.bool true]) H6
          else
            bif x0 == 64 then R (Value.tuple #[Value.int IntKind.u64 (IntKind.u64.wrap (↑(BitVec.ofInt 64 x2 ||| BitVec.ofInt 64 x3).toNat : Int)), Value.bool true]) H
            else
              bif x0 == 80 then R (Value.tuple #[Value.int IntKind.u64 (IntKind.u64.wrap (↑(BitVec.ofInt 64 x2 &&& BitVec.ofInt 64 x3).toNat : Int)), Value.bool true]) H
              else
                bif x0 == 160 then R (Value.tuple #[Value.int IntKind.u64 (IntKind.u64.wrap (↑(BitVec.ofInt 64 x2 ^^^ BitVec.ofInt 64 x3).toNat : Int)), Value.bool true]) H
                else
                  bif x0 == 96 then nn (x3.tmod x1) ∧ R (Value.tuple #[Value.int IntKind.u64 (IntKind.u64.wrap (x2 * 2 ^ min (x3.tmod x1).toNat 64)), Value.bool true]) H
                  else
                    bif x0 == 112 then nn (x3.tmod x1) ∧ R (Value.tuple #[Value.int IntKind.u64 (x2.fdiv (2 ^ min (x3.tmod x1).toNat 64)), Value.bool true]) H
                    else
                      bif x0 == 128 then R (Value.tuple #[Value.int IntKind.u64 (IntKind.u64.wrap (0 - x2)), Value.bool true]) H
                      else bif x0 == 176 then R (Value.tuple #[Value.int IntKind.u64 x3, Value.bool true]) H else R (Value.tuple #[Value.int IntKind.u64 0, Value.bool false]) H) →
    CA Go.Proofs.Ytdkbgjhlpoibdaa.en F.word_alu_uint64 [Value.int IntKind.i64 x0, Value.int IntKind.u64 x1, Value.int IntKind.u64 x2, Value.int IntKind.u64 x3] H R := by
  intro h
  refine wpFn_ok (Z := []) (fn := Go.Proofs.Try.f80) ?_ ?_ ?_
  · kernel_rfl
  · kernel_rfl
  · apply turnInto h
    kernel_rfl


end Go.Proofs.Ytdkbgjhlpoibdaa
