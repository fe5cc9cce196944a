/-
  What functions of this seat's program need (printed by a program, checked by the kernel).
-/
import Derived.Test.YtlkmdcncpdadbaaNames
import Derived.Test.YtlkmdcncpdadbaaAs22
namespace Go.Proofs.Ytlkmdcncpdadbaa
open Go Go.AS Go.RowKit
set_option linter.unusedVariables false
set_option maxRecDepth 100000

/-! crossbarlaw07_DeclBits -/
noncomputable def L_crossbarlaw07_DeclBits_0 : Code := loopAt Go.Proofs.Try.f4 0

theorem vc_crossbarlaw07_DeclBits (x0 : Int) (x1 : Int) (H : Heap) (R : Value → Heap → Prop) :
    (CA en F.decl_Bloom [Value.int IntKind.u64 x0, Value.int IntKind.i64 x1] H fun v1 H2 =>
  ∃ n3 n4,
    v1 = Value.tuple #[Value.int IntKind.i64 n3, Value.int IntKind.u64 n4] ∧
      LA en L_crossbarlaw07_DeclBits_0
        [Value.int IntKind.u64 x0, Value.int IntKind.i64 x1, undef, undef, Value.bool false, Value.int IntKind.i64 n3, Value.int IntKind.u64 n4, Value.int IntKind.i64 0, Value.int IntKind.i64 0,
          Value.tuple #[Value.int IntKind.i64 n3, Value.int IntKind.u64 n4], Value.int IntKind.u64 x0, Value.int IntKind.i64 x1, Value.tuple #[Value.int IntKind.i64 n3, Value.int IntKind.u64 n4],
          Value.int IntKind.i64 n3, Value.int IntKind.u64 n4, undef, undef, undef, undef, undef, undef, undef, undef, undef, undef, undef, undef, undef, undef, undef, undef, undef, undef, undef,
          undef, undef, undef, undef, undef, undef, undef, undef, undef, undef, undef, undef, undef, undef, undef, undef, undef, undef, undef]
        H2
        [(X.exit 0, fun x5 H6 =>
            AS.asInt IntKind.i64 (List.getD x5 7 undef) fun n7 =>
              bif decide (n7 ≥ 1) then
                bif decide (n7 ≤ 3) then
                  bif decide (n3 ≥ 0) then
                    bif decide (n3 < x1) then CA en F.crossbarlaw07_works [] H6 fun v8 H9 => ∃ b10, v8 = Value.bool b10 ∧ R (Value.bool b10) H9
                    else
                      bif decide (x1 < 1) then bif n3 == 0 then CA en F.crossbarlaw07_works [] H6 fun v11 H12 => ∃ b13, v11 = Value.bool b13 ∧ R (Value.bool b13) H12 else R (Value.bool false) H6
                      else R (Value.bool false) H6
                  else R (Value.bool false) H6
                else R (Value.bool false) H6
              else R (Value.bool false) H6)]) →
    CA Go.Proofs.Ytlkmdcncpdadbaa.en F.crossbarlaw07_DeclBits [Value.int IntKind.u64 x0, Value.int IntKind.i64 x1] H R := by
  intro h
  refine wpFn_ok (Z := [[(7, Value.int IntKind.i64 0)]]) (fn := Go.Proofs.Try.f4) ?_ ?_ ?_
  · kernel_rfl
  · kernel_rfl
  · apply turnInto h
    kernel_rfl

theorem rule_crossbarlaw07_DeclBits_0 (t0 : Int) (t1 : Int) (t5 : Int) (t6 : Int) (t9_0 : Int) (t9_1 : Int) (t10 : Int) (t11 : Int) (t12_0 : Int) (t12_1 : Int) (t13 : Int) (t14 : Int) (K0 : Fr → Heap → Prop) (I : Nat → Int → Int → Heap → Prop)
    (hstep : ∀ (n : Nat) (t7 : Int) (t8 : Int) (t15 : Value) (t16 : Value) (t17 : Value) (t18 : Value) (t19 : Value) (t20 : Value) (t21 : Value) (t22 : Value) (t23 : Value) (t24 : Value) (t25 : Value) (t26 : Value) (H : Heap), I n t7 t8 H →
    (bif decide (t8 < 64) then
  nn (IntKind.u64.wrap t8) ∧
    nz 2 ∧
      bif (t6.fdiv (2 ^ min (IntKind.u64.wrap t8).toNat 64)).tmod 2 == 1 then ∃ i1, i1 < n ∧ I i1 (IntKind.i64.wrap (t7 + 1)) (IntKind.i64.wrap (t8 + 1)) H
      else ∃ i2, i2 < n ∧ I i2 t7 (IntKind.i64.wrap (t8 + 1)) H
 else
  K0
    [Value.int IntKind.u64 t0, Value.int IntKind.i64 t1, undef, undef, Value.bool false, Value.int IntKind.i64 t5, Value.int IntKind.u64 t6, Value.int IntKind.i64 t7, Value.int IntKind.i64 t8,
      Value.tuple #[Value.int IntKind.i64 t9_0, Value.int IntKind.u64 t9_1], Value.int IntKind.u64 t10, Value.int IntKind.i64 t11,
      Value.tuple #[Value.int IntKind.i64 t12_0, Value.int IntKind.u64 t12_1], Value.int IntKind.i64 t13, Value.int IntKind.u64 t14, Value.int IntKind.i64 t8, Value.bool false, t17, t18, t19, t20,
      t21, t22, t23, t24, t25, t26, undef, undef, undef, undef, undef, undef, undef, undef, undef, undef, undef, undef, undef, undef, undef, undef, undef, undef, undef, undef, undef, undef, undef,
      undef, undef, undef]
    H)) :
    ∀ (n : Nat) (t7 : Int) (t8 : Int) (t15 : Value) (t16 : Value) (t17 : Value) (t18 : Value) (t19 : Value) (t20 : Value) (t21 : Value) (t22 : Value) (t23 : Value) (t24 : Value) (t25 : Value) (t26 : Value) (H : Heap), I n t7 t8 H →
    LA en L_crossbarlaw07_DeclBits_0
  [Value.int IntKind.u64 t0, Value.int IntKind.i64 t1, undef, undef, Value.bool false, Value.int IntKind.i64 t5, Value.int IntKind.u64 t6, Value.int IntKind.i64 t7, Value.int IntKind.i64 t8,
    Value.tuple #[Value.int IntKind.i64 t9_0, Value.int IntKind.u64 t9_1], Value.int IntKind.u64 t10, Value.int IntKind.i64 t11,
    Value.tuple #[Value.int IntKind.i64 t12_0, Value.int IntKind.u64 t12_1], Value.int IntKind.i64 t13, Value.int IntKind.u64 t14, t15, t16, t17, t18, t19, t20, t21, t22, t23, t24, t25, t26, undef,
    undef, undef, undef, undef, undef, undef, undef, undef, undef, undef, undef, undef, undef, undef, undef, undef, undef, undef, undef, undef, undef, undef, undef, undef, undef]
  H [(X.exit 0, K0)] := by
  intro n t7 t8 t15 t16 t17 t18 t19 t20 t21 t22 t23 t24 t25 t26 H hI
  refine LA_rule (Z := []) (fun m xs H' => AS.asInt IntKind.i64 (xs.getD 7 undef) fun t7 => AS.asInt IntKind.i64 (xs.getD 8 undef) fun t8 => I m t7 t8 H') ?_ n H ?_
  · intro n H
    suffices hs : ∀ s15 : Value, ∀ s16 : Value, ∀ s19 : Value, ∀ s20 : Value, ∀ s21 : Value, ∀ s22 : Value, ∀ s23 : Value, ∀ s24 : Value, ∀ s25 : Value, ∀ s26 : Value, ∀ s7 : Value, ∀ s17 : Value, ∀ s18 : Value, ∀ s8 : Value, ((AS.asInt IntKind.i64 s7 fun n1 => AS.asInt IntKind.i64 s8 fun n2 => I n n1 n2 H) → wpCode en L_crossbarlaw07_DeclBits_0 []
  [Value.int IntKind.u64 t0, Value.int IntKind.i64 t1, undef, undef, Value.bool false, Value.int IntKind.i64 t5, Value.int IntKind.u64 t6, s7, s8,
    Value.tuple #[Value.int IntKind.i64 t9_0, Value.int IntKind.u64 t9_1], Value.int IntKind.u64 t10, Value.int IntKind.i64 t11,
    Value.tuple #[Value.int IntKind.i64 t12_0, Value.int IntKind.u64 t12_1], Value.int IntKind.i64 t13, Value.int IntKind.u64 t14, s15, s16, s17, s18, s19, s20, s21, s22, s23, s24, s25, s26, undef,
    undef, undef, undef, undef, undef, undef, undef, undef, undef, undef, undef, undef, undef, undef, undef, undef, undef, undef, undef, undef, undef, undef, undef, undef, undef]
  H (loopQ (fun m xs H' => AS.asInt IntKind.i64 (xs.getD 7 undef) fun t7 => AS.asInt IntKind.i64 (xs.getD 8 undef) fun t8 => I m t7 t8 H') n [(X.exit 0, K0)])) by
      apply turnInto hs
      kernel_rfl
    intro s15 s16 s19 s20 s21 s22 s23 s24 s25 s26 s7 s17 s18 s8 hP
    replace hP := asInt_elim hP
    obtain ⟨t7, rfl, hP⟩ := hP
    replace hP := asInt_elim hP
    obtain ⟨t8, rfl, hP⟩ := hP
    apply turnInto (hstep n t7 t8 s15 s16 s17 s18 s19 s20 s21 s22 s23 s24 s25 s26 H hP)
    kernel_rfl
  · apply turnInto hI
    kernel_rfl

theorem use_crossbarlaw07_DeclBits_0 {t0 : Int} {t1 : Int} {t5 : Int} {t6 : Int} {t9_0 : Int} {t9_1 : Int} {t10 : Int} {t11 : Int} {t12_0 : Int} {t12_1 : Int} {t13 : Int} {t14 : Int} {K0 : Fr → Heap → Prop} {t7 : Int} {t8 : Int} {t15 : Value} {t16 : Value} {t17 : Value} {t18 : Value} {t19 : Value} {t20 : Value} {t21 : Value} {t22 : Value} {t23 : Value} {t24 : Value} {t25 : Value} {t26 : Value} {H : Heap} (I : Nat → Int → Int → Heap → Prop) (n : Nat) (h0 : I n t7 t8 H)
    (hstep : ∀ (n : Nat) (t7 : Int) (t8 : Int) (t15 : Value) (t16 : Value) (t17 : Value) (t18 : Value) (t19 : Value) (t20 : Value) (t21 : Value) (t22 : Value) (t23 : Value) (t24 : Value) (t25 : Value) (t26 : Value) (H : Heap), I n t7 t8 H →
    (bif decide (t8 < 64) then
  nn (IntKind.u64.wrap t8) ∧
    nz 2 ∧
      bif (t6.fdiv (2 ^ min (IntKind.u64.wrap t8).toNat 64)).tmod 2 == 1 then ∃ i1, i1 < n ∧ I i1 (IntKind.i64.wrap (t7 + 1)) (IntKind.i64.wrap (t8 + 1)) H
      else ∃ i2, i2 < n ∧ I i2 t7 (IntKind.i64.wrap (t8 + 1)) H
 else
  K0
    [Value.int IntKind.u64 t0, Value.int IntKind.i64 t1, undef, undef, Value.bool false, Value.int IntKind.i64 t5, Value.int IntKind.u64 t6, Value.int IntKind.i64 t7, Value.int IntKind.i64 t8,
      Value.tuple #[Value.int IntKind.i64 t9_0, Value.int IntKind.u64 t9_1], Value.int IntKind.u64 t10, Value.int IntKind.i64 t11,
      Value.tuple #[Value.int IntKind.i64 t12_0, Value.int IntKind.u64 t12_1], Value.int IntKind.i64 t13, Value.int IntKind.u64 t14, Value.int IntKind.i64 t8, Value.bool false, t17, t18, t19, t20,
      t21, t22, t23, t24, t25, t26, undef, undef, undef, undef, undef, undef, undef, undef, undef, undef, undef, undef, undef, undef, undef, undef, undef, undef, undef, undef, undef, undef, undef,
      undef, undef, undef]
    H)) :
    LA en L_crossbarlaw07_DeclBits_0
  [Value.int IntKind.u64 t0, Value.int IntKind.i64 t1, undef, undef, Value.bool false, Value.int IntKind.i64 t5, Value.int IntKind.u64 t6, Value.int IntKind.i64 t7, Value.int IntKind.i64 t8,
    Value.tuple #[Value.int IntKind.i64 t9_0, Value.int IntKind.u64 t9_1], Value.int IntKind.u64 t10, Value.int IntKind.i64 t11,
    Value.tuple #[Value.int IntKind.i64 t12_0, Value.int IntKind.u64 t12_1], Value.int IntKind.i64 t13, Value.int IntKind.u64 t14, t15, t16, t17, t18, t19, t20, t21, t22, t23, t24, t25, t26, undef,
    undef, undef, undef, undef, undef, undef, undef, undef, undef, undef, undef, undef, undef, undef, undef, undef, undef, undef, undef, undef, undef, undef, undef, undef, undef]
  H [(X.exit 0, K0)] :=
  rule_crossbarlaw07_DeclBits_0 t0 t1 t5 t6 t9_0 t9_1 t10 t11 t12_0 t12_1 t13 t14 K0 I hstep n t7 t8 t15 t16 t17 t18 t19 t20 t21 t22 t23 t24 t25 t26 H h0



/-! crossbarlaw07_DeclOrder -/

/-! decl_Bloom -/

theorem vc_decl_Bloom (x0 : Int) (x1 : Int) (H : Heap) (R : Value → Heap → Prop) :
    (CA en F.decl_Bucket [Value.int IntKind.u64 x0, Value.int IntKind.i64 x1] H fun v1 H2 =>
  ∃ n3,
    v1 = Value.int IntKind.i64 n3 ∧
      nn 58 ∧
        nn ((IntKind.u64.wrap (x0 * 14029467366897019727)).fdiv 288230376151711744) ∧
          nn 52 ∧
            nn (IntKind.u64.wrap (↑(BitVec.ofInt 64 ((IntKind.u64.wrap (x0 * 14029467366897019727)).fdiv 4503599627370496) &&& BitVec.ofInt 64 63).toNat : Int)) ∧
              nn 46 ∧
                nn (IntKind.u64.wrap (↑(BitVec.ofInt 64 ((IntKind.u64.wrap (x0 * 14029467366897019727)).fdiv 70368744177664) &&& BitVec.ofInt 64 63).toNat : Int)) ∧
                  R
                    (Value.tuple
                      #[Value.int IntKind.i64 n3,
                        Value.int IntKind.u64
                          (IntKind.u64.wrap
                            (↑(BitVec.ofInt 64
                                      (IntKind.u64.wrap
                                        (↑(BitVec.ofInt 64 (IntKind.u64.wrap (1 * 2 ^ min ((IntKind.u64.wrap (x0 * 14029467366897019727)).fdiv 288230376151711744).toNat 64)) |||
                                                BitVec.ofInt 64
                                                  (IntKind.u64.wrap
                                                    (1 *
                                                      2 ^
                                                        min
                                                          (IntKind.u64.wrap
                                                              (↑(BitVec.ofInt 64 ((IntKind.u64.wrap (x0 * 14029467366897019727)).fdiv 4503599627370496) &&& BitVec.ofInt 64 63).toNat : Int)).toNat
                                                          64))).toNat :
                                          Int)) |||
                                    BitVec.ofInt 64
                                      (IntKind.u64.wrap
                                        (1 *
                                          2 ^
                                            min (IntKind.u64.wrap (↑(BitVec.ofInt 64 ((IntKind.u64.wrap (x0 * 14029467366897019727)).fdiv 70368744177664) &&& BitVec.ofInt 64 63).toNat : Int)).toNat
                                              64))).toNat :
                              Int))])
                    H2) →
    CA Go.Proofs.Ytlkmdcncpdadbaa.en F.decl_Bloom [Value.int IntKind.u64 x0, Value.int IntKind.i64 x1] H R := by
  intro h
  refine wpFn_ok (Z := []) (fn := Go.Proofs.Try.f17) ?_ ?_ ?_
  · kernel_rfl
  · kernel_rfl
  · apply turnInto h
    kernel_rfl



/-! decl_Ahead -/

theorem vc_decl_Ahead (x00 : Int) (x01 : Int) (x02 : Int) (x03 : Int) (x04 : Int) (x1 : Int) (x2 : Int) (H : Heap) (R : Value → Heap → Prop) :
    (nwH H (AS.Obj.cells true 0 [Value.int IntKind.i64 x00, Value.int IntKind.i64 x01, Value.int IntKind.i64 x02, Value.int IntKind.i64 x03, Value.int IntKind.i64 x04]) fun i1 H2 =>
  ∃ n3,
    H2.cell i1 0 = some (Value.int IntKind.i64 n3) ∧
      CA en F.decl_kinds [Value.int IntKind.i64 n3] H2 fun v4 H5 =>
        ∃ n6 b7 b8 a9 i10 b11 b12,
          v4 = Value.tuple #[Value.agg #[Value.int IntKind.i64 n6, Value.bool b7, Value.bool b8, Value.slice a9 i10 0, Value.bool b11], Value.bool b12] ∧
            nwH H5 (AS.Obj.cells true 0 [Value.int IntKind.i64 0, Value.bool false, Value.bool false, Value.slice none 0 0, Value.bool false]) fun i13 H14 =>
              stc H14 i13 0 [Value.int IntKind.i64 n6, Value.bool b7, Value.bool b8, Value.slice a9 i10 0, Value.bool b11] fun H15 =>
                ∃ b16,
                  H15.cell i13 4 = some (Value.bool b16) ∧
                    bif b16 then
                      ∃ n17,
                        H15.cell i1 3 = some (Value.int IntKind.i64 n17) ∧
                          CA en F.decl_Bucket [Value.int IntKind.u64 x1, Value.int IntKind.i64 n17] H15 fun v18 H19 =>
                            ∃ n20,
                              v18 = Value.int IntKind.i64 n20 ∧
                                CA en F.decl_Bucket [Value.int IntKind.u64 x2, Value.int IntKind.i64 n17] H19 fun v21 H22 =>
                                  ∃ n23, v21 = Value.int IntKind.i64 n23 ∧ bif n20 != n23 then R (Value.bool (decide (n20 < n23))) H22 else R (Value.bool (decide (x1 < x2))) H22
                    else
                      CA en F.decl_Bucket [Value.int IntKind.u64 x1, Value.int IntKind.i64 0] H15 fun v24 H25 =>
                        ∃ n26,
                          v24 = Value.int IntKind.i64 n26 ∧
                            CA en F.decl_Bucket [Value.int IntKind.u64 x2, Value.int IntKind.i64 0] H25 fun v27 H28 =>
                              ∃ n29, v27 = Value.int IntKind.i64 n29 ∧ bif n26 != n29 then R (Value.bool (decide (n26 < n29))) H28 else R (Value.bool (decide (x1 < x2))) H28) →
    CA Go.Proofs.Ytlkmdcncpdadbaa.en F.decl_Ahead [Value.agg #[Value.int IntKind.i64 x00, Value.int IntKind.i64 x01, Value.int IntKind.i64 x02, Value.int IntKind.i64 x03, Value.int IntKind.i64 x04], Value.int IntKind.u64 x1, Value.int IntKind.u64 x2] H R := by
  intro h
  refine wpFn_ok (Z := []) (fn := Go.Proofs.Try.f18) ?_ ?_ ?_
  · kernel_rfl
  · kernel_rfl
  · apply turnInto h
    kernel_rfl



/-! decl_Bucket -/

theorem vc_decl_Bucket (x0 : Int) (x1 : Int) (H : Heap) (R : Value → Heap → Prop) :
    (bif decide (x1 < 1) then R (Value.int IntKind.i64 0) H
 else nn 32 ∧ nz (IntKind.u64.wrap x1) ∧ R (Value.int IntKind.i64 (IntKind.i64.wrap (((IntKind.u64.wrap (x0 * 11400714819323198485)).fdiv 4294967296).tmod (IntKind.u64.wrap x1)))) H) →
    CA Go.Proofs.Ytlkmdcncpdadbaa.en F.decl_Bucket [Value.int IntKind.u64 x0, Value.int IntKind.i64 x1] H R := by
  intro h
  refine wpFn_ok (Z := []) (fn := Go.Proofs.Try.f19) ?_ ?_ ?_
  · kernel_rfl
  · kernel_rfl
  · apply turnInto h
    kernel_rfl



/-! decl_kinds -/

theorem vc_decl_kinds (x0 : Int) (H : Heap) (R : Value → Heap → Prop) :
    (nwH H (AS.Obj.cells true 0 [Value.int IntKind.i64 0, Value.bool false, Value.bool false, Value.slice none 0 0, Value.bool false]) fun i1 H2 =>
  nwH H2 (AS.Obj.cells true 1 [Value.int IntKind.i64 1, Value.int IntKind.i64 2, Value.int IntKind.i64 4]) fun i3 H4 =>
    nwH H4 (AS.Obj.cells true 1 [Value.int IntKind.i64 6, Value.int IntKind.i64 7, Value.int IntKind.i64 8]) fun i5 H6 =>
      nwH H6 (AS.Obj.cells true 1 [Value.int IntKind.i64 3, Value.int IntKind.i64 5]) fun i7 H8 =>
        ∃ l9,
          rowOf H8 1 (some { block := i3, off := 0 }) 3 = some l9 ∧
            apd H8 8 1 (some { block := i7, off := 0 }) 2 3 l9 fun a10 i11 H12 =>
              nwH H12 (AS.Obj.cells true 1 [Value.int IntKind.i64 3]) fun i13 H14 =>
                ∃ l15,
                  rowOf H14 1 (some { block := i3, off := 0 }) 3 = some l15 ∧
                    apd H14 8 1 (some { block := i13, off := 0 }) 1 3 l15 fun a16 i17 H18 =>
                      nwH H18 (AS.Obj.cells true 1 [Value.int IntKind.i64 6, Value.int IntKind.i64 8]) fun i19 H20 =>
                        nwH H20
                          (AS.Obj.cells true 0
                            [Value.int IntKind.i64 0, Value.bool false, Value.bool false, Value.slice none 0 0, Value.bool false, Value.int IntKind.i64 0, Value.bool false, Value.bool false,
                              Value.slice none 0 0, Value.bool false, Value.int IntKind.i64 0, Value.bool false, Value.bool false, Value.slice none 0 0, Value.bool false, Value.int IntKind.i64 0,
                              Value.bool false, Value.bool false, Value.slice none 0 0, Value.bool false, Value.int IntKind.i64 0, Value.bool false, Value.bool false, Value.slice none 0 0,
                              Value.bool false, Value.int IntKind.i64 0, Value.bool false, Value.bool false, Value.slice none 0 0, Value.bool false, Value.int IntKind.i64 0, Value.bool false,
                              Value.bool false, Value.slice none 0 0, Value.bool false, Value.int IntKind.i64 0, Value.bool false, Value.bool false, Value.slice none 0 0, Value.bool false,
                              Value.int IntKind.i64 0, Value.bool false, Value.bool false, Value.slice none 0 0, Value.bool false, Value.int IntKind.i64 0, Value.bool false, Value.bool false,
                              Value.slice none 0 0, Value.bool false, Value.int IntKind.i64 0, Value.bool false, Value.bool false, Value.slice none 0 0, Value.bool false])
                          fun i21 H22 =>
                          stc H22 i21 0
                            [Value.int IntKind.i64 0, Value.bool false, Value.bool false, Value.slice none 0 0, Value.bool false, Value.int IntKind.i64 1, Value.bool false, Value.bool false,
                              Value.slice (some { block := i3, off := 0 }) 3 0, Value.bool false, Value.int IntKind.i64 1, Value.bool false, Value.bool false,
                              Value.slice (some { block := i3, off := 0 }) 3 0, Value.bool false, Value.int IntKind.i64 4, Value.bool false, Value.bool false,
                              Value.slice (some { block := i3, off := 0 }) 3 0, Value.bool false, Value.int IntKind.i64 1, Value.bool true, Value.bool false, Value.slice a10 i11 0, Value.bool true,
                              Value.int IntKind.i64 1, Value.bool false, Value.bool false, Value.slice a10 i11 0, Value.bool false, Value.int IntKind.i64 4, Value.bool false, Value.bool false,
                              Value.slice (some { block := i5, off := 0 }) 3 0, Value.bool false, Value.int IntKind.i64 4, Value.bool false, Value.bool false,
                              Value.slice (some { block := i5, off := 0 }) 3 0, Value.bool false, Value.int IntKind.i64 1, Value.bool true, Value.bool false,
                              Value.slice (some { block := i19, off := 0 }) 2 0, Value.bool false, Value.int IntKind.i64 1, Value.bool false, Value.bool true, Value.slice a16 i17 0, Value.bool false,
                              Value.int IntKind.i64 1, Value.bool true, Value.bool true, Value.slice a16 i17 0, Value.bool true]
                            fun H23 =>
                            bif decide (x0 < 1) then
                              stc H23 i1 0 [Value.int IntKind.i64 0, Value.bool false, Value.bool false, Value.slice none 0 0, Value.bool false] fun H24 =>
                                ∃ n25 b26 b27 a28 i29 b30,
                                  H24.cellsAt i1 0 5 = some [Value.int IntKind.i64 n25, Value.bool b26, Value.bool b27, Value.slice a28 i29 0, Value.bool b30] ∧
                                    R (Value.tuple #[Value.agg #[Value.int IntKind.i64 n25, Value.bool b26, Value.bool b27, Value.slice a28 i29 0, Value.bool b30], Value.bool false]) H24
                            else
                              bif decide (x0 ≥ 11) then
                                stc H23 i1 0 [Value.int IntKind.i64 0, Value.bool false, Value.bool false, Value.slice none 0 0, Value.bool false] fun H31 =>
                                  ∃ n32 b33 b34 a35 i36 b37,
                                    H31.cellsAt i1 0 5 = some [Value.int IntKind.i64 n32, Value.bool b33, Value.bool b34, Value.slice a35 i36 0, Value.bool b37] ∧
                                      R (Value.tuple #[Value.agg #[Value.int IntKind.i64 n32, Value.bool b33, Value.bool b34, Value.slice a35 i36 0, Value.bool b37], Value.bool false]) H31
                              else
                                inB x0 11 ∧
                                  ∃ n38 b39 b40 a41 i42 b43,
                                    H23.cellsAt i21 (0 + x0.toNat * 5) 5 = some [Value.int IntKind.i64 n38, Value.bool b39, Value.bool b40, Value.slice a41 i42 0, Value.bool b43] ∧
                                      stc H23 i1 0 [Value.int IntKind.i64 n38, Value.bool b39, Value.bool b40, Value.slice a41 i42 0, Value.bool b43] fun H44 =>
                                        ∃ n45 b46 b47 a48 i49 b50,
                                          H44.cellsAt i1 0 5 = some [Value.int IntKind.i64 n45, Value.bool b46, Value.bool b47, Value.slice a48 i49 0, Value.bool b50] ∧
                                            R (Value.tuple #[Value.agg #[Value.int IntKind.i64 n45, Value.bool b46, Value.bool b47, Value.slice a48 i49 0, Value.bool b50], Value.bool true]) H44) →
    CA Go.Proofs.Ytlkmdcncpdadbaa.en F.decl_kinds [Value.int IntKind.i64 x0] H R := by
  intro h
  refine wpFn_ok (Z := []) (fn := Go.Proofs.Try.f41) ?_ ?_ ?_
  · kernel_rfl
  · kernel_rfl
  · apply turnInto h
    kernel_rfl



/-! crossbarref07_Bloom -/
noncomputable def L_crossbarref07_Bloom_0 : Code := loopAt Go.Proofs.Try.f20 0

theorem vc_crossbarref07_Bloom (x0 : Int) (x1 : Int) (H : Heap) (R : Value → Heap → Prop) :
    (LA en L_crossbarref07_Bloom_0
  [Value.int IntKind.u64 x0, Value.int IntKind.i64 x1, undef, undef, Value.int IntKind.i64 0, Value.int IntKind.u64 0, Value.int IntKind.u64 (IntKind.u64.wrap (x0 * 14029467366897019727)),
    Value.int IntKind.u64 0, Value.int IntKind.i64 0, undef, Value.int IntKind.u64 x0, Value.int IntKind.u64 (IntKind.u64.wrap (x0 * 14029467366897019727)), undef, undef, undef, undef, undef, undef,
    undef, undef, undef, undef, undef, undef, undef, undef, undef, undef, undef, undef, undef, undef, undef, undef, undef, undef, undef, undef, undef, undef, undef, undef, undef, undef, undef]
  H
  [(X.exit 0, fun x1_1 H2 =>
      AS.asInt IntKind.u64 (List.getD x1_1 7 undef) fun n3 =>
        CA en F.crossbarref07_Bucket [Value.int IntKind.u64 x0, Value.int IntKind.i64 x1] H2 fun v4 H5 =>
          ∃ n6, v4 = Value.int IntKind.i64 n6 ∧ R (Value.tuple #[Value.int IntKind.i64 n6, Value.int IntKind.u64 n3]) H5)]) →
    CA Go.Proofs.Ytlkmdcncpdadbaa.en F.crossbarref07_Bloom [Value.int IntKind.u64 x0, Value.int IntKind.i64 x1] H R := by
  intro h
  refine wpFn_ok (Z := [[(7, Value.int IntKind.u64 0)]]) (fn := Go.Proofs.Try.f20) ?_ ?_ ?_
  · kernel_rfl
  · kernel_rfl
  · apply turnInto h
    kernel_rfl

theorem rule_crossbarref07_Bloom_0 (t0 : Int) (t1 : Int) (t6 : Int) (t10 : Int) (t11 : Int) (K0 : Fr → Heap → Prop) (I : Nat → Int → Int → Heap → Prop)
    (hstep : ∀ (n : Nat) (t7 : Int) (t8 : Int) (t9 : Value) (t12 : Value) (t13 : Value) (t14 : Value) (t15 : Value) (t16 : Value) (t17 : Value) (t18 : Value) (t19 : Value) (t20 : Value) (t21 : Value) (t22 : Value) (t23 : Value) (t24 : Value) (t25 : Value) (t26 : Value) (t27 : Value) (t28 : Value) (t29 : Value) (t30 : Value) (t31 : Value) (t32 : Value) (t33 : Value) (t34 : Value) (t35 : Value) (t36 : Value) (t37 : Value) (t38 : Value) (t39 : Value) (t40 : Value) (H : Heap), I n t7 t8 H →
    (bif decide (t8 < 64) then
  nn 58 ∧
    bif t6.fdiv 288230376151711744 == IntKind.u64.wrap t8 then
      nn (IntKind.u64.wrap t8) ∧ ∃ i1, i1 < n ∧ I i1 (IntKind.u64.wrap (t7 + IntKind.u64.wrap (1 * 2 ^ min (IntKind.u64.wrap t8).toNat 64))) (IntKind.i64.wrap (t8 + 1)) H
    else
      nn 52 ∧
        nz 64 ∧
          bif (t6.fdiv 4503599627370496).tmod 64 == IntKind.u64.wrap t8 then
            nn (IntKind.u64.wrap t8) ∧ ∃ i2, i2 < n ∧ I i2 (IntKind.u64.wrap (t7 + IntKind.u64.wrap (1 * 2 ^ min (IntKind.u64.wrap t8).toNat 64))) (IntKind.i64.wrap (t8 + 1)) H
          else
            nn 46 ∧
              nz 64 ∧
                bif (t6.fdiv 70368744177664).tmod 64 == IntKind.u64.wrap t8 then
                  nn (IntKind.u64.wrap t8) ∧ ∃ i3, i3 < n ∧ I i3 (IntKind.u64.wrap (t7 + IntKind.u64.wrap (1 * 2 ^ min (IntKind.u64.wrap t8).toNat 64))) (IntKind.i64.wrap (t8 + 1)) H
                else ∃ i4, i4 < n ∧ I i4 t7 (IntKind.i64.wrap (t8 + 1)) H
 else
  K0
    [Value.int IntKind.u64 t0, Value.int IntKind.i64 t1, undef, undef, Value.int IntKind.i64 0, Value.int IntKind.u64 0, Value.int IntKind.u64 t6, Value.int IntKind.u64 t7, Value.int IntKind.i64 t8,
      t9, Value.int IntKind.u64 t10, Value.int IntKind.u64 t11, Value.int IntKind.i64 t8, Value.bool false, t14, t15, t16, t17, t18, t19, t20, t21, t22, t23, t24, t25, t26, t27, t28, t29, t30, t31,
      t32, t33, t34, t35, t36, t37, t38, t39, t40, undef, undef, undef, undef]
    H)) :
    ∀ (n : Nat) (t7 : Int) (t8 : Int) (t9 : Value) (t12 : Value) (t13 : Value) (t14 : Value) (t15 : Value) (t16 : Value) (t17 : Value) (t18 : Value) (t19 : Value) (t20 : Value) (t21 : Value) (t22 : Value) (t23 : Value) (t24 : Value) (t25 : Value) (t26 : Value) (t27 : Value) (t28 : Value) (t29 : Value) (t30 : Value) (t31 : Value) (t32 : Value) (t33 : Value) (t34 : Value) (t35 : Value) (t36 : Value) (t37 : Value) (t38 : Value) (t39 : Value) (t40 : Value) (H : Heap), I n t7 t8 H →
    LA en L_crossbarref07_Bloom_0
  [Value.int IntKind.u64 t0, Value.int IntKind.i64 t1, undef, undef, Value.int IntKind.i64 0, Value.int IntKind.u64 0, Value.int IntKind.u64 t6, Value.int IntKind.u64 t7, Value.int IntKind.i64 t8, t9,
    Value.int IntKind.u64 t10, Value.int IntKind.u64 t11, t12, t13, t14, t15, t16, t17, t18, t19, t20, t21, t22, t23, t24, t25, t26, t27, t28, t29, t30, t31, t32, t33, t34, t35, t36, t37, t38, t39,
    t40, undef, undef, undef, undef]
  H [(X.exit 0, K0)] := by
  intro n t7 t8 t9 t12 t13 t14 t15 t16 t17 t18 t19 t20 t21 t22 t23 t24 t25 t26 t27 t28 t29 t30 t31 t32 t33 t34 t35 t36 t37 t38 t39 t40 H hI
  refine LA_rule (Z := []) (fun m xs H' => AS.asInt IntKind.u64 (xs.getD 7 undef) fun t7 => AS.asInt IntKind.i64 (xs.getD 8 undef) fun t8 => I m t7 t8 H') ?_ n H ?_
  · intro n H
    suffices hs : ∀ s12 : Value, ∀ s13 : Value, ∀ s16 : Value, ∀ s17 : Value, ∀ s9 : Value, ∀ s18 : Value, ∀ s19 : Value, ∀ s20 : Value, ∀ s21 : Value, ∀ s22 : Value, ∀ s23 : Value, ∀ s24 : Value, ∀ s25 : Value, ∀ s26 : Value, ∀ s27 : Value, ∀ s28 : Value, ∀ s29 : Value, ∀ s30 : Value, ∀ s31 : Value, ∀ s32 : Value, ∀ s33 : Value, ∀ s34 : Value, ∀ s35 : Value, ∀ s36 : Value, ∀ s37 : Value, ∀ s38 : Value, ∀ s39 : Value, ∀ s40 : Value, ∀ s7 : Value, ∀ s14 : Value, ∀ s15 : Value, ∀ s8 : Value, ((AS.asInt IntKind.u64 s7 fun n1 => AS.asInt IntKind.i64 s8 fun n2 => I n n1 n2 H) → wpCode en L_crossbarref07_Bloom_0 []
  [Value.int IntKind.u64 t0, Value.int IntKind.i64 t1, undef, undef, Value.int IntKind.i64 0, Value.int IntKind.u64 0, Value.int IntKind.u64 t6, s7, s8, s9, Value.int IntKind.u64 t10,
    Value.int IntKind.u64 t11, s12, s13, s14, s15, s16, s17, s18, s19, s20, s21, s22, s23, s24, s25, s26, s27, s28, s29, s30, s31, s32, s33, s34, s35, s36, s37, s38, s39, s40, undef, undef, undef,
    undef]
  H (loopQ (fun m xs H' => AS.asInt IntKind.u64 (xs.getD 7 undef) fun t7 => AS.asInt IntKind.i64 (xs.getD 8 undef) fun t8 => I m t7 t8 H') n [(X.exit 0, K0)])) by
      apply turnInto hs
      kernel_rfl
    intro s12 s13 s16 s17 s9 s18 s19 s20 s21 s22 s23 s24 s25 s26 s27 s28 s29 s30 s31 s32 s33 s34 s35 s36 s37 s38 s39 s40 s7 s14 s15 s8 hP
    replace hP := asInt_elim hP
    obtain ⟨t7, rfl, hP⟩ := hP
    replace hP := asInt_elim hP
    obtain ⟨t8, rfl, hP⟩ := hP
    apply turnInto (hstep n t7 t8 s9 s12 s13 s14 s15 s16 s17 s18 s19 s20 s21 s22 s23 s24 s25 s26 s27 s28 s29 s30 s31 s32 s33 s34 s35 s36 s37 s38 s39 s40 H hP)
    kernel_rfl
  · apply turnInto hI
    kernel_rfl

theorem use_crossbarref07_Bloom_0 {t0 : Int} {t1 : Int} {t6 : Int} {t10 : Int} {t11 : Int} {K0 : Fr → Heap → Prop} {t7 : Int} {t8 : Int} {t9 : Value} {t12 : Value} {t13 : Value} {t14 : Value} {t15 : Value} {t16 : Value} {t17 : Value} {t18 : Value} {t19 : Value} {t20 : Value} {t21 : Value} {t22 : Value} {t23 : Value} {t24 : Value} {t25 : Value} {t26 : Value} {t27 : Value} {t28 : Value} {t29 : Value} {t30 : Value} {t31 : Value} {t32 : Value} {t33 : Value} {t34 : Value} {t35 : Value} {t36 : Value} {t37 : Value} {t38 : Value} {t39 : Value} {t40 : Value} {H : Heap} (I : Nat → Int → Int → Heap → Prop) (n : Nat) (h0 : I n t7 t8 H)
    (hstep : ∀ (n : Nat) (t7 : Int) (t8 : Int) (t9 : Value) (t12 : Value) (t13 : Value) (t14 : Value) (t15 : Value) (t16 : Value) (t17 : Value) (t18 : Value) (t19 : Value) (t20 : Value) (t21 : Value) (t22 : Value) (t23 : Value) (t24 : Value) (t25 : Value) (t26 : Value) (t27 : Value) (t28 : Value) (t29 : Value) (t30 : Value) (t31 : Value) (t32 : Value) (t33 : Value) (t34 : Value) (t35 : Value) (t36 : Value) (t37 : Value) (t38 : Value) (t39 : Value) (t40 : Value) (H : Heap), I n t7 t8 H →
    (bif decide (t8 < 64) then
  nn 58 ∧
    bif t6.fdiv 288230376151711744 == IntKind.u64.wrap t8 then
      nn (IntKind.u64.wrap t8) ∧ ∃ i1, i1 < n ∧ I i1 (IntKind.u64.wrap (t7 + IntKind.u64.wrap (1 * 2 ^ min (IntKind.u64.wrap t8).toNat 64))) (IntKind.i64.wrap (t8 + 1)) H
    else
      nn 52 ∧
        nz 64 ∧
          bif (t6.fdiv 4503599627370496).tmod 64 == IntKind.u64.wrap t8 then
            nn (IntKind.u64.wrap t8) ∧ ∃ i2, i2 < n ∧ I i2 (IntKind.u64.wrap (t7 + IntKind.u64.wrap (1 * 2 ^ min (IntKind.u64.wrap t8).toNat 64))) (IntKind.i64.wrap (t8 + 1)) H
          else
            nn 46 ∧
              nz 64 ∧
                bif (t6.fdiv 70368744177664).tmod 64 == IntKind.u64.wrap t8 then
                  nn (IntKind.u64.wrap t8) ∧ ∃ i3, i3 < n ∧ I i3 (IntKind.u64.wrap (t7 + IntKind.u64.wrap (1 * 2 ^ min (IntKind.u64.wrap t8).toNat 64))) (IntKind.i64.wrap (t8 + 1)) H
                else ∃ i4, i4 < n ∧ I i4 t7 (IntKind.i64.wrap (t8 + 1)) H
 else
  K0
    [Value.int IntKind.u64 t0, Value.int IntKind.i64 t1, undef, undef, Value.int IntKind.i64 0, Value.int IntKind.u64 0, Value.int IntKind.u64 t6, Value.int IntKind.u64 t7, Value.int IntKind.i64 t8,
      t9, Value.int IntKind.u64 t10, Value.int IntKind.u64 t11, Value.int IntKind.i64 t8, Value.bool false, t14, t15, t16, t17, t18, t19, t20, t21, t22, t23, t24, t25, t26, t27, t28, t29, t30, t31,
      t32, t33, t34, t35, t36, t37, t38, t39, t40, undef, undef, undef, undef]
    H)) :
    LA en L_crossbarref07_Bloom_0
  [Value.int IntKind.u64 t0, Value.int IntKind.i64 t1, undef, undef, Value.int IntKind.i64 0, Value.int IntKind.u64 0, Value.int IntKind.u64 t6, Value.int IntKind.u64 t7, Value.int IntKind.i64 t8, t9,
    Value.int IntKind.u64 t10, Value.int IntKind.u64 t11, t12, t13, t14, t15, t16, t17, t18, t19, t20, t21, t22, t23, t24, t25, t26, t27, t28, t29, t30, t31, t32, t33, t34, t35, t36, t37, t38, t39,
    t40, undef, undef, undef, undef]
  H [(X.exit 0, K0)] :=
  rule_crossbarref07_Bloom_0 t0 t1 t6 t10 t11 K0 I hstep n t7 t8 t9 t12 t13 t14 t15 t16 t17 t18 t19 t20 t21 t22 t23 t24 t25 t26 t27 t28 t29 t30 t31 t32 t33 t34 t35 t36 t37 t38 t39 t40 H h0



/-! crossbarref07_Bucket -/

theorem vc_crossbarref07_Bucket (x0 : Int) (x1 : Int) (H : Heap) (R : Value → Heap → Prop) :
    (bif decide (x1 < 1) then R (Value.int IntKind.i64 0) H
 else
  nz 4294967296 ∧
    nz (IntKind.u64.wrap x1) ∧ R (Value.int IntKind.i64 (IntKind.i64.wrap ((IntKind.u64.wrap ((IntKind.u64.wrap (x0 * 11400714819323198485)).tdiv 4294967296)).tmod (IntKind.u64.wrap x1)))) H) →
    CA Go.Proofs.Ytlkmdcncpdadbaa.en F.crossbarref07_Bucket [Value.int IntKind.u64 x0, Value.int IntKind.i64 x1] H R := by
  intro h
  refine wpFn_ok (Z := []) (fn := Go.Proofs.Try.f25) ?_ ?_ ?_
  · kernel_rfl
  · kernel_rfl
  · apply turnInto h
    kernel_rfl



/-! crossbarref07_Ahead -/

theorem vc_crossbarref07_Ahead (x00 : Int) (x01 : Int) (x02 : Int) (x03 : Int) (x04 : Int) (x1 : Int) (x2 : Int) (H : Heap) (R : Value → Heap → Prop) :
    (nwH H (AS.Obj.cells true 0 [Value.int IntKind.i64 x00, Value.int IntKind.i64 x01, Value.int IntKind.i64 x02, Value.int IntKind.i64 x03, Value.int IntKind.i64 x04]) fun i1 H2 =>
  ∃ n3,
    H2.cell i1 0 = some (Value.int IntKind.i64 n3) ∧
      bif n3 == 4 then
        ∃ n4,
          H2.cell i1 3 = some (Value.int IntKind.i64 n4) ∧
            CA en F.crossbarref07_Bucket [Value.int IntKind.u64 x1, Value.int IntKind.i64 n4] H2 fun v5 H6 =>
              ∃ n7,
                v5 = Value.int IntKind.i64 n7 ∧
                  ∃ n8,
                    H6.cell i1 3 = some (Value.int IntKind.i64 n8) ∧
                      CA en F.crossbarref07_Bucket [Value.int IntKind.u64 x2, Value.int IntKind.i64 n8] H6 fun v9 H10 =>
                        ∃ n11, v9 = Value.int IntKind.i64 n11 ∧ bif n7 != n11 then R (Value.bool (decide (n7 < n11))) H10 else R (Value.bool (decide (x1 < x2))) H10
      else
        ∃ n12,
          H2.cell i1 0 = some (Value.int IntKind.i64 n12) ∧
            bif n12 == 10 then
              ∃ n13,
                H2.cell i1 3 = some (Value.int IntKind.i64 n13) ∧
                  CA en F.crossbarref07_Bucket [Value.int IntKind.u64 x1, Value.int IntKind.i64 n13] H2 fun v14 H15 =>
                    ∃ n16,
                      v14 = Value.int IntKind.i64 n16 ∧
                        ∃ n17,
                          H15.cell i1 3 = some (Value.int IntKind.i64 n17) ∧
                            CA en F.crossbarref07_Bucket [Value.int IntKind.u64 x2, Value.int IntKind.i64 n17] H15 fun v18 H19 =>
                              ∃ n20, v18 = Value.int IntKind.i64 n20 ∧ bif n16 != n20 then R (Value.bool (decide (n16 < n20))) H19 else R (Value.bool (decide (x1 < x2))) H19
            else R (Value.bool (decide (x1 < x2))) H2) →
    CA Go.Proofs.Ytlkmdcncpdadbaa.en F.crossbarref07_Ahead [Value.agg #[Value.int IntKind.i64 x00, Value.int IntKind.i64 x01, Value.int IntKind.i64 x02, Value.int IntKind.i64 x03, Value.int IntKind.i64 x04], Value.int IntKind.u64 x1, Value.int IntKind.u64 x2] H R := by
  intro h
  refine wpFn_ok (Z := []) (fn := Go.Proofs.Try.f26) ?_ ?_ ?_
  · kernel_rfl
  · kernel_rfl
  · apply turnInto h
    kernel_rfl



/-! slices_Contains_int_int -/

theorem vc_slices_Contains_int_int (x0 : Option Addr) (x0l : Nat) (x1 : Int) (H : Heap) (R : Value → Heap → Prop) :
    (CA en F.slices_Index_int_int [Value.slice x0 x0l 0, Value.int IntKind.i64 x1] H fun v1 H2 => ∃ n3, v1 = Value.int IntKind.i64 n3 ∧ R (Value.bool (decide (n3 ≥ 0))) H2) →
    CA Go.Proofs.Ytlkmdcncpdadbaa.en F.slices_Contains_int_int [Value.slice x0 x0l 0, Value.int IntKind.i64 x1] H R := by
  intro h
  refine wpFn_ok (Z := []) (fn := Go.Proofs.Try.f42) ?_ ?_ ?_
  · kernel_rfl
  · kernel_rfl
  · apply turnInto h
    kernel_rfl



/-! slices_Index_int_int -/
noncomputable def L_slices_Index_int_int_0 : Code := loopAt Go.Proofs.Try.f62 0

theorem vc_slices_Index_int_int (x0 : Option Addr) (x0l : Nat) (x1 : Int) (H : Heap) (R : Value → Heap → Prop) :
    (LA en L_slices_Index_int_int_0
  [Value.slice x0 x0l 0, Value.int IntKind.i64 x1, undef, undef, Value.int IntKind.i64 0, undef, Value.slice x0 x0l 0, Value.int IntKind.i64 (↑x0l : Int), Value.int IntKind.i64 0, undef, undef, undef,
    undef, undef, undef, undef, undef, undef, undef]
  H
  [(X.exit 0, fun x1 H2 => AS.asInt IntKind.i64 (List.getD x1 4 undef) fun n3 => R (Value.int IntKind.i64 (-1)) H2),
    (X.ret, fun x4 H5 => AS.asInt IntKind.i64 (List.getD x4 4 undef) fun n6 => R (Value.int IntKind.i64 n6) H5)]) →
    CA Go.Proofs.Ytlkmdcncpdadbaa.en F.slices_Index_int_int [Value.slice x0 x0l 0, Value.int IntKind.i64 x1] H R := by
  intro h
  refine wpFn_ok (Z := [[(4, Value.int IntKind.i64 0)]]) (fn := Go.Proofs.Try.f62) ?_ ?_ ?_
  · kernel_rfl
  · kernel_rfl
  · apply turnInto h
    kernel_rfl

theorem rule_slices_Index_int_int_0 (t0 : Option Addr) (t0l : Nat) (t1 : Int) (t6 : Option Addr) (t6l : Nat) (t7 : Int) (K0 : Fr → Heap → Prop) (K1 : Fr → Heap → Prop) (I : Nat → Int → Heap → Prop)
    (hstep : ∀ (n : Nat) (t8 : Int) (t4 : Value) (t5 : Value) (t9 : Value) (t10 : Value) (t11 : Value) (t12 : Value) (t13 : Value) (t14 : Value) (t15 : Value) (t16 : Value) (t17 : Value) (t18 : Value) (H : Heap), I n t8 H →
    (bif decide (t8 < t7) then
  inB t8 t0l ∧
    asRow t0 fun i1 i2 =>
      ∃ n3,
        H.cell i1 (i2 + t8.toNat * 1) = some (Value.int IntKind.i64 n3) ∧
          bif t1 == n3 then
            K1
              [Value.slice t0 t0l 0, Value.int IntKind.i64 t1, undef, undef, Value.int IntKind.i64 t8, Value.int IntKind.i64 t8, Value.slice t6 t6l 0, Value.int IntKind.i64 t7,
                Value.int IntKind.i64 t8, Value.bool true, Value.int IntKind.i64 t8, Value.int IntKind.i64 t1, Value.slice t0 t0l 0, Value.int IntKind.i64 t8,
                Value.pointer (some { block := i1, off := i2 + t8.toNat * 1 }), Value.int IntKind.i64 n3, Value.bool true, Value.int IntKind.i64 t8, t18]
              H
          else ∃ i4, i4 < n ∧ I i4 (IntKind.i64.wrap (t8 + 1)) H
 else
  K0
    [Value.slice t0 t0l 0, Value.int IntKind.i64 t1, undef, undef, t4, t5, Value.slice t6 t6l 0, Value.int IntKind.i64 t7, Value.int IntKind.i64 t8, Value.bool false, t10, t11, t12, t13, t14, t15,
      t16, t17, t18]
    H)) :
    ∀ (n : Nat) (t8 : Int) (t4 : Value) (t5 : Value) (t9 : Value) (t10 : Value) (t11 : Value) (t12 : Value) (t13 : Value) (t14 : Value) (t15 : Value) (t16 : Value) (t17 : Value) (t18 : Value) (H : Heap), I n t8 H →
    LA en L_slices_Index_int_int_0
  [Value.slice t0 t0l 0, Value.int IntKind.i64 t1, undef, undef, t4, t5, Value.slice t6 t6l 0, Value.int IntKind.i64 t7, Value.int IntKind.i64 t8, t9, t10, t11, t12, t13, t14, t15, t16, t17, t18] H
  [(X.exit 0, K0), (X.ret, K1)] := by
  intro n t8 t4 t5 t9 t10 t11 t12 t13 t14 t15 t16 t17 t18 H hI
  refine LA_rule (Z := []) (fun m xs H' => AS.asInt IntKind.i64 (xs.getD 8 undef) fun t8 => I m t8 H') ?_ n H ?_
  · intro n H
    suffices hs : ∀ s9 : Value, ∀ s10 : Value, ∀ s5 : Value, ∀ s11 : Value, ∀ s12 : Value, ∀ s13 : Value, ∀ s14 : Value, ∀ s15 : Value, ∀ s16 : Value, ∀ s17 : Value, ∀ s4 : Value, ∀ s18 : Value, ∀ s8 : Value, ((AS.asInt IntKind.i64 s8 fun n1 => I n n1 H) → wpCode en L_slices_Index_int_int_0 []
  [Value.slice t0 t0l 0, Value.int IntKind.i64 t1, undef, undef, s4, s5, Value.slice t6 t6l 0, Value.int IntKind.i64 t7, s8, s9, s10, s11, s12, s13, s14, s15, s16, s17, s18] H
  (loopQ (fun m xs H' => AS.asInt IntKind.i64 (xs.getD 8 undef) fun t8 => I m t8 H') n [(X.exit 0, K0), (X.ret, K1)])) by
      apply turnInto hs
      kernel_rfl
    intro s9 s10 s5 s11 s12 s13 s14 s15 s16 s17 s4 s18 s8 hP
    replace hP := asInt_elim hP
    obtain ⟨t8, rfl, hP⟩ := hP
    apply turnInto (hstep n t8 s4 s5 s9 s10 s11 s12 s13 s14 s15 s16 s17 s18 H hP)
    kernel_rfl
  · apply turnInto hI
    kernel_rfl

theorem use_slices_Index_int_int_0 {t0 : Option Addr} {t0l : Nat} {t1 : Int} {t6 : Option Addr} {t6l : Nat} {t7 : Int} {K0 : Fr → Heap → Prop} {K1 : Fr → Heap → Prop} {t8 : Int} {t4 : Value} {t5 : Value} {t9 : Value} {t10 : Value} {t11 : Value} {t12 : Value} {t13 : Value} {t14 : Value} {t15 : Value} {t16 : Value} {t17 : Value} {t18 : Value} {H : Heap} (I : Nat → Int → Heap → Prop) (n : Nat) (h0 : I n t8 H)
    (hstep : ∀ (n : Nat) (t8 : Int) (t4 : Value) (t5 : Value) (t9 : Value) (t10 : Value) (t11 : Value) (t12 : Value) (t13 : Value) (t14 : Value) (t15 : Value) (t16 : Value) (t17 : Value) (t18 : Value) (H : Heap), I n t8 H →
    (bif decide (t8 < t7) then
  inB t8 t0l ∧
    asRow t0 fun i1 i2 =>
      ∃ n3,
        H.cell i1 (i2 + t8.toNat * 1) = some (Value.int IntKind.i64 n3) ∧
          bif t1 == n3 then
            K1
              [Value.slice t0 t0l 0, Value.int IntKind.i64 t1, undef, undef, Value.int IntKind.i64 t8, Value.int IntKind.i64 t8, Value.slice t6 t6l 0, Value.int IntKind.i64 t7,
                Value.int IntKind.i64 t8, Value.bool true, Value.int IntKind.i64 t8, Value.int IntKind.i64 t1, Value.slice t0 t0l 0, Value.int IntKind.i64 t8,
                Value.pointer (some { block := i1, off := i2 + t8.toNat * 1 }), Value.int IntKind.i64 n3, Value.bool true, Value.int IntKind.i64 t8, t18]
              H
          else ∃ i4, i4 < n ∧ I i4 (IntKind.i64.wrap (t8 + 1)) H
 else
  K0
    [Value.slice t0 t0l 0, Value.int IntKind.i64 t1, undef, undef, t4, t5, Value.slice t6 t6l 0, Value.int IntKind.i64 t7, Value.int IntKind.i64 t8, Value.bool false, t10, t11, t12, t13, t14, t15,
      t16, t17, t18]
    H)) :
    LA en L_slices_Index_int_int_0
  [Value.slice t0 t0l 0, Value.int IntKind.i64 t1, undef, undef, t4, t5, Value.slice t6 t6l 0, Value.int IntKind.i64 t7, Value.int IntKind.i64 t8, t9, t10, t11, t12, t13, t14, t15, t16, t17, t18] H
  [(X.exit 0, K0), (X.ret, K1)] :=
  rule_slices_Index_int_int_0 t0 t0l t1 t6 t6l t7 K0 K1 I hstep n t8 t4 t5 t9 t10 t11 t12 t13 t14 t15 t16 t17 t18 H h0



/-! decl_within -/

theorem vc_decl_within (x0 : Int) (x1 : Int) (H : Heap) (R : Value → Heap → Prop) :
    (bif decide (x0 ≥ 1) then R (Value.bool (decide (x0 ≤ x1))) H else R (Value.bool false) H) →
    CA Go.Proofs.Ytlkmdcncpdadbaa.en F.decl_within [Value.int IntKind.i64 x0, Value.int IntKind.i64 x1] H R := by
  intro h
  refine wpFn_ok (Z := []) (fn := Go.Proofs.Try.f58) ?_ ?_ ?_
  · kernel_rfl
  · kernel_rfl
  · apply turnInto h
    kernel_rfl


end Go.Proofs.Ytlkmdcncpdadbaa
