/-
  What functions of this seat's program need (printed by a program, checked by the kernel).
-/
import Derived.Test.YtlkmdcncpdadbaaNames
import Derived.Test.YtlkmdcncpdadbaaAs22
namespace Go.Proofs.Ytlkmdcncpdadbaa
open Go Go.AS Go.RowKit
set_option linter.unusedVariables false
set_option maxRecDepth 100000

/-! crossbarlaw07_DeclChecks -/

theorem vc_crossbarlaw07_DeclChecks (x0 : Option Addr) (x0l : Nat) (H : Heap) (R : Value → Heap → Prop) :
    (bif decide ((↑x0l : Int) > 100) then CA en F.crossbarlaw07_works [] H fun v1 H2 => ∃ b3, v1 = Value.bool b3 ∧ R (Value.bool b3) H2
 else
  CA en F.crossbarkit_CopyDecls [Value.slice x0 x0l 0] H fun v4 H5 =>
    ∃ a6 i7,
      v4 = Value.slice a6 i7 0 ∧
        CA en F.decl_Check [Value.slice a6 i7 0] H5 fun v8 H9 =>
          ∃ n10,
            v8 = Value.int IntKind.i64 n10 ∧
              CA en F.crossbarref07_Check [Value.slice x0 x0l 0] H9 fun v11 H12 =>
                ∃ n13,
                  v11 = Value.int IntKind.i64 n13 ∧
                    bif n10 == n13 then
                      CA en F.crossbarkit_SameDecls [Value.slice a6 i7 0, Value.slice x0 x0l 0] H12 fun v14 H15 =>
                        ∃ b16, v14 = Value.bool b16 ∧ bif b16 then CA en F.crossbarlaw07_works [] H15 fun v17 H18 => ∃ b19, v17 = Value.bool b19 ∧ R (Value.bool b19) H18 else R (Value.bool false) H15
                    else R (Value.bool false) H12) →
    CA Go.Proofs.Ytlkmdcncpdadbaa.en F.crossbarlaw07_DeclChecks [Value.slice x0 x0l 0] H R := by
  intro h
  refine wpFn_ok (Z := []) (fn := Go.Proofs.Try.f3) ?_ ?_ ?_
  · kernel_rfl
  · kernel_rfl
  · apply turnInto h
    kernel_rfl



/-! crossbarkit_CopyDecls -/
noncomputable def L_crossbarkit_CopyDecls_0 : Code := loopAt Go.Proofs.Try.f13 0

theorem vc_crossbarkit_CopyDecls (x0 : Option Addr) (x0l : Nat) (H : Heap) (R : Value → Heap → Prop) :
    (LA en L_crossbarkit_CopyDecls_0
  [Value.slice x0 x0l 0, undef, Value.slice none 0 0, Value.slice none 0 0, Value.int IntKind.i64 0, undef, undef, undef, undef, undef, undef, undef, undef, undef, undef, undef, undef, undef, undef] H
  [(X.exit 0, fun x1 H2 => asSl (List.getD x1 3 undef) fun a3 i4 => R (Value.slice a3 i4 0) H2)]) →
    CA Go.Proofs.Ytlkmdcncpdadbaa.en F.crossbarkit_CopyDecls [Value.slice x0 x0l 0] H R := by
  intro h
  refine wpFn_ok (Z := [[(3, Value.slice none 0 0)]]) (fn := Go.Proofs.Try.f13) ?_ ?_ ?_
  · kernel_rfl
  · kernel_rfl
  · apply turnInto h
    kernel_rfl

theorem rule_crossbarkit_CopyDecls_0 (t0 : Option Addr) (t0l : Nat) (K0 : Fr → Heap → Prop) (I : Nat → Option Addr → Nat → Int → Heap → Prop)
    (hstep : ∀ (n : Nat) (t3 : Option Addr) (t3l : Nat) (t4 : Int) (t5 : Value) (t6 : Value) (t7 : Value) (t8 : Value) (t9 : Value) (t10 : Value) (t11 : Value) (t12 : Value) (t13 : Value) (t14 : Value) (t15 : Value) (t16 : Value) (t17 : Value) (H : Heap), I n t3 t3l t4 H →
    (bif decide (t4 < (↑t0l : Int)) then
  inB t4 t0l ∧
    asRow t0 fun i1 i2 =>
      ∃ n3 n4 n5 n6 n7,
        H.cellsAt i1 (i2 + t4.toNat * 5) 5 = some [Value.int IntKind.i64 n3, Value.int IntKind.i64 n4, Value.int IntKind.i64 n5, Value.int IntKind.i64 n6, Value.int IntKind.i64 n7] ∧
          nwH H (AS.Obj.cells true 5 [Value.int IntKind.i64 n3, Value.int IntKind.i64 n4, Value.int IntKind.i64 n5, Value.int IntKind.i64 n6, Value.int IntKind.i64 n7]) fun i8 H9 =>
            ∃ l10, rowOf H9 5 (some { block := i8, off := 0 }) 1 = some l10 ∧ apd H9 40 5 t3 t3l 1 l10 fun a11 i12 H13 => ∃ i14, i14 < n ∧ I i14 a11 i12 (IntKind.i64.wrap (t4 + 1)) H13
 else
  K0
    [Value.slice t0 t0l 0, undef, Value.slice none 0 0, Value.slice t3 t3l 0, Value.int IntKind.i64 t4, Value.int IntKind.i64 t4, Value.slice t0 t0l 0, Value.int IntKind.i64 (↑t0l : Int),
      Value.bool false, t9, t10, t11, t12, t13, t14, t15, t16, t17, undef]
    H)) :
    ∀ (n : Nat) (t3 : Option Addr) (t3l : Nat) (t4 : Int) (t5 : Value) (t6 : Value) (t7 : Value) (t8 : Value) (t9 : Value) (t10 : Value) (t11 : Value) (t12 : Value) (t13 : Value) (t14 : Value) (t15 : Value) (t16 : Value) (t17 : Value) (H : Heap), I n t3 t3l t4 H →
    LA en L_crossbarkit_CopyDecls_0 [Value.slice t0 t0l 0, undef, Value.slice none 0 0, Value.slice t3 t3l 0, Value.int IntKind.i64 t4, t5, t6, t7, t8, t9, t10, t11, t12, t13, t14, t15, t16, t17, undef] H
  [(X.exit 0, K0)] := by
  intro n t3 t3l t4 t5 t6 t7 t8 t9 t10 t11 t12 t13 t14 t15 t16 t17 H hI
  refine LA_rule (Z := []) (fun m xs H' => asSl (xs.getD 3 undef) fun t3 t3l => AS.asInt IntKind.i64 (xs.getD 4 undef) fun t4 => I m t3 t3l t4 H') ?_ n H ?_
  · intro n H
    suffices hs : ∀ s5 : Value, ∀ s6 : Value, ∀ s7 : Value, ∀ s8 : Value, ∀ s11 : Value, ∀ s12 : Value, ∀ s13 : Value, ∀ s14 : Value, ∀ s15 : Value, ∀ s16 : Value, ∀ s17 : Value, ∀ s3 : Value, ∀ s9 : Value, ∀ s10 : Value, ∀ s4 : Value, ((asSl s3 fun a1 i2 => AS.asInt IntKind.i64 s4 fun n3 => I n a1 i2 n3 H) → wpCode en L_crossbarkit_CopyDecls_0 [] [Value.slice t0 t0l 0, undef, Value.slice none 0 0, s3, s4, s5, s6, s7, s8, s9, s10, s11, s12, s13, s14, s15, s16, s17, undef] H
  (loopQ (fun m xs H' => asSl (xs.getD 3 undef) fun t3 t3l => AS.asInt IntKind.i64 (xs.getD 4 undef) fun t4 => I m t3 t3l t4 H') n [(X.exit 0, K0)])) by
      apply turnInto hs
      kernel_rfl
    intro s5 s6 s7 s8 s11 s12 s13 s14 s15 s16 s17 s3 s9 s10 s4 hP
    replace hP := asSl_elim hP
    obtain ⟨t3, t3l, rfl, hP⟩ := hP
    replace hP := asInt_elim hP
    obtain ⟨t4, rfl, hP⟩ := hP
    apply turnInto (hstep n t3 t3l t4 s5 s6 s7 s8 s9 s10 s11 s12 s13 s14 s15 s16 s17 H hP)
    kernel_rfl
  · apply turnInto hI
    kernel_rfl

theorem use_crossbarkit_CopyDecls_0 {t0 : Option Addr} {t0l : Nat} {K0 : Fr → Heap → Prop} {t3 : Option Addr} {t3l : Nat} {t4 : Int} {t5 : Value} {t6 : Value} {t7 : Value} {t8 : Value} {t9 : Value} {t10 : Value} {t11 : Value} {t12 : Value} {t13 : Value} {t14 : Value} {t15 : Value} {t16 : Value} {t17 : Value} {H : Heap} (I : Nat → Option Addr → Nat → Int → Heap → Prop) (n : Nat) (h0 : I n t3 t3l t4 H)
    (hstep : ∀ (n : Nat) (t3 : Option Addr) (t3l : Nat) (t4 : Int) (t5 : Value) (t6 : Value) (t7 : Value) (t8 : Value) (t9 : Value) (t10 : Value) (t11 : Value) (t12 : Value) (t13 : Value) (t14 : Value) (t15 : Value) (t16 : Value) (t17 : Value) (H : Heap), I n t3 t3l t4 H →
    (bif decide (t4 < (↑t0l : Int)) then
  inB t4 t0l ∧
    asRow t0 fun i1 i2 =>
      ∃ n3 n4 n5 n6 n7,
        H.cellsAt i1 (i2 + t4.toNat * 5) 5 = some [Value.int IntKind.i64 n3, Value.int IntKind.i64 n4, Value.int IntKind.i64 n5, Value.int IntKind.i64 n6, Value.int IntKind.i64 n7] ∧
          nwH H (AS.Obj.cells true 5 [Value.int IntKind.i64 n3, Value.int IntKind.i64 n4, Value.int IntKind.i64 n5, Value.int IntKind.i64 n6, Value.int IntKind.i64 n7]) fun i8 H9 =>
            ∃ l10, rowOf H9 5 (some { block := i8, off := 0 }) 1 = some l10 ∧ apd H9 40 5 t3 t3l 1 l10 fun a11 i12 H13 => ∃ i14, i14 < n ∧ I i14 a11 i12 (IntKind.i64.wrap (t4 + 1)) H13
 else
  K0
    [Value.slice t0 t0l 0, undef, Value.slice none 0 0, Value.slice t3 t3l 0, Value.int IntKind.i64 t4, Value.int IntKind.i64 t4, Value.slice t0 t0l 0, Value.int IntKind.i64 (↑t0l : Int),
      Value.bool false, t9, t10, t11, t12, t13, t14, t15, t16, t17, undef]
    H)) :
    LA en L_crossbarkit_CopyDecls_0 [Value.slice t0 t0l 0, undef, Value.slice none 0 0, Value.slice t3 t3l 0, Value.int IntKind.i64 t4, t5, t6, t7, t8, t9, t10, t11, t12, t13, t14, t15, t16, t17, undef] H
  [(X.exit 0, K0)] :=
  rule_crossbarkit_CopyDecls_0 t0 t0l K0 I hstep n t3 t3l t4 t5 t6 t7 t8 t9 t10 t11 t12 t13 t14 t15 t16 t17 H h0



/-! decl_Check -/
noncomputable def L_decl_Check_0 : Code := loopAt Go.Proofs.Try.f14 0

theorem vc_decl_Check (x0 : Option Addr) (x0l : Nat) (H : Heap) (R : Value → Heap → Prop) :
    (bif decide ((↑x0l : Int) > 10) then R (Value.int IntKind.i64 19) H
 else
  LA en L_decl_Check_0
    [Value.slice x0 x0l 0, undef, Value.int IntKind.i64 0, undef, undef, undef, Value.slice x0 x0l 0, Value.int IntKind.i64 (↑x0l : Int), Value.bool false, Value.slice x0 x0l 0,
      Value.int IntKind.i64 (↑x0l : Int), Value.int IntKind.i64 0, undef, undef, undef, undef, undef, undef, undef, undef, undef, undef]
    H
    [(X.exit 0, fun x1 H2 => AS.asInt IntKind.i64 (List.getD x1 2 undef) fun n3 => R (Value.int IntKind.i64 0) H2),
      (X.ret, fun x4 H5 => AS.asInt IntKind.i64 (List.getD x4 2 undef) fun n6 => R (Value.int IntKind.i64 n6) H5)]) →
    CA Go.Proofs.Ytlkmdcncpdadbaa.en F.decl_Check [Value.slice x0 x0l 0] H R := by
  intro h
  refine wpFn_ok (Z := [[(2, Value.int IntKind.i64 0)]]) (fn := Go.Proofs.Try.f14) ?_ ?_ ?_
  · kernel_rfl
  · kernel_rfl
  · apply turnInto h
    kernel_rfl

theorem rule_decl_Check_0 (t0 : Option Addr) (t0l : Nat) (t6 : Option Addr) (t6l : Nat) (t7 : Int) (t9 : Option Addr) (t9l : Nat) (t10 : Int) (K0 : Fr → Heap → Prop) (K1 : Fr → Heap → Prop) (I : Nat → Int → Int → Heap → Prop)
    (hstep : ∀ (n : Nat) (t2 : Int) (t11 : Int) (t4 : Value) (t5 : Value) (t12 : Value) (t13 : Value) (t14 : Value) (t15 : Value) (t16 : Value) (t17 : Value) (t18 : Value) (t19 : Value) (t20 : Value) (t21 : Value) (H : Heap), I n t2 t11 H →
    (bif decide (t11 < t10) then
  inB t11 t9l ∧
    asRow t9 fun i1 i2 =>
      ∃ n3 n4 n5 n6 n7,
        H.cellsAt i1 (i2 + t11.toNat * 5) 5 = some [Value.int IntKind.i64 n3, Value.int IntKind.i64 n4, Value.int IntKind.i64 n5, Value.int IntKind.i64 n6, Value.int IntKind.i64 n7] ∧
          nwH H (AS.Obj.cells true 0 [Value.int IntKind.i64 0, Value.int IntKind.i64 0, Value.int IntKind.i64 0, Value.int IntKind.i64 0, Value.int IntKind.i64 0]) fun i8 H9 =>
            stc H9 i8 0 [Value.int IntKind.i64 n3, Value.int IntKind.i64 n4, Value.int IntKind.i64 n5, Value.int IntKind.i64 n6, Value.int IntKind.i64 n7] fun H10 =>
              ∃ n11 n12 n13 n14 n15,
                H10.cellsAt i8 0 5 = some [Value.int IntKind.i64 n11, Value.int IntKind.i64 n12, Value.int IntKind.i64 n13, Value.int IntKind.i64 n14, Value.int IntKind.i64 n15] ∧
                  CA en F.decl_check
                    [Value.slice t0 t0l 0, Value.agg #[Value.int IntKind.i64 n11, Value.int IntKind.i64 n12, Value.int IntKind.i64 n13, Value.int IntKind.i64 n14, Value.int IntKind.i64 n15]] H10
                    fun v16 H17 =>
                    ∃ n18,
                      v16 = Value.int IntKind.i64 n18 ∧
                        bif n18 != 0 then
                          K1
                            [Value.slice t0 t0l 0, undef, Value.int IntKind.i64 n18, undef, Value.pointer (some { block := i8, off := 0 }), Value.int IntKind.i64 n18, Value.slice t6 t6l 0,
                              Value.int IntKind.i64 t7, Value.bool false, Value.slice t9 t9l 0, Value.int IntKind.i64 t10, Value.int IntKind.i64 t11, Value.bool true,
                              Value.pointer (some { block := i1, off := i2 + t11.toNat * 5 }),
                              Value.agg #[Value.int IntKind.i64 n3, Value.int IntKind.i64 n4, Value.int IntKind.i64 n5, Value.int IntKind.i64 n6, Value.int IntKind.i64 n7], Value.slice t0 t0l 0,
                              Value.agg #[Value.int IntKind.i64 n11, Value.int IntKind.i64 n12, Value.int IntKind.i64 n13, Value.int IntKind.i64 n14, Value.int IntKind.i64 n15],
                              Value.int IntKind.i64 n18, Value.int IntKind.i64 n18, Value.bool true, Value.int IntKind.i64 n18, t21]
                            H17
                        else ∃ i19, i19 < n ∧ I i19 t2 (IntKind.i64.wrap (t11 + 1)) H17
 else
  K0
    [Value.slice t0 t0l 0, undef, Value.int IntKind.i64 t2, undef, t4, t5, Value.slice t6 t6l 0, Value.int IntKind.i64 t7, Value.bool false, Value.slice t9 t9l 0, Value.int IntKind.i64 t10,
      Value.int IntKind.i64 t11, Value.bool false, t13, t14, t15, t16, t17, t18, t19, t20, t21]
    H)) :
    ∀ (n : Nat) (t2 : Int) (t11 : Int) (t4 : Value) (t5 : Value) (t12 : Value) (t13 : Value) (t14 : Value) (t15 : Value) (t16 : Value) (t17 : Value) (t18 : Value) (t19 : Value) (t20 : Value) (t21 : Value) (H : Heap), I n t2 t11 H →
    LA en L_decl_Check_0
  [Value.slice t0 t0l 0, undef, Value.int IntKind.i64 t2, undef, t4, t5, Value.slice t6 t6l 0, Value.int IntKind.i64 t7, Value.bool false, Value.slice t9 t9l 0, Value.int IntKind.i64 t10,
    Value.int IntKind.i64 t11, t12, t13, t14, t15, t16, t17, t18, t19, t20, t21]
  H [(X.exit 0, K0), (X.ret, K1)] := by
  intro n t2 t11 t4 t5 t12 t13 t14 t15 t16 t17 t18 t19 t20 t21 H hI
  refine LA_rule (Z := []) (fun m xs H' => AS.asInt IntKind.i64 (xs.getD 2 undef) fun t2 => AS.asInt IntKind.i64 (xs.getD 11 undef) fun t11 => I m t2 t11 H') ?_ n H ?_
  · intro n H
    suffices hs : ∀ s12 : Value, ∀ s13 : Value, ∀ s14 : Value, ∀ s4 : Value, ∀ s15 : Value, ∀ s16 : Value, ∀ s17 : Value, ∀ s5 : Value, ∀ s18 : Value, ∀ s19 : Value, ∀ s20 : Value, ∀ s2 : Value, ∀ s21 : Value, ∀ s11 : Value, ((AS.asInt IntKind.i64 s2 fun n1 => AS.asInt IntKind.i64 s11 fun n2 => I n n1 n2 H) → wpCode en L_decl_Check_0 []
  [Value.slice t0 t0l 0, undef, s2, undef, s4, s5, Value.slice t6 t6l 0, Value.int IntKind.i64 t7, Value.bool false, Value.slice t9 t9l 0, Value.int IntKind.i64 t10, s11, s12, s13, s14, s15, s16, s17,
    s18, s19, s20, s21]
  H (loopQ (fun m xs H' => AS.asInt IntKind.i64 (xs.getD 2 undef) fun t2 => AS.asInt IntKind.i64 (xs.getD 11 undef) fun t11 => I m t2 t11 H') n [(X.exit 0, K0), (X.ret, K1)])) by
      apply turnInto hs
      kernel_rfl
    intro s12 s13 s14 s4 s15 s16 s17 s5 s18 s19 s20 s2 s21 s11 hP
    replace hP := asInt_elim hP
    obtain ⟨t2, rfl, hP⟩ := hP
    replace hP := asInt_elim hP
    obtain ⟨t11, rfl, hP⟩ := hP
    apply turnInto (hstep n t2 t11 s4 s5 s12 s13 s14 s15 s16 s17 s18 s19 s20 s21 H hP)
    kernel_rfl
  · apply turnInto hI
    kernel_rfl

theorem use_decl_Check_0 {t0 : Option Addr} {t0l : Nat} {t6 : Option Addr} {t6l : Nat} {t7 : Int} {t9 : Option Addr} {t9l : Nat} {t10 : Int} {K0 : Fr → Heap → Prop} {K1 : Fr → Heap → Prop} {t2 : Int} {t11 : Int} {t4 : Value} {t5 : Value} {t12 : Value} {t13 : Value} {t14 : Value} {t15 : Value} {t16 : Value} {t17 : Value} {t18 : Value} {t19 : Value} {t20 : Value} {t21 : Value} {H : Heap} (I : Nat → Int → Int → Heap → Prop) (n : Nat) (h0 : I n t2 t11 H)
    (hstep : ∀ (n : Nat) (t2 : Int) (t11 : Int) (t4 : Value) (t5 : Value) (t12 : Value) (t13 : Value) (t14 : Value) (t15 : Value) (t16 : Value) (t17 : Value) (t18 : Value) (t19 : Value) (t20 : Value) (t21 : Value) (H : Heap), I n t2 t11 H →
    (bif decide (t11 < t10) then
  inB t11 t9l ∧
    asRow t9 fun i1 i2 =>
      ∃ n3 n4 n5 n6 n7,
        H.cellsAt i1 (i2 + t11.toNat * 5) 5 = some [Value.int IntKind.i64 n3, Value.int IntKind.i64 n4, Value.int IntKind.i64 n5, Value.int IntKind.i64 n6, Value.int IntKind.i64 n7] ∧
          nwH H (AS.Obj.cells true 0 [Value.int IntKind.i64 0, Value.int IntKind.i64 0, Value.int IntKind.i64 0, Value.int IntKind.i64 0, Value.int IntKind.i64 0]) fun i8 H9 =>
            stc H9 i8 0 [Value.int IntKind.i64 n3, Value.int IntKind.i64 n4, Value.int IntKind.i64 n5, Value.int IntKind.i64 n6, Value.int IntKind.i64 n7] fun H10 =>
              ∃ n11 n12 n13 n14 n15,
                H10.cellsAt i8 0 5 = some [Value.int IntKind.i64 n11, Value.int IntKind.i64 n12, Value.int IntKind.i64 n13, Value.int IntKind.i64 n14, Value.int IntKind.i64 n15] ∧
                  CA en F.decl_check
                    [Value.slice t0 t0l 0, Value.agg #[Value.int IntKind.i64 n11, Value.int IntKind.i64 n12, Value.int IntKind.i64 n13, Value.int IntKind.i64 n14, Value.int IntKind.i64 n15]] H10
                    fun v16 H17 =>
                    ∃ n18,
                      v16 = Value.int IntKind.i64 n18 ∧
                        bif n18 != 0 then
                          K1
                            [Value.slice t0 t0l 0, undef, Value.int IntKind.i64 n18, undef, Value.pointer (some { block := i8, off := 0 }), Value.int IntKind.i64 n18, Value.slice t6 t6l 0,
                              Value.int IntKind.i64 t7, Value.bool false, Value.slice t9 t9l 0, Value.int IntKind.i64 t10, Value.int IntKind.i64 t11, Value.bool true,
                              Value.pointer (some { block := i1, off := i2 + t11.toNat * 5 }),
                              Value.agg #[Value.int IntKind.i64 n3, Value.int IntKind.i64 n4, Value.int IntKind.i64 n5, Value.int IntKind.i64 n6, Value.int IntKind.i64 n7], Value.slice t0 t0l 0,
                              Value.agg #[Value.int IntKind.i64 n11, Value.int IntKind.i64 n12, Value.int IntKind.i64 n13, Value.int IntKind.i64 n14, Value.int IntKind.i64 n15],
                              Value.int IntKind.i64 n18, Value.int IntKind.i64 n18, Value.bool true, Value.int IntKind.i64 n18, t21]
                            H17
                        else ∃ i19, i19 < n ∧ I i19 t2 (IntKind.i64.wrap (t11 + 1)) H17
 else
  K0
    [Value.slice t0 t0l 0, undef, Value.int IntKind.i64 t2, undef, t4, t5, Value.slice t6 t6l 0, Value.int IntKind.i64 t7, Value.bool false, Value.slice t9 t9l 0, Value.int IntKind.i64 t10,
      Value.int IntKind.i64 t11, Value.bool false, t13, t14, t15, t16, t17, t18, t19, t20, t21]
    H)) :
    LA en L_decl_Check_0
  [Value.slice t0 t0l 0, undef, Value.int IntKind.i64 t2, undef, t4, t5, Value.slice t6 t6l 0, Value.int IntKind.i64 t7, Value.bool false, Value.slice t9 t9l 0, Value.int IntKind.i64 t10,
    Value.int IntKind.i64 t11, t12, t13, t14, t15, t16, t17, t18, t19, t20, t21]
  H [(X.exit 0, K0), (X.ret, K1)] :=
  rule_decl_Check_0 t0 t0l t6 t6l t7 t9 t9l t10 K0 K1 I hstep n t2 t11 t4 t5 t12 t13 t14 t15 t16 t17 t18 t19 t20 t21 H h0



/-! crossbarref07_Check -/
noncomputable def L_crossbarref07_Check_0 : Code := loopAt Go.Proofs.Try.f15 0

theorem vc_crossbarref07_Check (x0 : Option Addr) (x0l : Nat) (H : Heap) (R : Value → Heap → Prop) :
    (bif decide ((↑x0l : Int) > 10) then R (Value.int IntKind.i64 19) H
 else
  LA en L_crossbarref07_Check_0
    [Value.slice x0 x0l 0, undef, Value.int IntKind.i64 0, Value.int IntKind.i64 0, undef, Value.slice x0 x0l 0, Value.int IntKind.i64 (↑x0l : Int), Value.bool false, undef, undef, undef, undef,
      undef, undef, undef, undef, undef, undef, undef, undef, undef, undef, undef]
    H
    [(X.exit 0, fun x1 H2 => AS.asInt IntKind.i64 (List.getD x1 2 undef) fun n3 => R (Value.int IntKind.i64 0) H2),
      (X.ret, fun x4 H5 => AS.asInt IntKind.i64 (List.getD x4 2 undef) fun n6 => R (Value.int IntKind.i64 n6) H5)]) →
    CA Go.Proofs.Ytlkmdcncpdadbaa.en F.crossbarref07_Check [Value.slice x0 x0l 0] H R := by
  intro h
  refine wpFn_ok (Z := [[(2, Value.int IntKind.i64 0)]]) (fn := Go.Proofs.Try.f15) ?_ ?_ ?_
  · kernel_rfl
  · kernel_rfl
  · apply turnInto h
    kernel_rfl

theorem rule_crossbarref07_Check_0 (t0 : Option Addr) (t0l : Nat) (t5 : Option Addr) (t5l : Nat) (t6 : Int) (K0 : Fr → Heap → Prop) (K1 : Fr → Heap → Prop) (I : Nat → Int → Int → Heap → Prop)
    (hstep : ∀ (n : Nat) (t2 : Int) (t3 : Int) (t4 : Value) (t8 : Value) (t9 : Value) (t10 : Value) (t11 : Value) (t12 : Value) (t13 : Value) (t14 : Value) (t15 : Value) (t16 : Value) (t17 : Value) (t18 : Value) (t19 : Value) (t20 : Value) (t21 : Value) (t22 : Value) (H : Heap), I n t2 t3 H →
    (bif decide (t3 < (↑t0l : Int)) then
  inB t3 t0l ∧
    asRow t0 fun i1 i2 =>
      ∃ n3 n4 n5 n6 n7,
        H.cellsAt i1 (i2 + t3.toNat * 5) 5 = some [Value.int IntKind.i64 n3, Value.int IntKind.i64 n4, Value.int IntKind.i64 n5, Value.int IntKind.i64 n6, Value.int IntKind.i64 n7] ∧
          CA en F.crossbarref07_one
            [Value.slice t0 t0l 0, Value.agg #[Value.int IntKind.i64 n3, Value.int IntKind.i64 n4, Value.int IntKind.i64 n5, Value.int IntKind.i64 n6, Value.int IntKind.i64 n7]] H fun v8 H9 =>
            ∃ n10,
              v8 = Value.int IntKind.i64 n10 ∧
                bif n10 != 0 then
                  K1
                    [Value.slice t0 t0l 0, undef, Value.int IntKind.i64 n10, Value.int IntKind.i64 t3, Value.int IntKind.i64 n10, Value.slice t5 t5l 0, Value.int IntKind.i64 t6, Value.bool false,
                      Value.int IntKind.i64 t3, Value.slice t0 t0l 0, Value.int IntKind.i64 (↑t0l : Int), Value.bool true, t12, t13, Value.slice t0 t0l 0, Value.slice t0 t0l 0,
                      Value.int IntKind.i64 t3, Value.pointer (some { block := i1, off := i2 + t3.toNat * 5 }),
                      Value.agg #[Value.int IntKind.i64 n3, Value.int IntKind.i64 n4, Value.int IntKind.i64 n5, Value.int IntKind.i64 n6, Value.int IntKind.i64 n7], Value.int IntKind.i64 n10,
                      Value.int IntKind.i64 n10, Value.bool true, Value.int IntKind.i64 n10]
                    H9
                else ∃ i11, i11 < n ∧ I i11 t2 (IntKind.i64.wrap (t3 + 1)) H9
 else
  K0
    [Value.slice t0 t0l 0, undef, Value.int IntKind.i64 t2, Value.int IntKind.i64 t3, t4, Value.slice t5 t5l 0, Value.int IntKind.i64 t6, Value.bool false, Value.int IntKind.i64 t3,
      Value.slice t0 t0l 0, Value.int IntKind.i64 (↑t0l : Int), Value.bool false, t12, t13, t14, t15, t16, t17, t18, t19, t20, t21, t22]
    H)) :
    ∀ (n : Nat) (t2 : Int) (t3 : Int) (t4 : Value) (t8 : Value) (t9 : Value) (t10 : Value) (t11 : Value) (t12 : Value) (t13 : Value) (t14 : Value) (t15 : Value) (t16 : Value) (t17 : Value) (t18 : Value) (t19 : Value) (t20 : Value) (t21 : Value) (t22 : Value) (H : Heap), I n t2 t3 H →
    LA en L_crossbarref07_Check_0
  [Value.slice t0 t0l 0, undef, Value.int IntKind.i64 t2, Value.int IntKind.i64 t3, t4, Value.slice t5 t5l 0, Value.int IntKind.i64 t6, Value.bool false, t8, t9, t10, t11, t12, t13, t14, t15, t16,
    t17, t18, t19, t20, t21, t22]
  H [(X.exit 0, K0), (X.ret, K1)] := by
  intro n t2 t3 t4 t8 t9 t10 t11 t12 t13 t14 t15 t16 t17 t18 t19 t20 t21 t22 H hI
  refine LA_rule (Z := []) (fun m xs H' => AS.asInt IntKind.i64 (xs.getD 2 undef) fun t2 => AS.asInt IntKind.i64 (xs.getD 3 undef) fun t3 => I m t2 t3 H') ?_ n H ?_
  · intro n H
    suffices hs : ∀ s8 : Value, ∀ s9 : Value, ∀ s10 : Value, ∀ s11 : Value, ∀ s14 : Value, ∀ s15 : Value, ∀ s16 : Value, ∀ s17 : Value, ∀ s18 : Value, ∀ s19 : Value, ∀ s4 : Value, ∀ s20 : Value, ∀ s21 : Value, ∀ s22 : Value, ∀ s2 : Value, ∀ s12 : Value, ∀ s13 : Value, ∀ s3 : Value, ((AS.asInt IntKind.i64 s2 fun n1 => AS.asInt IntKind.i64 s3 fun n2 => I n n1 n2 H) → wpCode en L_crossbarref07_Check_0 []
  [Value.slice t0 t0l 0, undef, s2, s3, s4, Value.slice t5 t5l 0, Value.int IntKind.i64 t6, Value.bool false, s8, s9, s10, s11, s12, s13, s14, s15, s16, s17, s18, s19, s20, s21, s22] H
  (loopQ (fun m xs H' => AS.asInt IntKind.i64 (xs.getD 2 undef) fun t2 => AS.asInt IntKind.i64 (xs.getD 3 undef) fun t3 => I m t2 t3 H') n [(X.exit 0, K0), (X.ret, K1)])) by
      apply turnInto hs
      kernel_rfl
    intro s8 s9 s10 s11 s14 s15 s16 s17 s18 s19 s4 s20 s21 s22 s2 s12 s13 s3 hP
    replace hP := asInt_elim hP
    obtain ⟨t2, rfl, hP⟩ := hP
    replace hP := asInt_elim hP
    obtain ⟨t3, rfl, hP⟩ := hP
    apply turnInto (hstep n t2 t3 s4 s8 s9 s10 s11 s12 s13 s14 s15 s16 s17 s18 s19 s20 s21 s22 H hP)
    kernel_rfl
  · apply turnInto hI
    kernel_rfl

theorem use_crossbarref07_Check_0 {t0 : Option Addr} {t0l : Nat} {t5 : Option Addr} {t5l : Nat} {t6 : Int} {K0 : Fr → Heap → Prop} {K1 : Fr → Heap → Prop} {t2 : Int} {t3 : Int} {t4 : Value} {t8 : Value} {t9 : Value} {t10 : Value} {t11 : Value} {t12 : Value} {t13 : Value} {t14 : Value} {t15 : Value} {t16 : Value} {t17 : Value} {t18 : Value} {t19 : Value} {t20 : Value} {t21 : Value} {t22 : Value} {H : Heap} (I : Nat → Int → Int → Heap → Prop) (n : Nat) (h0 : I n t2 t3 H)
    (hstep : ∀ (n : Nat) (t2 : Int) (t3 : Int) (t4 : Value) (t8 : Value) (t9 : Value) (t10 : Value) (t11 : Value) (t12 : Value) (t13 : Value) (t14 : Value) (t15 : Value) (t16 : Value) (t17 : Value) (t18 : Value) (t19 : Value) (t20 : Value) (t21 : Value) (t22 : Value) (H : Heap), I n t2 t3 H →
    (bif decide (t3 < (↑t0l : Int)) then
  inB t3 t0l ∧
    asRow t0 fun i1 i2 =>
      ∃ n3 n4 n5 n6 n7,
        H.cellsAt i1 (i2 + t3.toNat * 5) 5 = some [Value.int IntKind.i64 n3, Value.int IntKind.i64 n4, Value.int IntKind.i64 n5, Value.int IntKind.i64 n6, Value.int IntKind.i64 n7] ∧
          CA en F.crossbarref07_one
            [Value.slice t0 t0l 0, Value.agg #[Value.int IntKind.i64 n3, Value.int IntKind.i64 n4, Value.int IntKind.i64 n5, Value.int IntKind.i64 n6, Value.int IntKind.i64 n7]] H fun v8 H9 =>
            ∃ n10,
              v8 = Value.int IntKind.i64 n10 ∧
                bif n10 != 0 then
                  K1
                    [Value.slice t0 t0l 0, undef, Value.int IntKind.i64 n10, Value.int IntKind.i64 t3, Value.int IntKind.i64 n10, Value.slice t5 t5l 0, Value.int IntKind.i64 t6, Value.bool false,
                      Value.int IntKind.i64 t3, Value.slice t0 t0l 0, Value.int IntKind.i64 (↑t0l : Int), Value.bool true, t12, t13, Value.slice t0 t0l 0, Value.slice t0 t0l 0,
                      Value.int IntKind.i64 t3, Value.pointer (some { block := i1, off := i2 + t3.toNat * 5 }),
                      Value.agg #[Value.int IntKind.i64 n3, Value.int IntKind.i64 n4, Value.int IntKind.i64 n5, Value.int IntKind.i64 n6, Value.int IntKind.i64 n7], Value.int IntKind.i64 n10,
                      Value.int IntKind.i64 n10, Value.bool true, Value.int IntKind.i64 n10]
                    H9
                else ∃ i11, i11 < n ∧ I i11 t2 (IntKind.i64.wrap (t3 + 1)) H9
 else
  K0
    [Value.slice t0 t0l 0, undef, Value.int IntKind.i64 t2, Value.int IntKind.i64 t3, t4, Value.slice t5 t5l 0, Value.int IntKind.i64 t6, Value.bool false, Value.int IntKind.i64 t3,
      Value.slice t0 t0l 0, Value.int IntKind.i64 (↑t0l : Int), Value.bool false, t12, t13, t14, t15, t16, t17, t18, t19, t20, t21, t22]
    H)) :
    LA en L_crossbarref07_Check_0
  [Value.slice t0 t0l 0, undef, Value.int IntKind.i64 t2, Value.int IntKind.i64 t3, t4, Value.slice t5 t5l 0, Value.int IntKind.i64 t6, Value.bool false, t8, t9, t10, t11, t12, t13, t14, t15, t16,
    t17, t18, t19, t20, t21, t22]
  H [(X.exit 0, K0), (X.ret, K1)] :=
  rule_crossbarref07_Check_0 t0 t0l t5 t5l t6 K0 K1 I hstep n t2 t3 t4 t8 t9 t10 t11 t12 t13 t14 t15 t16 t17 t18 t19 t20 t21 t22 H h0



/-! crossbarkit_SameDecls -/
noncomputable def L_crossbarkit_SameDecls_0 : Code := loopAt Go.Proofs.Try.f16 0

theorem vc_crossbarkit_SameDecls (x0 : Option Addr) (x0l : Nat) (x1 : Option Addr) (x1l : Nat) (H : Heap) (R : Value → Heap → Prop) :
    (bif (↑x0l : Int) != (↑x1l : Int) then R (Value.bool false) H
 else
  LA en L_crossbarkit_SameDecls_0
    [Value.slice x0 x0l 0, Value.slice x1 x1l 0, undef, undef, Value.bool false, Value.int IntKind.i64 0, Value.slice x0 x0l 0, Value.int IntKind.i64 (↑x0l : Int), Value.slice x1 x1l 0,
      Value.int IntKind.i64 (↑x1l : Int), Value.bool false, undef, undef, undef, undef, undef, undef, undef, undef, undef, undef, undef, undef, undef, undef, undef]
    H [(X.exit 0, fun x1 H2 => AS.asBool (List.getD x1 4 undef) fun b3 => R (Value.bool true) H2), (X.ret, fun x4 H5 => AS.asBool (List.getD x4 4 undef) fun b6 => R (Value.bool b6) H5)]) →
    CA Go.Proofs.Ytlkmdcncpdadbaa.en F.crossbarkit_SameDecls [Value.slice x0 x0l 0, Value.slice x1 x1l 0] H R := by
  intro h
  refine wpFn_ok (Z := [[(4, Value.bool false)]]) (fn := Go.Proofs.Try.f16) ?_ ?_ ?_
  · kernel_rfl
  · kernel_rfl
  · apply turnInto h
    kernel_rfl

theorem rule_crossbarkit_SameDecls_0 (t0 : Option Addr) (t0l : Nat) (t1 : Option Addr) (t1l : Nat) (t6 : Option Addr) (t6l : Nat) (t7 : Int) (t8 : Option Addr) (t8l : Nat) (t9 : Int) (K0 : Fr → Heap → Prop) (K1 : Fr → Heap → Prop) (I : Nat → Bool → Int → Heap → Prop)
    (hstep : ∀ (n : Nat) (t4 : Bool) (t5 : Int) (t11 : Value) (t12 : Value) (t13 : Value) (t14 : Value) (t15 : Value) (t16 : Value) (t17 : Value) (t18 : Value) (t19 : Value) (t20 : Value) (t21 : Value) (t22 : Value) (t23 : Value) (t24 : Value) (t25 : Value) (H : Heap), I n t4 t5 H →
    (bif decide (t5 < (↑t0l : Int)) then
  inB t5 t0l ∧
    asRow t0 fun i1 i2 =>
      ∃ n3 n4 n5 n6 n7,
        (H.bump 9).cellsAt i1 (i2 + t5.toNat * 5) 5 = some [Value.int IntKind.i64 n3, Value.int IntKind.i64 n4, Value.int IntKind.i64 n5, Value.int IntKind.i64 n6, Value.int IntKind.i64 n7] ∧
          inB t5 t1l ∧
            asRow t1 fun i8 i9 =>
              ∃ n10 n11 n12 n13 n14,
                (H.bump 9).cellsAt i8 (i9 + t5.toNat * 5) 5 =
                    some [Value.int IntKind.i64 n10, Value.int IntKind.i64 n11, Value.int IntKind.i64 n12, Value.int IntKind.i64 n13, Value.int IntKind.i64 n14] ∧
                  (bif !(n3 == n10 && (n4 == n11 && (n5 == n12 && (n6 == n13 && n7 == n14)))) then
                      K1
                        [Value.slice t0 t0l 0, Value.slice t1 t1l 0, undef, undef, Value.bool false, Value.int IntKind.i64 t5, Value.slice t6 t6l 0, Value.int IntKind.i64 t7, Value.slice t8 t8l 0,
                          Value.int IntKind.i64 t9, Value.bool false, Value.int IntKind.i64 t5, Value.slice t0 t0l 0, Value.int IntKind.i64 (↑t0l : Int), Value.bool true, t15, t16,
                          Value.slice t0 t0l 0, Value.int IntKind.i64 t5, Value.pointer (some { block := i1, off := i2 + t5.toNat * 5 }),
                          Value.agg #[Value.int IntKind.i64 n3, Value.int IntKind.i64 n4, Value.int IntKind.i64 n5, Value.int IntKind.i64 n6, Value.int IntKind.i64 n7], Value.slice t1 t1l 0,
                          Value.int IntKind.i64 t5, Value.pointer (some { block := i8, off := i9 + t5.toNat * 5 }),
                          Value.agg #[Value.int IntKind.i64 n10, Value.int IntKind.i64 n11, Value.int IntKind.i64 n12, Value.int IntKind.i64 n13, Value.int IntKind.i64 n14], Value.bool true]
                        (H.bump 9)
                    else ∃ i15, i15 < n ∧ I i15 t4 (IntKind.i64.wrap (t5 + 1)) (H.bump 9)) ∧
                    True
 else
  K0
    [Value.slice t0 t0l 0, Value.slice t1 t1l 0, undef, undef, Value.bool t4, Value.int IntKind.i64 t5, Value.slice t6 t6l 0, Value.int IntKind.i64 t7, Value.slice t8 t8l 0, Value.int IntKind.i64 t9,
      Value.bool false, Value.int IntKind.i64 t5, Value.slice t0 t0l 0, Value.int IntKind.i64 (↑t0l : Int), Value.bool false, t15, t16, t17, t18, t19, t20, t21, t22, t23, t24, t25]
    H)) :
    ∀ (n : Nat) (t4 : Bool) (t5 : Int) (t11 : Value) (t12 : Value) (t13 : Value) (t14 : Value) (t15 : Value) (t16 : Value) (t17 : Value) (t18 : Value) (t19 : Value) (t20 : Value) (t21 : Value) (t22 : Value) (t23 : Value) (t24 : Value) (t25 : Value) (H : Heap), I n t4 t5 H →
    LA en L_crossbarkit_SameDecls_0
  [Value.slice t0 t0l 0, Value.slice t1 t1l 0, undef, undef, Value.bool t4, Value.int IntKind.i64 t5, Value.slice t6 t6l 0, Value.int IntKind.i64 t7, Value.slice t8 t8l 0, Value.int IntKind.i64 t9,
    Value.bool false, t11, t12, t13, t14, t15, t16, t17, t18, t19, t20, t21, t22, t23, t24, t25]
  H [(X.exit 0, K0), (X.ret, K1)] := by
  intro n t4 t5 t11 t12 t13 t14 t15 t16 t17 t18 t19 t20 t21 t22 t23 t24 t25 H hI
  refine LA_rule (Z := []) (fun m xs H' => AS.asBool (xs.getD 4 undef) fun t4 => AS.asInt IntKind.i64 (xs.getD 5 undef) fun t5 => I m t4 t5 H') ?_ n H ?_
  · intro n H
    suffices hs : ∀ s11 : Value, ∀ s12 : Value, ∀ s13 : Value, ∀ s14 : Value, ∀ s17 : Value, ∀ s18 : Value, ∀ s19 : Value, ∀ s20 : Value, ∀ s21 : Value, ∀ s22 : Value, ∀ s23 : Value, ∀ s24 : Value, ∀ s25 : Value, ∀ s4 : Value, ∀ s15 : Value, ∀ s16 : Value, ∀ s5 : Value, ((AS.asBool s4 fun b1 => AS.asInt IntKind.i64 s5 fun n2 => I n b1 n2 H) → wpCode en L_crossbarkit_SameDecls_0 []
  [Value.slice t0 t0l 0, Value.slice t1 t1l 0, undef, undef, s4, s5, Value.slice t6 t6l 0, Value.int IntKind.i64 t7, Value.slice t8 t8l 0, Value.int IntKind.i64 t9, Value.bool false, s11, s12, s13,
    s14, s15, s16, s17, s18, s19, s20, s21, s22, s23, s24, s25]
  H (loopQ (fun m xs H' => AS.asBool (xs.getD 4 undef) fun t4 => AS.asInt IntKind.i64 (xs.getD 5 undef) fun t5 => I m t4 t5 H') n [(X.exit 0, K0), (X.ret, K1)])) by
      apply turnInto hs
      kernel_rfl
    intro s11 s12 s13 s14 s17 s18 s19 s20 s21 s22 s23 s24 s25 s4 s15 s16 s5 hP
    replace hP := asBool_elim hP
    obtain ⟨t4, rfl, hP⟩ := hP
    replace hP := asInt_elim hP
    obtain ⟨t5, rfl, hP⟩ := hP
    apply turnInto (hstep n t4 t5 s11 s12 s13 s14 s15 s16 s17 s18 s19 s20 s21 s22 s23 s24 s25 H hP)
    kernel_rfl
  · apply turnInto hI
    kernel_rfl

theorem use_crossbarkit_SameDecls_0 {t0 : Option Addr} {t0l : Nat} {t1 : Option Addr} {t1l : Nat} {t6 : Option Addr} {t6l : Nat} {t7 : Int} {t8 : Option Addr} {t8l : Nat} {t9 : Int} {K0 : Fr → Heap → Prop} {K1 : Fr → Heap → Prop} {t4 : Bool} {t5 : Int} {t11 : Value} {t12 : Value} {t13 : Value} {t14 : Value} {t15 : Value} {t16 : Value} {t17 : Value} {t18 : Value} {t19 : Value} {t20 : Value} {t21 : Value} {t22 : Value} {t23 : Value} {t24 : Value} {t25 : Value} {H : Heap} (I : Nat → Bool → Int → Heap → Prop) (n : Nat) (h0 : I n t4 t5 H)
    (hstep : ∀ (n : Nat) (t4 : Bool) (t5 : Int) (t11 : Value) (t12 : Value) (t13 : Value) (t14 : Value) (t15 : Value) (t16 : Value) (t17 : Value) (t18 : Value) (t19 : Value) (t20 : Value) (t21 : Value) (t22 : Value) (t23 : Value) (t24 : Value) (t25 : Value) (H : Heap), I n t4 t5 H →
    (bif decide (t5 < (↑t0l : Int)) then
  inB t5 t0l ∧
    asRow t0 fun i1 i2 =>
      ∃ n3 n4 n5 n6 n7,
        (H.bump 9).cellsAt i1 (i2 + t5.toNat * 5) 5 = some [Value.int IntKind.i64 n3, Value.int IntKind.i64 n4, Value.int IntKind.i64 n5, Value.int IntKind.i64 n6, Value.int IntKind.i64 n7] ∧
          inB t5 t1l ∧
            asRow t1 fun i8 i9 =>
              ∃ n10 n11 n12 n13 n14,
                (H.bump 9).cellsAt i8 (i9 + t5.toNat * 5) 5 =
                    some [Value.int IntKind.i64 n10, Value.int IntKind.i64 n11, Value.int IntKind.i64 n12, Value.int IntKind.i64 n13, Value.int IntKind.i64 n14] ∧
                  (bif !(n3 == n10 && (n4 == n11 && (n5 == n12 && (n6 == n13 && n7 == n14)))) then
                      K1
                        [Value.slice t0 t0l 0, Value.slice t1 t1l 0, undef, undef, Value.bool false, Value.int IntKind.i64 t5, Value.slice t6 t6l 0, Value.int IntKind.i64 t7, Value.slice t8 t8l 0,
                          Value.int IntKind.i64 t9, Value.bool false, Value.int IntKind.i64 t5, Value.slice t0 t0l 0, Value.int IntKind.i64 (↑t0l : Int), Value.bool true, t15, t16,
                          Value.slice t0 t0l 0, Value.int IntKind.i64 t5, Value.pointer (some { block := i1, off := i2 + t5.toNat * 5 }),
                          Value.agg #[Value.int IntKind.i64 n3, Value.int IntKind.i64 n4, Value.int IntKind.i64 n5, Value.int IntKind.i64 n6, Value.int IntKind.i64 n7], Value.slice t1 t1l 0,
                          Value.int IntKind.i64 t5, Value.pointer (some { block := i8, off := i9 + t5.toNat * 5 }),
                          Value.agg #[Value.int IntKind.i64 n10, Value.int IntKind.i64 n11, Value.int IntKind.i64 n12, Value.int IntKind.i64 n13, Value.int IntKind.i64 n14], Value.bool true]
                        (H.bump 9)
                    else ∃ i15, i15 < n ∧ I i15 t4 (IntKind.i64.wrap (t5 + 1)) (H.bump 9)) ∧
                    True
 else
  K0
    [Value.slice t0 t0l 0, Value.slice t1 t1l 0, undef, undef, Value.bool t4, Value.int IntKind.i64 t5, Value.slice t6 t6l 0, Value.int IntKind.i64 t7, Value.slice t8 t8l 0, Value.int IntKind.i64 t9,
      Value.bool false, Value.int IntKind.i64 t5, Value.slice t0 t0l 0, Value.int IntKind.i64 (↑t0l : Int), Value.bool false, t15, t16, t17, t18, t19, t20, t21, t22, t23, t24, t25]
    H)) :
    LA en L_crossbarkit_SameDecls_0
  [Value.slice t0 t0l 0, Value.slice t1 t1l 0, undef, undef, Value.bool t4, Value.int IntKind.i64 t5, Value.slice t6 t6l 0, Value.int IntKind.i64 t7, Value.slice t8 t8l 0, Value.int IntKind.i64 t9,
    Value.bool false, t11, t12, t13, t14, t15, t16, t17, t18, t19, t20, t21, t22, t23, t24, t25]
  H [(X.exit 0, K0), (X.ret, K1)] :=
  rule_crossbarkit_SameDecls_0 t0 t0l t1 t1l t6 t6l t7 t8 t8l t9 K0 K1 I hstep n t4 t5 t11 t12 t13 t14 t15 t16 t17 t18 t19 t20 t21 t22 t23 t24 t25 H h0



/-! decl_check -/

theorem vc_decl_check (x0 : Option Addr) (x0l : Nat) (x10 : Int) (x11 : Int) (x12 : Int) (x13 : Int) (x14 : Int) (H : Heap) (R : Value → Heap → Prop) :
    (nwH H (AS.Obj.cells true 0 [Value.int IntKind.i64 x10, Value.int IntKind.i64 x11, Value.int IntKind.i64 x12, Value.int IntKind.i64 x13, Value.int IntKind.i64 x14]) fun i1 H2 =>
  ∃ n3,
    H2.cell i1 0 = some (Value.int IntKind.i64 n3) ∧
      CA en F.decl_kinds [Value.int IntKind.i64 n3] H2 fun v4 H5 =>
        ∃ n6 b7 b8 a9 i10 b11 b12,
          v4 = Value.tuple #[Value.agg #[Value.int IntKind.i64 n6, Value.bool b7, Value.bool b8, Value.slice a9 i10 0, Value.bool b11], Value.bool b12] ∧
            nwH H5 (AS.Obj.cells true 0 [Value.int IntKind.i64 0, Value.bool false, Value.bool false, Value.slice none 0 0, Value.bool false]) fun i13 H14 =>
              stc H14 i13 0 [Value.int IntKind.i64 n6, Value.bool b7, Value.bool b8, Value.slice a9 i10 0, Value.bool b11] fun H15 =>
                bif !b12 then R (Value.int IntKind.i64 1) H15
                else
                  ∃ n16,
                    H15.cell i1 1 = some (Value.int IntKind.i64 n16) ∧
                      CA en F.decl_within [Value.int IntKind.i64 n16, Value.int IntKind.i64 64] H15 fun v17 H18 =>
                        ∃ b19,
                          v17 = Value.bool b19 ∧
                            bif !b19 then R (Value.int IntKind.i64 1) H18
                            else
                              ∃ n20,
                                H18.cell i1 2 = some (Value.int IntKind.i64 n20) ∧
                                  ∃ n21,
                                    H18.cell i13 0 = some (Value.int IntKind.i64 n21) ∧
                                      CA en F.decl_within [Value.int IntKind.i64 n20, Value.int IntKind.i64 n21] H18 fun v22 H23 =>
                                        ∃ b24,
                                          v22 = Value.bool b24 ∧
                                            bif !b24 then R (Value.int IntKind.i64 1) H23
                                            else
                                              ∃ b25,
                                                H23.cell i13 1 = some (Value.bool b25) ∧
                                                  bif b25 then
                                                    ∃ n26,
                                                      H23.cell i1 3 = some (Value.int IntKind.i64 n26) ∧
                                                        CA en F.decl_within [Value.int IntKind.i64 n26, Value.int IntKind.i64 32] H23 fun v27 H28 =>
                                                          ∃ b29,
                                                            v27 = Value.bool b29 ∧
                                                              bif !b29 then R (Value.int IntKind.i64 1) H28
                                                              else
                                                                ∃ n30,
                                                                  H28.cell i1 3 = some (Value.int IntKind.i64 n30) ∧
                                                                    CA en F.math_bits_OnesCount [Value.int IntKind.u64 (IntKind.u64.wrap n30)] H28 fun v31 H32 =>
                                                                      ∃ n33,
                                                                        v31 = Value.int IntKind.i64 n33 ∧
                                                                          bif n33 != 1 then R (Value.int IntKind.i64 1) H32
                                                                          else
                                                                            ∃ b34,
                                                                              H32.cell i13 1 = some (Value.bool b34) ∧
                                                                                bif !b34 then
                                                                                  ∃ n35,
                                                                                    H32.cell i1 3 = some (Value.int IntKind.i64 n35) ∧
                                                                                      bif n35 != 0 then R (Value.int IntKind.i64 1) H32
                                                                                      else
                                                                                        ∃ b36,
                                                                                          H32.cell i13 2 = some (Value.bool b36) ∧
                                                                                            bif b36 then
                                                                                              ∃ n37,
                                                                                                H32.cell i1 4 = some (Value.int IntKind.i64 n37) ∧
                                                                                                  CA en F.decl_within [Value.int IntKind.i64 n37, Value.int IntKind.i64 (↑x0l : Int)] H32 fun v38 H39 =>
                                                                                                    ∃ b40,
                                                                                                      v38 = Value.bool b40 ∧
                                                                                                        bif !b40 then R (Value.int IntKind.i64 1) H39
                                                                                                        else
                                                                                                          ∃ b41,
                                                                                                            H39.cell i13 2 = some (Value.bool b41) ∧
                                                                                                              bif !b41 then
                                                                                                                ∃ n42,
                                                                                                                  H39.cell i1 4 = some (Value.int IntKind.i64 n42) ∧
                                                                                                                    bif n42 != 0 then R (Value.int IntKind.i64 1) H39
                                                                                                                    else
                                                                                                                      ∃ b43,
                                                                                                                        H39.cell i13 2 = some (Value.bool b43) ∧
                                                                                                                          bif b43 then
                                                                                                                            ∃ n44,
                                                                                                                              H39.cell i1 4 = some (Value.int IntKind.i64 n44) ∧
                                                                                                                                inB (IntKind.i64.wrap (n44 - 1)) x0l ∧
                                                                                                                                  asRow x0 fun i45 i46 =>
                                                                                                                                    ∃ n47,
                                                                                                                                      H39.cell i45 (i46 + (IntKind.i64.wrap (n44 - 1)).toNat * 5) =
                                                                                                                                          some (Value.int IntKind.i64 n47) ∧
                                                                                                                                        CA en F.decl_kinds [Value.int IntKind.i64 n47] H39
                                                                                                                                          fun v48 H49 =>
                                                                                                                                          ∃ n50 b51 b52 a53 i54 b55 b56,
                                                                                                                                            v48 =
                                                                                                                                                Value.tuple
                                                                                                                                                  #[Value.agg
                                                                                                                                                      #[Value.int IntKind.i64 n50, Value.bool b51,
                                                                                                                                                        Value.bool b52, Value.slice a53 i54 0,
                                                                                                                                                        Value.bool b55],
                                                                                                                                                    Value.bool b56] ∧
                                                                                                                                              nwH H49
                                                                                                                                                (AS.Obj.cells true 0
                                                                                                                                                  [Value.int IntKind.i64 0, Value.bool false,
                                                                                                                                                    Value.bool false, Value.slice none 0 0,
                                                                                                                                                    Value.bool false])
                                                                                                                                                fun i57 H58 =>
                                                                                                                                                stc H58 i57 0
                                                                                                                                                  [Value.int IntKind.i64 n50, Value.bool b51,
                                                                                                                                                    Value.bool b52, Value.slice a53 i54 0,
                                                                                                                                                    Value.bool b55]
                                                                                                                                                  fun H59 =>
                                                                                                                                                  ∃ b60,
                                                                                                                                                    H59.cell i57 2 = some (Value.bool b60) ∧
                                                                                                                                                      bif b60 then R (Value.int IntKind.i64 14) H59
                                                                                                                                                      else R (Value.int IntKind.i64 0) H59
                                                                                                                          else R (Value.int IntKind.i64 0) H39
                                                                                                              else
                                                                                                                ∃ b61,
                                                                                                                  H39.cell i13 2 = some (Value.bool b61) ∧
                                                                                                                    bif b61 then
                                                                                                                      ∃ n62,
                                                                                                                        H39.cell i1 4 = some (Value.int IntKind.i64 n62) ∧
                                                                                                                          inB (IntKind.i64.wrap (n62 - 1)) x0l ∧
                                                                                                                            asRow x0 fun i63 i64 =>
                                                                                                                              ∃ n65,
                                                                                                                                H39.cell i63 (i64 + (IntKind.i64.wrap (n62 - 1)).toNat * 5) =
                                                                                                                                    some (Value.int IntKind.i64 n65) ∧
                                                                                                                                  CA en F.decl_kinds [Value.int IntKind.i64 n65] H39 fun v66 H67 =>
                                                                                                                                    ∃ n68 b69 b70 a71 i72 b73 b74,
                                                                                                                                      v66 =
                                                                                                                                          Value.tuple
                                                                                                                                            #[Value.agg
                                                                                                                                                #[Value.int IntKind.i64 n68, Value.bool b69,
                                                                                                                                                  Value.bool b70, Value.slice a71 i72 0,
                                                                                                                                                  Value.bool b73],
                                                                                                                                              Value.bool b74] ∧
                                                                                                                                        nwH H67
                                                                                                                                          (AS.Obj.cells true 0
                                                                                                                                            [Value.int IntKind.i64 0, Value.bool false,
                                                                                                                                              Value.bool false, Value.slice none 0 0, Value.bool false])
                                                                                                                                          fun i75 H76 =>
                                                                                                                                          stc H76 i75 0
                                                                                                                                            [Value.int IntKind.i64 n68, Value.bool b69, Value.bool b70,
                                                                                                                                              Value.slice a71 i72 0, Value.bool b73]
                                                                                                                                            fun H77 =>
                                                                                                                                            ∃ b78,
                                                                                                                                              H77.cell i75 2 = some (Value.bool b78) ∧
                                                                                                                                                bif b78 then R (Value.int IntKind.i64 14) H77
                                                                                                                                                else R (Value.int IntKind.i64 0) H77
                                                                                                                    else R (Value.int IntKind.i64 0) H39
                                                                                            else
                                                                                              ∃ b79,
                                                                                                H32.cell i13 2 = some (Value.bool b79) ∧
                                                                                                  bif !b79 then
                                                                                                    ∃ n80,
                                                                                                      H32.cell i1 4 = some (Value.int IntKind.i64 n80) ∧
                                                                                                        bif n80 != 0 then R (Value.int IntKind.i64 1) H32
                                                                                                        else
                                                                                                          ∃ b81,
                                                                                                            H32.cell i13 2 = some (Value.bool b81) ∧
                                                                                                              bif b81 then
                                                                                                                ∃ n82,
                                                                                                                  H32.cell i1 4 = some (Value.int IntKind.i64 n82) ∧
                                                                                                                    inB (IntKind.i64.wrap (n82 - 1)) x0l ∧
                                                                                                                      asRow x0 fun i83 i84 =>
                                                                                                                        ∃ n85,
                                                                                                                          H32.cell i83 (i84 + (IntKind.i64.wrap (n82 - 1)).toNat * 5) =
                                                                                                                              some (Value.int IntKind.i64 n85) ∧
                                                                                                                            CA en F.decl_kinds [Value.int IntKind.i64 n85] H32 fun v86 H87 =>
                                                                                                                              ∃ n88 b89 b90 a91 i92 b93 b94,
                                                                                                                                v86 =
                                                                                                                                    Value.tuple
                                                                                                                                      #[Value.agg
                                                                                                                                          #[Value.int IntKind.i64 n88, Value.bool b89, Value.bool b90,
                                                                                                                                            Value.slice a91 i92 0, Value.bool b93],
                                                                                                                                        Value.bool b94] ∧
                                                                                                                                  nwH H87
                                                                                                                                    (AS.Obj.cells true 0
                                                                                                                                      [Value.int IntKind.i64 0, Value.bool false, Value.bool false,
                                                                                                                                        Value.slice none 0 0, Value.bool false])
                                                                                                                                    fun i95 H96 =>
                                                                                                                                    stc H96 i95 0
                                                                                                                                      [Value.int IntKind.i64 n88, Value.bool b89, Value.bool b90,
                                                                                                                                        Value.slice a91 i92 0, Value.bool b93]
                                                                                                                                      fun H97 =>
                                                                                                                                      ∃ b98,
                                                                                                                                        H97.cell i95 2 = some (Value.bool b98) ∧
                                                                                                                                          bif b98 then R (Value.int IntKind.i64 14) H97
                                                                                                                                          else R (Value.int IntKind.i64 0) H97
                                                                                                              else R (Value.int IntKind.i64 0) H32
                                                                                                  else
                                                                                                    ∃ b99,
                                                                                                      H32.cell i13 2 = some (Value.bool b99) ∧
                                                                                                        bif b99 then
                                                                                                          ∃ n100,
                                                                                                            H32.cell i1 4 = some (Value.int IntKind.i64 n100) ∧
                                                                                                              inB (IntKind.i64.wrap (n100 - 1)) x0l ∧
                                                                                                                asRow x0 fun i101 i102 =>
                                                                                                                  ∃ n103,
                                                                                                                    H32.cell i101 (i102 + (IntKind.i64.wrap (n100 - 1)).toNat * 5) =
                                                                                                                        some (Value.int IntKind.i64 n103) ∧
                                                                                                                      CA en F.decl_kinds [Value.int IntKind.i64 n103] H32 fun v104 H105 =>
                                                                                                                        ∃ n106 b107 b108 a109 i110 b111 b112,
                                                                                                                          v104 =
                                                                                                                              Value.tuple
                                                                                                                                #[Value.agg
                                                                                                                                    #[Value.int IntKind.i64 n106, Value.bool b107, Value.bool b108,
                                                                                                                                      Value.slice a109 i110 0, Value.bool b111],
                                                                                                                                  Value.bool b112] ∧
                                                                                                                            nwH H105
                                                                                                                              (AS.Obj.cells true 0
                                                                                                                                [Value.int IntKind.i64 0, Value.bool false, Value.bool false,
                                                                                                                                  Value.slice none 0 0, Value.bool false])
                                                                                                                              fun i113 H114 =>
                                                                                                                              stc H114 i113 0
                                                                                                                                [Value.int IntKind.i64 n106, Value.bool b107, Value.bool b108,
                                                                                                                                  Value.slice a109 i110 0, Value.bool b111]
                                                                                                                                fun H115 =>
                                                                                                                                ∃ b116,
                                                                                                                                  H115.cell i113 2 = some (Value.bool b116) ∧
                                                                                                                                    bif b116 then R (Value.int IntKind.i64 14) H115
                                                                                                                                    else R (Value.int IntKind.i64 0) H115
                                                                                                        else R (Value.int IntKind.i64 0) H32
                                                                                else
                                                                                  ∃ b117,
                                                                                    H32.cell i13 2 = some (Value.bool b117) ∧
                                                                                      bif b117 then
                                                                                        ∃ n118,
                                                                                          H32.cell i1 4 = some (Value.int IntKind.i64 n118) ∧
                                                                                            CA en F.decl_within [Value.int IntKind.i64 n118, Value.int IntKind.i64 (↑x0l : Int)] H32 fun v119 H120 =>
                                                                                              ∃ b121,
                                                                                                v119 = Value.bool b121 ∧
                                                                                                  bif !b121 then R (Value.int IntKind.i64 1) H120
                                                                                                  else
                                                                                                    ∃ b122,
                                                                                                      H120.cell i13 2 = some (Value.bool b122) ∧
                                                                                                        bif !b122 then
                                                                                                          ∃ n123,
                                                                                                            H120.cell i1 4 = some (Value.int IntKind.i64 n123) ∧
                                                                                                              bif n123 != 0 then R (Value.int IntKind.i64 1) H120
                                                                                                              else
                                                                                                                ∃ b124,
                                                                                                                  H120.cell i13 2 = some (Value.bool b124) ∧
                                                                                                                    bif b124 then
                                                                                                                      ∃ n125,
                                                                                                                        H120.cell i1 4 = some (Value.int IntKind.i64 n125) ∧
                                                                                                                          inB (IntKind.i64.wrap (n125 - 1)) x0l ∧
                                                                                                                            asRow x0 fun i126 i127 =>
                                                                                                                              ∃ n128,
                                                                                                                                H120.cell i126 (i127 + (IntKind.i64.wrap (n125 - 1)).toNat * 5) =
                                                                                                                                    some (Value.int IntKind.i64 n128) ∧
                                                                                                                                  CA en F.decl_kinds [Value.int IntKind.i64 n128] H120 fun v129 H130 =>
                                                                                                                                    ∃ n131 b132 b133 a134 i135 b136 b137,
                                                                                                                                      v129 =
                                                                                                                                          Value.tuple
                                                                                                                                            #[Value.agg
                                                                                                                                                #[Value.int IntKind.i64 n131, Value.bool b132,
                                                                                                                                                  Value.bool b133, Value.slice a134 i135 0,
                                                                                                                                                  Value.bool b136],
                                                                                                                                              Value.bool b137] ∧
                                                                                                                                        nwH H130
                                                                                                                                          (AS.Obj.cells true 0
                                                                                                                                            [Value.int IntKind.i64 0, Value.bool false,
                                                                                                                                              Value.bool false, Value.slice none 0 0, Value.bool false])
                                                                                                                                          fun i138 H139 =>
                                                                                                                                          stc H139 i138 0
                                                                                                                                            [Value.int IntKind.i64 n131, Value.bool b132,
                                                                                                                                              Value.bool b133, Value.slice a134 i135 0, Value.bool b136]
                                                                                                                                            fun H140 =>
                                                                                                                                            ∃ b141,
                                                                                                                                              H140.cell i138 2 = some (Value.bool b141) ∧
                                                                                                                                                bif b141 then R (Value.int IntKind.i64 14) H140
                                                                                                                                                else R (Value.int IntKind.i64 0) H140
                                                                                                                    else R (Value.int IntKind.i64 0) H120
                                                                                                        else
                                                                                                          ∃ b142,
                                                                                                            H120.cell i13 2 = some (Value.bool b142) ∧
                                                                                                              bif b142 then
                                                                                                                ∃ n143,
                                                                                                                  H120.cell i1 4 = some (Value.int IntKind.i64 n143) ∧
                                                                                                                    inB (IntKind.i64.wrap (n143 - 1)) x0l ∧
                                                                                                                      asRow x0 fun i144 i145 =>
                                                                                                                        ∃ n146,
                                                                                                                          H120.cell i144 (i145 + (IntKind.i64.wrap (n143 - 1)).toNat * 5) =
                                                                                                                              some (Value.int IntKind.i64 n146) ∧
                                                                                                                            CA en F.decl_kinds [Value.int IntKind.i64 n146] H120 fun v147 H148 =>
                                                                                                                              ∃ n149 b150 b151 a152 i153 b154 b155,
                                                                                                                                v147 =
                                                                                                                                    Value.tuple
                                                                                                                                      #[Value.agg
                                                                                                                                          #[Value.int IntKind.i64 n149, Value.bool b150,
                                                                                                                                            Value.bool b151, Value.slice a152 i153 0, Value.bool b154],
                                                                                                                                        Value.bool b155] ∧
                                                                                                                                  nwH H148
                                                                                                                                    (AS.Obj.cells true 0
                                                                                                                                      [Value.int IntKind.i64 0, Value.bool false, Value.bool false,
                                                                                                                                        Value.slice none 0 0, Value.bool false])
                                                                                                                                    fun i156 H157 =>
                                                                                                                                    stc H157 i156 0
                                                                                                                                      [Value.int IntKind.i64 n149, Value.bool b150, Value.bool b151,
                                                                                                                                        Value.slice a152 i153 0, Value.bool b154]
                                                                                                                                      fun H158 =>
                                                                                                                                      ∃ b159,
                                                                                                                                        H158.cell i156 2 = some (Value.bool b159) ∧
                                                                                                                                          bif b159 then R (Value.int IntKind.i64 14) H158
                                                                                                                                          else R (Value.int IntKind.i64 0) H158
                                                                                                              else R (Value.int IntKind.i64 0) H120
                                                                                      else
                                                                                        ∃ b160,
                                                                                          H32.cell i13 2 = some (Value.bool b160) ∧
                                                                                            bif !b160 then
                                                                                              ∃ n161,
                                                                                                H32.cell i1 4 = some (Value.int IntKind.i64 n161) ∧
                                                                                                  bif n161 != 0 then R (Value.int IntKind.i64 1) H32
                                                                                                  else
                                                                                                    ∃ b162,
                                                                                                      H32.cell i13 2 = some (Value.bool b162) ∧
                                                                                                        bif b162 then
                                                                                                          ∃ n163,
                                                                                                            H32.cell i1 4 = some (Value.int IntKind.i64 n163) ∧
                                                                                                              inB (IntKind.i64.wrap (n163 - 1)) x0l ∧
                                                                                                                asRow x0 fun i164 i165 =>
                                                                                                                  ∃ n166,
                                                                                                                    H32.cell i164 (i165 + (IntKind.i64.wrap (n163 - 1)).toNat * 5) =
                                                                                                                        some (Value.int IntKind.i64 n166) ∧
                                                                                                                      CA en F.decl_kinds [Value.int IntKind.i64 n166] H32 fun v167 H168 =>
                                                                                                                        ∃ n169 b170 b171 a172 i173 b174 b175,
                                                                                                                          v167 =
                                                                                                                              Value.tuple
                                                                                                                                #[Value.agg
                                                                                                                                    #[Value.int IntKind.i64 n169, Value.bool b170, Value.bool b171,
                                                                                                                                      Value.slice a172 i173 0, Value.bool b174],
                                                                                                                                  Value.bool b175] ∧
                                                                                                                            nwH H168
                                                                                                                              (AS.Obj.cells true 0
                                                                                                                                [Value.int IntKind.i64 0, Value.bool false, Value.bool false,
                                                                                                                                  Value.slice none 0 0, Value.bool false])
                                                                                                                              fun i176 H177 =>
                                                                                                                              stc H177 i176 0
                                                                                                                                [Value.int IntKind.i64 n169, Value.bool b170, Value.bool b171,
                                                                                                                                  Value.slice a172 i173 0, Value.bool b174]
                                                                                                                                fun H178 =>
                                                                                                                                ∃ b179,
                                                                                                                                  H178.cell i176 2 = some (Value.bool b179) ∧
                                                                                                                                    bif b179 then R (Value.int IntKind.i64 14) H178
                                                                                                                                    else R (Value.int IntKind.i64 0) H178
                                                                                                        else R (Value.int IntKind.i64 0) H32
                                                                                            else
                                                                                              ∃ b180,
                                                                                                H32.cell i13 2 = some (Value.bool b180) ∧
                                                                                                  bif b180 then
                                                                                                    ∃ n181,
                                                                                                      H32.cell i1 4 = some (Value.int IntKind.i64 n181) ∧
                                                                                                        inB (IntKind.i64.wrap (n181 - 1)) x0l ∧
                                                                                                          asRow x0 fun i182 i183 =>
                                                                                                            ∃ n184,
                                                                                                              H32.cell i182 (i183 + (IntKind.i64.wrap (n181 - 1)).toNat * 5) =
                                                                                                                  some (Value.int IntKind.i64 n184) ∧
                                                                                                                CA en F.decl_kinds [Value.int IntKind.i64 n184] H32 fun v185 H186 =>
                                                                                                                  ∃ n187 b188 b189 a190 i191 b192 b193,
                                                                                                                    v185 =
                                                                                                                        Value.tuple
                                                                                                                          #[Value.agg
                                                                                                                              #[Value.int IntKind.i64 n187, Value.bool b188, Value.bool b189,
                                                                                                                                Value.slice a190 i191 0, Value.bool b192],
                                                                                                                            Value.bool b193] ∧
                                                                                                                      nwH H186
                                                                                                                        (AS.Obj.cells true 0
                                                                                                                          [Value.int IntKind.i64 0, Value.bool false, Value.bool false,
                                                                                                                            Value.slice none 0 0, Value.bool false])
                                                                                                                        fun i194 H195 =>
                                                                                                                        stc H195 i194 0
                                                                                                                          [Value.int IntKind.i64 n187, Value.bool b188, Value.bool b189,
                                                                                                                            Value.slice a190 i191 0, Value.bool b192]
                                                                                                                          fun H196 =>
                                                                                                                          ∃ b197,
                                                                                                                            H196.cell i194 2 = some (Value.bool b197) ∧
                                                                                                                              bif b197 then R (Value.int IntKind.i64 14) H196
                                                                                                                              else R (Value.int IntKind.i64 0) H196
                                                                                                  else R (Value.int IntKind.i64 0) H32
                                                  else
                                                    ∃ b198,
                                                      H23.cell i13 1 = some (Value.bool b198) ∧
                                                        bif !b198 then
                                                          ∃ n199,
                                                            H23.cell i1 3 = some (Value.int IntKind.i64 n199) ∧
                                                              bif n199 != 0 then R (Value.int IntKind.i64 1) H23
                                                              else
                                                                ∃ b200,
                                                                  H23.cell i13 2 = some (Value.bool b200) ∧
                                                                    bif b200 then
                                                                      ∃ n201,
                                                                        H23.cell i1 4 = some (Value.int IntKind.i64 n201) ∧
                                                                          CA en F.decl_within [Value.int IntKind.i64 n201, Value.int IntKind.i64 (↑x0l : Int)] H23 fun v202 H203 =>
                                                                            ∃ b204,
                                                                              v202 = Value.bool b204 ∧
                                                                                bif !b204 then R (Value.int IntKind.i64 1) H203
                                                                                else
                                                                                  ∃ b205,
                                                                                    H203.cell i13 2 = some (Value.bool b205) ∧
                                                                                      bif !b205 then
                                                                                        ∃ n206,
                                                                                          H203.cell i1 4 = some (Value.int IntKind.i64 n206) ∧
                                                                                            bif n206 != 0 then R (Value.int IntKind.i64 1) H203
                                                                                            else
                                                                                              ∃ b207,
                                                                                                H203.cell i13 2 = some (Value.bool b207) ∧
                                                                                                  bif b207 then
                                                                                                    ∃ n208,
                                                                                                      H203.cell i1 4 = some (Value.int IntKind.i64 n208) ∧
                                                                                                        inB (IntKind.i64.wrap (n208 - 1)) x0l ∧
                                                                                                          asRow x0 fun i209 i210 =>
                                                                                                            ∃ n211,
                                                                                                              H203.cell i209 (i210 + (IntKind.i64.wrap (n208 - 1)).toNat * 5) =
                                                                                                                  some (Value.int IntKind.i64 n211) ∧
                                                                                                                CA en F.decl_kinds [Value.int IntKind.i64 n211] H203 fun v212 H213 =>
                                                                                                                  ∃ n214 b215 b216 a217 i218 b219 b220,
                                                                                                                    v212 =
                                                                                                                        Value.tuple
                                                                                                                          #[Value.agg
                                                                                                                              #[Value.int IntKind.i64 n214, Value.bool b215, Value.bool b216,
                                                                                                                                Value.slice a217 i218 0, Value.bool b219],
                                                                                                                            Value.bool b220] ∧
                                                                                                                      nwH H213
                                                                                                                        (AS.Obj.cells true 0
                                                                                                                          [Value.int IntKind.i64 0, Value.bool false, Value.bool false,
                                                                                                                            Value.slice none 0 0, Value.bool false])
                                                                                                                        fun i221 H222 =>
                                                                                                                        stc H222 i221 0
                                                                                                                          [Value.int IntKind.i64 n214, Value.bool b215, Value.bool b216,
                                                                                                                            Value.slice a217 i218 0, Value.bool b219]
                                                                                                                          fun H223 =>
                                                                                                                          ∃ b224,
                                                                                                                            H223.cell i221 2 = some (Value.bool b224) ∧
                                                                                                                              bif b224 then R (Value.int IntKind.i64 14) H223
                                                                                                                              else R (Value.int IntKind.i64 0) H223
                                                                                                  else R (Value.int IntKind.i64 0) H203
                                                                                      else
                                                                                        ∃ b225,
                                                                                          H203.cell i13 2 = some (Value.bool b225) ∧
                                                                                            bif b225 then
                                                                                              ∃ n226,
                                                                                                H203.cell i1 4 = some (Value.int IntKind.i64 n226) ∧
                                                                                                  inB (IntKind.i64.wrap (n226 - 1)) x0l ∧
                                                                                                    asRow x0 fun i227 i228 =>
                                                                                                      ∃ n229,
                                                                                                        H203.cell i227 (i228 + (IntKind.i64.wrap (n226 - 1)).toNat * 5) =
                                                                                                            some (Value.int IntKind.i64 n229) ∧
                                                                                                          CA en F.decl_kinds [Value.int IntKind.i64 n229] H203 fun v230 H231 =>
                                                                                                            ∃ n232 b233 b234 a235 i236 b237 b238,
                                                                                                              v230 =
                                                                                                                  Value.tuple
                                                                                                                    #[Value.agg
                                                                                                                        #[Value.int IntKind.i64 n232, Value.bool b233, Value.bool b234,
                                                                                                                          Value.slice a235 i236 0, Value.bool b237],
                                                                                                                      Value.bool b238] ∧
                                                                                                                nwH H231
                                                                                                                  (AS.Obj.cells true 0
                                                                                                                    [Value.int IntKind.i64 0, Value.bool false, Value.bool false, Value.slice none 0 0,
                                                                                                                      Value.bool false])
                                                                                                                  fun i239 H240 =>
                                                                                                                  stc H240 i239 0
                                                                                                                    [Value.int IntKind.i64 n232, Value.bool b233, Value.bool b234,
                                                                                                                      Value.slice a235 i236 0, Value.bool b237]
                                                                                                                    fun H241 =>
                                                                                                                    ∃ b242,
                                                                                                                      H241.cell i239 2 = some (Value.bool b242) ∧
                                                                                                                        bif b242 then R (Value.int IntKind.i64 14) H241
                                                                                                                        else R (Value.int IntKind.i64 0) H241
                                                                                            else R (Value.int IntKind.i64 0) H203
                                                                    else
                                                                      ∃ b243,
                                                                        H23.cell i13 2 = some (Value.bool b243) ∧
                                                                          bif !b243 then
                                                                            ∃ n244,
                                                                              H23.cell i1 4 = some (Value.int IntKind.i64 n244) ∧
                                                                                bif n244 != 0 then R (Value.int IntKind.i64 1) H23
                                                                                else
                                                                                  ∃ b245,
                                                                                    H23.cell i13 2 = some (Value.bool b245) ∧
                                                                                      bif b245 then
                                                                                        ∃ n246,
                                                                                          H23.cell i1 4 = some (Value.int IntKind.i64 n246) ∧
                                                                                            inB (IntKind.i64.wrap (n246 - 1)) x0l ∧
                                                                                              asRow x0 fun i247 i248 =>
                                                                                                ∃ n249,
                                                                                                  H23.cell i247 (i248 + (IntKind.i64.wrap (n246 - 1)).toNat * 5) = some (Value.int IntKind.i64 n249) ∧
                                                                                                    CA en F.decl_kinds [Value.int IntKind.i64 n249] H23 fun v250 H251 =>
                                                                                                      ∃ n252 b253 b254 a255 i256 b257 b258,
                                                                                                        v250 =
                                                                                                            Value.tuple
                                                                                                              #[Value.agg
                                                                                                                  #[Value.int IntKind.i64 n252, Value.bool b253, Value.bool b254,
                                                                                                                    Value.slice a255 i256 0, Value.bool b257],
                                                                                                                Value.bool b258] ∧
                                                                                                          nwH H251
                                                                                                            (AS.Obj.cells true 0
                                                                                                              [Value.int IntKind.i64 0, Value.bool false, Value.bool false, Value.slice none 0 0,
                                                                                                                Value.bool false])
                                                                                                            fun i259 H260 =>
                                                                                                            stc H260 i259 0
                                                                                                              [Value.int IntKind.i64 n252, Value.bool b253, Value.bool b254, Value.slice a255 i256 0,
                                                                                                                Value.bool b257]
                                                                                                              fun H261 =>
                                                                                                              ∃ b262,
                                                                                                                H261.cell i259 2 = some (Value.bool b262) ∧
                                                                                                                  bif b262 then R (Value.int IntKind.i64 14) H261 else R (Value.int IntKind.i64 0) H261
                                                                                      else R (Value.int IntKind.i64 0) H23
                                                                          else
                                                                            ∃ b263,
                                                                              H23.cell i13 2 = some (Value.bool b263) ∧
                                                                                bif b263 then
                                                                                  ∃ n264,
                                                                                    H23.cell i1 4 = some (Value.int IntKind.i64 n264) ∧
                                                                                      inB (IntKind.i64.wrap (n264 - 1)) x0l ∧
                                                                                        asRow x0 fun i265 i266 =>
                                                                                          ∃ n267,
                                                                                            H23.cell i265 (i266 + (IntKind.i64.wrap (n264 - 1)).toNat * 5) = some (Value.int IntKind.i64 n267) ∧
                                                                                              CA en F.decl_kinds [Value.int IntKind.i64 n267] H23 fun v268 H269 =>
                                                                                                ∃ n270 b271 b272 a273 i274 b275 b276,
                                                                                                  v268 =
                                                                                                      Value.tuple
                                                                                                        #[Value.agg
                                                                                                            #[Value.int IntKind.i64 n270, Value.bool b271, Value.bool b272, Value.slice a273 i274 0,
                                                                                                              Value.bool b275],
                                                                                                          Value.bool b276] ∧
                                                                                                    nwH H269
                                                                                                      (AS.Obj.cells true 0
                                                                                                        [Value.int IntKind.i64 0, Value.bool false, Value.bool false, Value.slice none 0 0,
                                                                                                          Value.bool false])
                                                                                                      fun i277 H278 =>
                                                                                                      stc H278 i277 0
                                                                                                        [Value.int IntKind.i64 n270, Value.bool b271, Value.bool b272, Value.slice a273 i274 0,
                                                                                                          Value.bool b275]
                                                                                                        fun H279 =>
                                                                                                        ∃ b280,
                                                                                                          H279.cell i277 2 = some (Value.bool b280) ∧
                                                                                                            bif b280 then R (Value.int IntKind.i64 14) H279 else R (Value.int IntKind.i64 0) H279
                                                                                else R (Value.int IntKind.i64 0) H23
                                                        else
                                                          ∃ b281,
                                                            H23.cell i13 2 = some (Value.bool b281) ∧
                                                              bif b281 then
                                                                ∃ n282,
                                                                  H23.cell i1 4 = some (Value.int IntKind.i64 n282) ∧
                                                                    CA en F.decl_within [Value.int IntKind.i64 n282, Value.int IntKind.i64 (↑x0l : Int)] H23 fun v283 H284 =>
                                                                      ∃ b285,
                                                                        v283 = Value.bool b285 ∧
                                                                          bif !b285 then R (Value.int IntKind.i64 1) H284
                                                                          else
                                                                            ∃ b286,
                                                                              H284.cell i13 2 = some (Value.bool b286) ∧
                                                                                bif !b286 then
                                                                                  ∃ n287,
                                                                                    H284.cell i1 4 = some (Value.int IntKind.i64 n287) ∧
                                                                                      bif n287 != 0 then R (Value.int IntKind.i64 1) H284
                                                                                      else
                                                                                        ∃ b288,
                                                                                          H284.cell i13 2 = some (Value.bool b288) ∧
                                                                                            bif b288 then
                                                                                              ∃ n289,
                                                                                                H284.cell i1 4 = some (Value.int IntKind.i64 n289) ∧
                                                                                                  inB (IntKind.i64.wrap (n289 - 1)) x0l ∧
                                                                                                    asRow x0 fun i290 i291 =>
                                                                                                      ∃ n292,
                                                                                                        H284.cell i290 (i291 + (IntKind.i64.wrap (n289 - 1)).toNat * 5) =
                                                                                                            some (Value.int IntKind.i64 n292) ∧
                                                                                                          CA en F.decl_kinds [Value.int IntKind.i64 n292] H284 fun v293 H294 =>
                                                                                                            ∃ n295 b296 b297 a298 i299 b300 b301,
                                                                                                              v293 =
                                                                                                                  Value.tuple
                                                                                                                    #[Value.agg
                                                                                                                        #[Value.int IntKind.i64 n295, Value.bool b296, Value.bool b297,
                                                                                                                          Value.slice a298 i299 0, Value.bool b300],
                                                                                                                      Value.bool b301] ∧
                                                                                                                nwH H294
                                                                                                                  (AS.Obj.cells true 0
                                                                                                                    [Value.int IntKind.i64 0, Value.bool false, Value.bool false, Value.slice none 0 0,
                                                                                                                      Value.bool false])
                                                                                                                  fun i302 H303 =>
                                                                                                                  stc H303 i302 0
                                                                                                                    [Value.int IntKind.i64 n295, Value.bool b296, Value.bool b297,
                                                                                                                      Value.slice a298 i299 0, Value.bool b300]
                                                                                                                    fun H304 =>
                                                                                                                    ∃ b305,
                                                                                                                      H304.cell i302 2 = some (Value.bool b305) ∧
                                                                                                                        bif b305 then R (Value.int IntKind.i64 14) H304
                                                                                                                        else R (Value.int IntKind.i64 0) H304
                                                                                            else R (Value.int IntKind.i64 0) H284
                                                                                else
                                                                                  ∃ b306,
                                                                                    H284.cell i13 2 = some (Value.bool b306) ∧
                                                                                      bif b306 then
                                                                                        ∃ n307,
                                                                                          H284.cell i1 4 = some (Value.int IntKind.i64 n307) ∧
                                                                                            inB (IntKind.i64.wrap (n307 - 1)) x0l ∧
                                                                                              asRow x0 fun i308 i309 =>
                                                                                                ∃ n310,
                                                                                                  H284.cell i308 (i309 + (IntKind.i64.wrap (n307 - 1)).toNat * 5) = some (Value.int IntKind.i64 n310) ∧
                                                                                                    CA en F.decl_kinds [Value.int IntKind.i64 n310] H284 fun v311 H312 =>
                                                                                                      ∃ n313 b314 b315 a316 i317 b318 b319,
                                                                                                        v311 =
                                                                                                            Value.tuple
                                                                                                              #[Value.agg
                                                                                                                  #[Value.int IntKind.i64 n313, Value.bool b314, Value.bool b315,
                                                                                                                    Value.slice a316 i317 0, Value.bool b318],
                                                                                                                Value.bool b319] ∧
                                                                                                          nwH H312
                                                                                                            (AS.Obj.cells true 0
                                                                                                              [Value.int IntKind.i64 0, Value.bool false, Value.bool false, Value.slice none 0 0,
                                                                                                                Value.bool false])
                                                                                                            fun i320 H321 =>
                                                                                                            stc H321 i320 0
                                                                                                              [Value.int IntKind.i64 n313, Value.bool b314, Value.bool b315, Value.slice a316 i317 0,
                                                                                                                Value.bool b318]
                                                                                                              fun H322 =>
                                                                                                              ∃ b323,
                                                                                                                H322.cell i320 2 = some (Value.bool b323) ∧
                                                                                                                  bif b323 then R (Value.int IntKind.i64 14) H322 else R (Value.int IntKind.i64 0) H322
                                                                                      else R (Value.int IntKind.i64 0) H284
                                                              else
                                                                ∃ b324,
                                                                  H23.cell i13 2 = some (Value.bool b324) ∧
                                                                    bif !b324 then
                                                                      ∃ n325,
                                                                        H23.cell i1 4 = some (Value.int IntKind.i64 n325) ∧
                                                                          bif n325 != 0 then R (Value.int IntKind.i64 1) H23
                                                                          else
                                                                            ∃ b326,
                                                                              H23.cell i13 2 = some (Value.bool b326) ∧
                                                                                bif b326 then
                                                                                  ∃ n327,
                                                                                    H23.cell i1 4 = some (Value.int IntKind.i64 n327) ∧
                                                                                      inB (IntKind.i64.wrap (n327 - 1)) x0l ∧
                                                                                        asRow x0 fun i328 i329 =>
                                                                                          ∃ n330,
                                                                                            H23.cell i328 (i329 + (IntKind.i64.wrap (n327 - 1)).toNat * 5) = some (Value.int IntKind.i64 n330) ∧
                                                                                              CA en F.decl_kinds [Value.int IntKind.i64 n330] H23 fun v331 H332 =>
                                                                                                ∃ n333 b334 b335 a336 i337 b338 b339,
                                                                                                  v331 =
                                                                                                      Value.tuple
                                                                                                        #[Value.agg
                                                                                                            #[Value.int IntKind.i64 n333, Value.bool b334, Value.bool b335, Value.slice a336 i337 0,
                                                                                                              Value.bool b338],
                                                                                                          Value.bool b339] ∧
                                                                                                    nwH H332
                                                                                                      (AS.Obj.cells true 0
                                                                                                        [Value.int IntKind.i64 0, Value.bool false, Value.bool false, Value.slice none 0 0,
                                                                                                          Value.bool false])
                                                                                                      fun i340 H341 =>
                                                                                                      stc H341 i340 0
                                                                                                        [Value.int IntKind.i64 n333, Value.bool b334, Value.bool b335, Value.slice a336 i337 0,
                                                                                                          Value.bool b338]
                                                                                                        fun H342 =>
                                                                                                        ∃ b343,
                                                                                                          H342.cell i340 2 = some (Value.bool b343) ∧
                                                                                                            bif b343 then R (Value.int IntKind.i64 14) H342 else R (Value.int IntKind.i64 0) H342
                                                                                else R (Value.int IntKind.i64 0) H23
                                                                    else
                                                                      ∃ b344,
                                                                        H23.cell i13 2 = some (Value.bool b344) ∧
                                                                          bif b344 then
                                                                            ∃ n345,
                                                                              H23.cell i1 4 = some (Value.int IntKind.i64 n345) ∧
                                                                                inB (IntKind.i64.wrap (n345 - 1)) x0l ∧
                                                                                  asRow x0 fun i346 i347 =>
                                                                                    ∃ n348,
                                                                                      H23.cell i346 (i347 + (IntKind.i64.wrap (n345 - 1)).toNat * 5) = some (Value.int IntKind.i64 n348) ∧
                                                                                        CA en F.decl_kinds [Value.int IntKind.i64 n348] H23 fun v349 H350 =>
                                                                                          ∃ n351 b352 b353 a354 i355 b356 b357,
                                                                                            v349 =
                                                                                                Value.tuple
                                                                                                  #[Value.agg
                                                                                                      #[Value.int IntKind.i64 n351, Value.bool b352, Value.bool b353, Value.slice a354 i355 0,
                                                                                                        Value.bool b356],
                                                                                                    Value.bool b357] ∧
                                                                                              nwH H350
                                                                                                (AS.Obj.cells true 0
                                                                                                  [Value.int IntKind.i64 0, Value.bool false, Value.bool false, Value.slice none 0 0, Value.bool false])
                                                                                                fun i358 H359 =>
                                                                                                stc H359 i358 0
                                                                                                  [Value.int IntKind.i64 n351, Value.bool b352, Value.bool b353, Value.slice a354 i355 0,
                                                                                                    Value.bool b356]
                                                                                                  fun H360 =>
                                                                                                  ∃ b361,
                                                                                                    H360.cell i358 2 = some (Value.bool b361) ∧
                                                                                                      bif b361 then R (Value.int IntKind.i64 14) H360 else R (Value.int IntKind.i64 0) H360
                                                                          else R (Value.int IntKind.i64 0) H23) →
    CA Go.Proofs.Ytlkmdcncpdadbaa.en F.decl_check [Value.slice x0 x0l 0, Value.agg #[Value.int IntKind.i64 x10, Value.int IntKind.i64 x11, Value.int IntKind.i64 x12, Value.int IntKind.i64 x13, Value.int IntKind.i64 x14]] H R := by
  intro h
  refine wpFn_ok (Z := []) (fn := Go.Proofs.Try.f39) ?_ ?_ ?_
  · kernel_rfl
  · kernel_rfl
  · apply turnInto h
    kernel_rfl



/-! crossbarref07_one -/

theorem vc_crossbarref07_one (x0 : Option Addr) (x0l : Nat) (x10 : Int) (x11 : Int) (x12 : Int) (x13 : Int) (x14 : Int) (H : Heap) (R : Value → Heap → Prop) :
    (nwH H (AS.Obj.cells true 0 [Value.int IntKind.i64 x10, Value.int IntKind.i64 x11, Value.int IntKind.i64 x12, Value.int IntKind.i64 x13, Value.int IntKind.i64 x14]) fun i1 H2 =>
  ∃ n3,
    H2.cell i1 0 = some (Value.int IntKind.i64 n3) ∧
      bif n3 == 3 then
        ∃ n4,
          H2.cell i1 0 = some (Value.int IntKind.i64 n4) ∧
            bif decide (n4 < 1) then R (Value.int IntKind.i64 1) H2
            else
              ∃ n5,
                H2.cell i1 0 = some (Value.int IntKind.i64 n5) ∧
                  bif decide (n5 > 10) then R (Value.int IntKind.i64 1) H2
                  else
                    ∃ n6,
                      H2.cell i1 1 = some (Value.int IntKind.i64 n6) ∧
                        bif decide (n6 < 1) then R (Value.int IntKind.i64 1) H2
                        else
                          ∃ n7,
                            H2.cell i1 1 = some (Value.int IntKind.i64 n7) ∧
                              bif decide (n7 > 64) then R (Value.int IntKind.i64 1) H2
                              else
                                ∃ n8,
                                  H2.cell i1 2 = some (Value.int IntKind.i64 n8) ∧
                                    bif decide (n8 < 1) then R (Value.int IntKind.i64 1) H2
                                    else
                                      ∃ n9,
                                        H2.cell i1 2 = some (Value.int IntKind.i64 n9) ∧
                                          bif decide (n9 > 4) then R (Value.int IntKind.i64 1) H2
                                          else
                                            ∃ n10,
                                              (H2.bump 18).cell i1 0 = some (Value.int IntKind.i64 n10) ∧
                                                CA en F.crossbarref07_bucketed [Value.int IntKind.i64 n10] (H2.bump 18) fun v11 H12 =>
                                                  ∃ b13,
                                                    v11 = Value.bool b13 ∧
                                                      ∃ n14,
                                                        H12.cell i1 3 = some (Value.int IntKind.i64 n14) ∧
                                                          bif !b13 == (n14 != 0) then
                                                            R (Value.int IntKind.i64 1) H12 ∧
                                                              ((n14 != 0) = (n14 != 0) ∧ (n14 != 0) = (n14 != 0) ∧ True) ∧
                                                                ((∃ n16, (H2.bump 18).cell i1 3 = some (Value.int IntKind.i64 n16) ∧ n14 = n16) ∧
                                                                    (∃ n15, H12.cell i1 3 = some (Value.int IntKind.i64 n15) ∧ n14 = n15) ∧ True) ∧
                                                                  True
                                                          else
                                                            ∃ n17,
                                                              H12.cell i1 0 = some (Value.int IntKind.i64 n17) ∧
                                                                CA en F.crossbarref07_bucketed [Value.int IntKind.i64 n17] H12 fun v18 H19 =>
                                                                  ∃ b20,
                                                                    v18 = Value.bool b20 ∧
                                                                      bif b20 then
                                                                        ∃ n21,
                                                                          H19.cell i1 3 = some (Value.int IntKind.i64 n21) ∧
                                                                            CA en F.crossbarref07_power [Value.int IntKind.i64 n21] H19 fun v22 H23 =>
                                                                              ∃ b24,
                                                                                v22 = Value.bool b24 ∧
                                                                                  (bif !b24 then R (Value.int IntKind.i64 1) H23
                                                                                    else
                                                                                      ∃ n25,
                                                                                        H23.cell i1 0 = some (Value.int IntKind.i64 n25) ∧
                                                                                          CA en F.crossbarref07_Nested [Value.int IntKind.i64 n25] H23 fun v26 H27 =>
                                                                                            ∃ b28,
                                                                                              v26 = Value.bool b28 ∧
                                                                                                bif !b28 then
                                                                                                  ∃ n29,
                                                                                                    H27.cell i1 4 = some (Value.int IntKind.i64 n29) ∧
                                                                                                      bif n29 != 0 then R (Value.int IntKind.i64 1) H27 else R (Value.int IntKind.i64 0) H27
                                                                                                else
                                                                                                  ∃ n30,
                                                                                                    H27.cell i1 4 = some (Value.int IntKind.i64 n30) ∧
                                                                                                      bif decide (n30 < 1) then R (Value.int IntKind.i64 1) H27
                                                                                                      else
                                                                                                        ∃ n31,
                                                                                                          H27.cell i1 4 = some (Value.int IntKind.i64 n31) ∧
                                                                                                            bif decide (n31 > (↑x0l : Int)) then R (Value.int IntKind.i64 1) H27
                                                                                                            else
                                                                                                              ∃ n32,
                                                                                                                H27.cell i1 4 = some (Value.int IntKind.i64 n32) ∧
                                                                                                                  inB (IntKind.i64.wrap (n32 - 1)) x0l ∧
                                                                                                                    asRow x0 fun i33 i34 =>
                                                                                                                      ∃ n35,
                                                                                                                        H27.cell i33 (i34 + (IntKind.i64.wrap (n32 - 1)).toNat * 5) =
                                                                                                                            some (Value.int IntKind.i64 n35) ∧
                                                                                                                          CA en F.crossbarref07_Nested [Value.int IntKind.i64 n35] H27 fun v36 H37 =>
                                                                                                                            ∃ b38,
                                                                                                                              v36 = Value.bool b38 ∧
                                                                                                                                bif b38 then R (Value.int IntKind.i64 14) H37
                                                                                                                                else R (Value.int IntKind.i64 0) H37) ∧
                                                                                    ((n14 != 0) = (n14 != 0) ∧ (n14 != 0) = (n14 != 0) ∧ True) ∧
                                                                                      ((∃ n40, (H2.bump 18).cell i1 3 = some (Value.int IntKind.i64 n40) ∧ n14 = n40) ∧
                                                                                          (∃ n39, H12.cell i1 3 = some (Value.int IntKind.i64 n39) ∧ n14 = n39) ∧ True) ∧
                                                                                        True
                                                                      else
                                                                        (∃ n41,
                                                                            H19.cell i1 0 = some (Value.int IntKind.i64 n41) ∧
                                                                              CA en F.crossbarref07_Nested [Value.int IntKind.i64 n41] H19 fun v42 H43 =>
                                                                                ∃ b44,
                                                                                  v42 = Value.bool b44 ∧
                                                                                    bif !b44 then
                                                                                      ∃ n45,
                                                                                        H43.cell i1 4 = some (Value.int IntKind.i64 n45) ∧
                                                                                          bif n45 != 0 then R (Value.int IntKind.i64 1) H43 else R (Value.int IntKind.i64 0) H43
                                                                                    else
                                                                                      ∃ n46,
                                                                                        H43.cell i1 4 = some (Value.int IntKind.i64 n46) ∧
                                                                                          bif decide (n46 < 1) then R (Value.int IntKind.i64 1) H43
                                                                                          else
                                                                                            ∃ n47,
                                                                                              H43.cell i1 4 = some (Value.int IntKind.i64 n47) ∧
                                                                                                bif decide (n47 > (↑x0l : Int)) then R (Value.int IntKind.i64 1) H43
                                                                                                else
                                                                                                  ∃ n48,
                                                                                                    H43.cell i1 4 = some (Value.int IntKind.i64 n48) ∧
                                                                                                      inB (IntKind.i64.wrap (n48 - 1)) x0l ∧
                                                                                                        asRow x0 fun i49 i50 =>
                                                                                                          ∃ n51,
                                                                                                            H43.cell i49 (i50 + (IntKind.i64.wrap (n48 - 1)).toNat * 5) =
                                                                                                                some (Value.int IntKind.i64 n51) ∧
                                                                                                              CA en F.crossbarref07_Nested [Value.int IntKind.i64 n51] H43 fun v52 H53 =>
                                                                                                                ∃ b54,
                                                                                                                  v52 = Value.bool b54 ∧
                                                                                                                    bif b54 then R (Value.int IntKind.i64 14) H53
                                                                                                                    else R (Value.int IntKind.i64 0) H53) ∧
                                                                          ((n14 != 0) = (n14 != 0) ∧ (n14 != 0) = (n14 != 0) ∧ True) ∧
                                                                            ((∃ n56, (H2.bump 18).cell i1 3 = some (Value.int IntKind.i64 n56) ∧ n14 = n56) ∧
                                                                                (∃ n55, H12.cell i1 3 = some (Value.int IntKind.i64 n55) ∧ n14 = n55) ∧ True) ∧
                                                                              True
      else
        ∃ n57,
          H2.cell i1 0 = some (Value.int IntKind.i64 n57) ∧
            bif n57 == 6 then
              ∃ n58,
                H2.cell i1 0 = some (Value.int IntKind.i64 n58) ∧
                  bif decide (n58 < 1) then R (Value.int IntKind.i64 1) H2
                  else
                    ∃ n59,
                      H2.cell i1 0 = some (Value.int IntKind.i64 n59) ∧
                        bif decide (n59 > 10) then R (Value.int IntKind.i64 1) H2
                        else
                          ∃ n60,
                            H2.cell i1 1 = some (Value.int IntKind.i64 n60) ∧
                              bif decide (n60 < 1) then R (Value.int IntKind.i64 1) H2
                              else
                                ∃ n61,
                                  H2.cell i1 1 = some (Value.int IntKind.i64 n61) ∧
                                    bif decide (n61 > 64) then R (Value.int IntKind.i64 1) H2
                                    else
                                      ∃ n62,
                                        H2.cell i1 2 = some (Value.int IntKind.i64 n62) ∧
                                          bif decide (n62 < 1) then R (Value.int IntKind.i64 1) H2
                                          else
                                            ∃ n63,
                                              H2.cell i1 2 = some (Value.int IntKind.i64 n63) ∧
                                                bif decide (n63 > 4) then R (Value.int IntKind.i64 1) H2
                                                else
                                                  ∃ n64,
                                                    (H2.bump 18).cell i1 0 = some (Value.int IntKind.i64 n64) ∧
                                                      CA en F.crossbarref07_bucketed [Value.int IntKind.i64 n64] (H2.bump 18) fun v65 H66 =>
                                                        ∃ b67,
                                                          v65 = Value.bool b67 ∧
                                                            ∃ n68,
                                                              H66.cell i1 3 = some (Value.int IntKind.i64 n68) ∧
                                                                bif !b67 == (n68 != 0) then
                                                                  R (Value.int IntKind.i64 1) H66 ∧
                                                                    ((n68 != 0) = (n68 != 0) ∧ (n68 != 0) = (n68 != 0) ∧ True) ∧
                                                                      ((∃ n70, (H2.bump 18).cell i1 3 = some (Value.int IntKind.i64 n70) ∧ n68 = n70) ∧
                                                                          (∃ n69, H66.cell i1 3 = some (Value.int IntKind.i64 n69) ∧ n68 = n69) ∧ True) ∧
                                                                        True
                                                                else
                                                                  ∃ n71,
                                                                    H66.cell i1 0 = some (Value.int IntKind.i64 n71) ∧
                                                                      CA en F.crossbarref07_bucketed [Value.int IntKind.i64 n71] H66 fun v72 H73 =>
                                                                        ∃ b74,
                                                                          v72 = Value.bool b74 ∧
                                                                            bif b74 then
                                                                              ∃ n75,
                                                                                H73.cell i1 3 = some (Value.int IntKind.i64 n75) ∧
                                                                                  CA en F.crossbarref07_power [Value.int IntKind.i64 n75] H73 fun v76 H77 =>
                                                                                    ∃ b78,
                                                                                      v76 = Value.bool b78 ∧
                                                                                        (bif !b78 then R (Value.int IntKind.i64 1) H77
                                                                                          else
                                                                                            ∃ n79,
                                                                                              H77.cell i1 0 = some (Value.int IntKind.i64 n79) ∧
                                                                                                CA en F.crossbarref07_Nested [Value.int IntKind.i64 n79] H77 fun v80 H81 =>
                                                                                                  ∃ b82,
                                                                                                    v80 = Value.bool b82 ∧
                                                                                                      bif !b82 then
                                                                                                        ∃ n83,
                                                                                                          H81.cell i1 4 = some (Value.int IntKind.i64 n83) ∧
                                                                                                            bif n83 != 0 then R (Value.int IntKind.i64 1) H81 else R (Value.int IntKind.i64 0) H81
                                                                                                      else
                                                                                                        ∃ n84,
                                                                                                          H81.cell i1 4 = some (Value.int IntKind.i64 n84) ∧
                                                                                                            bif decide (n84 < 1) then R (Value.int IntKind.i64 1) H81
                                                                                                            else
                                                                                                              ∃ n85,
                                                                                                                H81.cell i1 4 = some (Value.int IntKind.i64 n85) ∧
                                                                                                                  bif decide (n85 > (↑x0l : Int)) then R (Value.int IntKind.i64 1) H81
                                                                                                                  else
                                                                                                                    ∃ n86,
                                                                                                                      H81.cell i1 4 = some (Value.int IntKind.i64 n86) ∧
                                                                                                                        inB (IntKind.i64.wrap (n86 - 1)) x0l ∧
                                                                                                                          asRow x0 fun i87 i88 =>
                                                                                                                            ∃ n89,
                                                                                                                              H81.cell i87 (i88 + (IntKind.i64.wrap (n86 - 1)).toNat * 5) =
                                                                                                                                  some (Value.int IntKind.i64 n89) ∧
                                                                                                                                CA en F.crossbarref07_Nested [Value.int IntKind.i64 n89] H81
                                                                                                                                  fun v90 H91 =>
                                                                                                                                  ∃ b92,
                                                                                                                                    v90 = Value.bool b92 ∧
                                                                                                                                      bif b92 then R (Value.int IntKind.i64 14) H91
                                                                                                                                      else R (Value.int IntKind.i64 0) H91) ∧
                                                                                          ((n68 != 0) = (n68 != 0) ∧ (n68 != 0) = (n68 != 0) ∧ True) ∧
                                                                                            ((∃ n94, (H2.bump 18).cell i1 3 = some (Value.int IntKind.i64 n94) ∧ n68 = n94) ∧
                                                                                                (∃ n93, H66.cell i1 3 = some (Value.int IntKind.i64 n93) ∧ n68 = n93) ∧ True) ∧
                                                                                              True
                                                                            else
                                                                              (∃ n95,
                                                                                  H73.cell i1 0 = some (Value.int IntKind.i64 n95) ∧
                                                                                    CA en F.crossbarref07_Nested [Value.int IntKind.i64 n95] H73 fun v96 H97 =>
                                                                                      ∃ b98,
                                                                                        v96 = Value.bool b98 ∧
                                                                                          bif !b98 then
                                                                                            ∃ n99,
                                                                                              H97.cell i1 4 = some (Value.int IntKind.i64 n99) ∧
                                                                                                bif n99 != 0 then R (Value.int IntKind.i64 1) H97 else R (Value.int IntKind.i64 0) H97
                                                                                          else
                                                                                            ∃ n100,
                                                                                              H97.cell i1 4 = some (Value.int IntKind.i64 n100) ∧
                                                                                                bif decide (n100 < 1) then R (Value.int IntKind.i64 1) H97
                                                                                                else
                                                                                                  ∃ n101,
                                                                                                    H97.cell i1 4 = some (Value.int IntKind.i64 n101) ∧
                                                                                                      bif decide (n101 > (↑x0l : Int)) then R (Value.int IntKind.i64 1) H97
                                                                                                      else
                                                                                                        ∃ n102,
                                                                                                          H97.cell i1 4 = some (Value.int IntKind.i64 n102) ∧
                                                                                                            inB (IntKind.i64.wrap (n102 - 1)) x0l ∧
                                                                                                              asRow x0 fun i103 i104 =>
                                                                                                                ∃ n105,
                                                                                                                  H97.cell i103 (i104 + (IntKind.i64.wrap (n102 - 1)).toNat * 5) =
                                                                                                                      some (Value.int IntKind.i64 n105) ∧
                                                                                                                    CA en F.crossbarref07_Nested [Value.int IntKind.i64 n105] H97 fun v106 H107 =>
                                                                                                                      ∃ b108,
                                                                                                                        v106 = Value.bool b108 ∧
                                                                                                                          bif b108 then R (Value.int IntKind.i64 14) H107
                                                                                                                          else R (Value.int IntKind.i64 0) H107) ∧
                                                                                ((n68 != 0) = (n68 != 0) ∧ (n68 != 0) = (n68 != 0) ∧ True) ∧
                                                                                  ((∃ n110, (H2.bump 18).cell i1 3 = some (Value.int IntKind.i64 n110) ∧ n68 = n110) ∧
                                                                                      (∃ n109, H66.cell i1 3 = some (Value.int IntKind.i64 n109) ∧ n68 = n109) ∧ True) ∧
                                                                                    True
            else
              ∃ n111,
                H2.cell i1 0 = some (Value.int IntKind.i64 n111) ∧
                  bif n111 == 7 then
                    ∃ n112,
                      H2.cell i1 0 = some (Value.int IntKind.i64 n112) ∧
                        bif decide (n112 < 1) then R (Value.int IntKind.i64 1) H2
                        else
                          ∃ n113,
                            H2.cell i1 0 = some (Value.int IntKind.i64 n113) ∧
                              bif decide (n113 > 10) then R (Value.int IntKind.i64 1) H2
                              else
                                ∃ n114,
                                  H2.cell i1 1 = some (Value.int IntKind.i64 n114) ∧
                                    bif decide (n114 < 1) then R (Value.int IntKind.i64 1) H2
                                    else
                                      ∃ n115,
                                        H2.cell i1 1 = some (Value.int IntKind.i64 n115) ∧
                                          bif decide (n115 > 64) then R (Value.int IntKind.i64 1) H2
                                          else
                                            ∃ n116,
                                              H2.cell i1 2 = some (Value.int IntKind.i64 n116) ∧
                                                bif decide (n116 < 1) then R (Value.int IntKind.i64 1) H2
                                                else
                                                  ∃ n117,
                                                    H2.cell i1 2 = some (Value.int IntKind.i64 n117) ∧
                                                      bif decide (n117 > 4) then R (Value.int IntKind.i64 1) H2
                                                      else
                                                        ∃ n118,
                                                          (H2.bump 18).cell i1 0 = some (Value.int IntKind.i64 n118) ∧
                                                            CA en F.crossbarref07_bucketed [Value.int IntKind.i64 n118] (H2.bump 18) fun v119 H120 =>
                                                              ∃ b121,
                                                                v119 = Value.bool b121 ∧
                                                                  ∃ n122,
                                                                    H120.cell i1 3 = some (Value.int IntKind.i64 n122) ∧
                                                                      bif !b121 == (n122 != 0) then
                                                                        R (Value.int IntKind.i64 1) H120 ∧
                                                                          ((n122 != 0) = (n122 != 0) ∧ (n122 != 0) = (n122 != 0) ∧ True) ∧
                                                                            ((∃ n124, (H2.bump 18).cell i1 3 = some (Value.int IntKind.i64 n124) ∧ n122 = n124) ∧
                                                                                (∃ n123, H120.cell i1 3 = some (Value.int IntKind.i64 n123) ∧ n122 = n123) ∧ True) ∧
                                                                              True
                                                                      else
                                                                        ∃ n125,
                                                                          H120.cell i1 0 = some (Value.int IntKind.i64 n125) ∧
                                                                            CA en F.crossbarref07_bucketed [Value.int IntKind.i64 n125] H120 fun v126 H127 =>
                                                                              ∃ b128,
                                                                                v126 = Value.bool b128 ∧
                                                                                  bif b128 then
                                                                                    ∃ n129,
                                                                                      H127.cell i1 3 = some (Value.int IntKind.i64 n129) ∧
                                                                                        CA en F.crossbarref07_power [Value.int IntKind.i64 n129] H127 fun v130 H131 =>
                                                                                          ∃ b132,
                                                                                            v130 = Value.bool b132 ∧
                                                                                              (bif !b132 then R (Value.int IntKind.i64 1) H131
                                                                                                else
                                                                                                  ∃ n133,
                                                                                                    H131.cell i1 0 = some (Value.int IntKind.i64 n133) ∧
                                                                                                      CA en F.crossbarref07_Nested [Value.int IntKind.i64 n133] H131 fun v134 H135 =>
                                                                                                        ∃ b136,
                                                                                                          v134 = Value.bool b136 ∧
                                                                                                            bif !b136 then
                                                                                                              ∃ n137,
                                                                                                                H135.cell i1 4 = some (Value.int IntKind.i64 n137) ∧
                                                                                                                  bif n137 != 0 then R (Value.int IntKind.i64 1) H135
                                                                                                                  else R (Value.int IntKind.i64 0) H135
                                                                                                            else
                                                                                                              ∃ n138,
                                                                                                                H135.cell i1 4 = some (Value.int IntKind.i64 n138) ∧
                                                                                                                  bif decide (n138 < 1) then R (Value.int IntKind.i64 1) H135
                                                                                                                  else
                                                                                                                    ∃ n139,
                                                                                                                      H135.cell i1 4 = some (Value.int IntKind.i64 n139) ∧
                                                                                                                        bif decide (n139 > (↑x0l : Int)) then R (Value.int IntKind.i64 1) H135
                                                                                                                        else
                                                                                                                          ∃ n140,
                                                                                                                            H135.cell i1 4 = some (Value.int IntKind.i64 n140) ∧
                                                                                                                              inB (IntKind.i64.wrap (n140 - 1)) x0l ∧
                                                                                                                                asRow x0 fun i141 i142 =>
                                                                                                                                  ∃ n143,
                                                                                                                                    H135.cell i141 (i142 + (IntKind.i64.wrap (n140 - 1)).toNat * 5) =
                                                                                                                                        some (Value.int IntKind.i64 n143) ∧
                                                                                                                                      CA en F.crossbarref07_Nested [Value.int IntKind.i64 n143] H135
                                                                                                                                        fun v144 H145 =>
                                                                                                                                        ∃ b146,
                                                                                                                                          v144 = Value.bool b146 ∧
                                                                                                                                            bif b146 then R (Value.int IntKind.i64 14) H145
                                                                                                                                            else R (Value.int IntKind.i64 0) H145) ∧
                                                                                                ((n122 != 0) = (n122 != 0) ∧ (n122 != 0) = (n122 != 0) ∧ True) ∧
                                                                                                  ((∃ n148, (H2.bump 18).cell i1 3 = some (Value.int IntKind.i64 n148) ∧ n122 = n148) ∧
                                                                                                      (∃ n147, H120.cell i1 3 = some (Value.int IntKind.i64 n147) ∧ n122 = n147) ∧ True) ∧
                                                                                                    True
                                                                                  else
                                                                                    (∃ n149,
                                                                                        H127.cell i1 0 = some (Value.int IntKind.i64 n149) ∧
                                                                                          CA en F.crossbarref07_Nested [Value.int IntKind.i64 n149] H127 fun v150 H151 =>
                                                                                            ∃ b152,
                                                                                              v150 = Value.bool b152 ∧
                                                                                                bif !b152 then
                                                                                                  ∃ n153,
                                                                                                    H151.cell i1 4 = some (Value.int IntKind.i64 n153) ∧
                                                                                                      bif n153 != 0 then R (Value.int IntKind.i64 1) H151 else R (Value.int IntKind.i64 0) H151
                                                                                                else
                                                                                                  ∃ n154,
                                                                                                    H151.cell i1 4 = some (Value.int IntKind.i64 n154) ∧
                                                                                                      bif decide (n154 < 1) then R (Value.int IntKind.i64 1) H151
                                                                                                      else
                                                                                                        ∃ n155,
                                                                                                          H151.cell i1 4 = some (Value.int IntKind.i64 n155) ∧
                                                                                                            bif decide (n155 > (↑x0l : Int)) then R (Value.int IntKind.i64 1) H151
                                                                                                            else
                                                                                                              ∃ n156,
                                                                                                                H151.cell i1 4 = some (Value.int IntKind.i64 n156) ∧
                                                                                                                  inB (IntKind.i64.wrap (n156 - 1)) x0l ∧
                                                                                                                    asRow x0 fun i157 i158 =>
                                                                                                                      ∃ n159,
                                                                                                                        H151.cell i157 (i158 + (IntKind.i64.wrap (n156 - 1)).toNat * 5) =
                                                                                                                            some (Value.int IntKind.i64 n159) ∧
                                                                                                                          CA en F.crossbarref07_Nested [Value.int IntKind.i64 n159] H151
                                                                                                                            fun v160 H161 =>
                                                                                                                            ∃ b162,
                                                                                                                              v160 = Value.bool b162 ∧
                                                                                                                                bif b162 then R (Value.int IntKind.i64 14) H161
                                                                                                                                else R (Value.int IntKind.i64 0) H161) ∧
                                                                                      ((n122 != 0) = (n122 != 0) ∧ (n122 != 0) = (n122 != 0) ∧ True) ∧
                                                                                        ((∃ n164, (H2.bump 18).cell i1 3 = some (Value.int IntKind.i64 n164) ∧ n122 = n164) ∧
                                                                                            (∃ n163, H120.cell i1 3 = some (Value.int IntKind.i64 n163) ∧ n122 = n163) ∧ True) ∧
                                                                                          True
                  else
                    ∃ n165,
                      H2.cell i1 0 = some (Value.int IntKind.i64 n165) ∧
                        bif decide (n165 < 1) then R (Value.int IntKind.i64 1) H2
                        else
                          ∃ n166,
                            H2.cell i1 0 = some (Value.int IntKind.i64 n166) ∧
                              bif decide (n166 > 10) then R (Value.int IntKind.i64 1) H2
                              else
                                ∃ n167,
                                  H2.cell i1 1 = some (Value.int IntKind.i64 n167) ∧
                                    bif decide (n167 < 1) then R (Value.int IntKind.i64 1) H2
                                    else
                                      ∃ n168,
                                        H2.cell i1 1 = some (Value.int IntKind.i64 n168) ∧
                                          bif decide (n168 > 64) then R (Value.int IntKind.i64 1) H2
                                          else
                                            ∃ n169,
                                              H2.cell i1 2 = some (Value.int IntKind.i64 n169) ∧
                                                bif decide (n169 < 1) then R (Value.int IntKind.i64 1) H2
                                                else
                                                  ∃ n170,
                                                    H2.cell i1 2 = some (Value.int IntKind.i64 n170) ∧
                                                      bif decide (n170 > 1) then R (Value.int IntKind.i64 1) H2
                                                      else
                                                        ∃ n171,
                                                          (H2.bump 18).cell i1 0 = some (Value.int IntKind.i64 n171) ∧
                                                            CA en F.crossbarref07_bucketed [Value.int IntKind.i64 n171] (H2.bump 18) fun v172 H173 =>
                                                              ∃ b174,
                                                                v172 = Value.bool b174 ∧
                                                                  ∃ n175,
                                                                    H173.cell i1 3 = some (Value.int IntKind.i64 n175) ∧
                                                                      bif !b174 == (n175 != 0) then
                                                                        R (Value.int IntKind.i64 1) H173 ∧
                                                                          ((n175 != 0) = (n175 != 0) ∧ (n175 != 0) = (n175 != 0) ∧ True) ∧
                                                                            ((∃ n177, (H2.bump 18).cell i1 3 = some (Value.int IntKind.i64 n177) ∧ n175 = n177) ∧
                                                                                (∃ n176, H173.cell i1 3 = some (Value.int IntKind.i64 n176) ∧ n175 = n176) ∧ True) ∧
                                                                              True
                                                                      else
                                                                        ∃ n178,
                                                                          H173.cell i1 0 = some (Value.int IntKind.i64 n178) ∧
                                                                            CA en F.crossbarref07_bucketed [Value.int IntKind.i64 n178] H173 fun v179 H180 =>
                                                                              ∃ b181,
                                                                                v179 = Value.bool b181 ∧
                                                                                  bif b181 then
                                                                                    ∃ n182,
                                                                                      H180.cell i1 3 = some (Value.int IntKind.i64 n182) ∧
                                                                                        CA en F.crossbarref07_power [Value.int IntKind.i64 n182] H180 fun v183 H184 =>
                                                                                          ∃ b185,
                                                                                            v183 = Value.bool b185 ∧
                                                                                              (bif !b185 then R (Value.int IntKind.i64 1) H184
                                                                                                else
                                                                                                  ∃ n186,
                                                                                                    H184.cell i1 0 = some (Value.int IntKind.i64 n186) ∧
                                                                                                      CA en F.crossbarref07_Nested [Value.int IntKind.i64 n186] H184 fun v187 H188 =>
                                                                                                        ∃ b189,
                                                                                                          v187 = Value.bool b189 ∧
                                                                                                            bif !b189 then
                                                                                                              ∃ n190,
                                                                                                                H188.cell i1 4 = some (Value.int IntKind.i64 n190) ∧
                                                                                                                  bif n190 != 0 then R (Value.int IntKind.i64 1) H188
                                                                                                                  else R (Value.int IntKind.i64 0) H188
                                                                                                            else
                                                                                                              ∃ n191,
                                                                                                                H188.cell i1 4 = some (Value.int IntKind.i64 n191) ∧
                                                                                                                  bif decide (n191 < 1) then R (Value.int IntKind.i64 1) H188
                                                                                                                  else
                                                                                                                    ∃ n192,
                                                                                                                      H188.cell i1 4 = some (Value.int IntKind.i64 n192) ∧
                                                                                                                        bif decide (n192 > (↑x0l : Int)) then R (Value.int IntKind.i64 1) H188
                                                                                                                        else
                                                                                                                          ∃ n193,
                                                                                                                            H188.cell i1 4 = some (Value.int IntKind.i64 n193) ∧
                                                                                                                              inB (IntKind.i64.wrap (n193 - 1)) x0l ∧
                                                                                                                                asRow x0 fun i194 i195 =>
                                                                                                                                  ∃ n196,
                                                                                                                                    H188.cell i194 (i195 + (IntKind.i64.wrap (n193 - 1)).toNat * 5) =
                                                                                                                                        some (Value.int IntKind.i64 n196) ∧
                                                                                                                                      CA en F.crossbarref07_Nested [Value.int IntKind.i64 n196] H188
                                                                                                                                        fun v197 H198 =>
                                                                                                                                        ∃ b199,
                                                                                                                                          v197 = Value.bool b199 ∧
                                                                                                                                            bif b199 then R (Value.int IntKind.i64 14) H198
                                                                                                                                            else R (Value.int IntKind.i64 0) H198) ∧
                                                                                                ((n175 != 0) = (n175 != 0) ∧ (n175 != 0) = (n175 != 0) ∧ True) ∧
                                                                                                  ((∃ n201, (H2.bump 18).cell i1 3 = some (Value.int IntKind.i64 n201) ∧ n175 = n201) ∧
                                                                                                      (∃ n200, H173.cell i1 3 = some (Value.int IntKind.i64 n200) ∧ n175 = n200) ∧ True) ∧
                                                                                                    True
                                                                                  else
                                                                                    (∃ n202,
                                                                                        H180.cell i1 0 = some (Value.int IntKind.i64 n202) ∧
                                                                                          CA en F.crossbarref07_Nested [Value.int IntKind.i64 n202] H180 fun v203 H204 =>
                                                                                            ∃ b205,
                                                                                              v203 = Value.bool b205 ∧
                                                                                                bif !b205 then
                                                                                                  ∃ n206,
                                                                                                    H204.cell i1 4 = some (Value.int IntKind.i64 n206) ∧
                                                                                                      bif n206 != 0 then R (Value.int IntKind.i64 1) H204 else R (Value.int IntKind.i64 0) H204
                                                                                                else
                                                                                                  ∃ n207,
                                                                                                    H204.cell i1 4 = some (Value.int IntKind.i64 n207) ∧
                                                                                                      bif decide (n207 < 1) then R (Value.int IntKind.i64 1) H204
                                                                                                      else
                                                                                                        ∃ n208,
                                                                                                          H204.cell i1 4 = some (Value.int IntKind.i64 n208) ∧
                                                                                                            bif decide (n208 > (↑x0l : Int)) then R (Value.int IntKind.i64 1) H204
                                                                                                            else
                                                                                                              ∃ n209,
                                                                                                                H204.cell i1 4 = some (Value.int IntKind.i64 n209) ∧
                                                                                                                  inB (IntKind.i64.wrap (n209 - 1)) x0l ∧
                                                                                                                    asRow x0 fun i210 i211 =>
                                                                                                                      ∃ n212,
                                                                                                                        H204.cell i210 (i211 + (IntKind.i64.wrap (n209 - 1)).toNat * 5) =
                                                                                                                            some (Value.int IntKind.i64 n212) ∧
                                                                                                                          CA en F.crossbarref07_Nested [Value.int IntKind.i64 n212] H204
                                                                                                                            fun v213 H214 =>
                                                                                                                            ∃ b215,
                                                                                                                              v213 = Value.bool b215 ∧
                                                                                                                                bif b215 then R (Value.int IntKind.i64 14) H214
                                                                                                                                else R (Value.int IntKind.i64 0) H214) ∧
                                                                                      ((n175 != 0) = (n175 != 0) ∧ (n175 != 0) = (n175 != 0) ∧ True) ∧
                                                                                        ((∃ n217, (H2.bump 18).cell i1 3 = some (Value.int IntKind.i64 n217) ∧ n175 = n217) ∧
                                                                                            (∃ n216, H173.cell i1 3 = some (Value.int IntKind.i64 n216) ∧ n175 = n216) ∧ True) ∧
                                                                                          True) →
    CA Go.Proofs.Ytlkmdcncpdadbaa.en F.crossbarref07_one [Value.slice x0 x0l 0, Value.agg #[Value.int IntKind.i64 x10, Value.int IntKind.i64 x11, Value.int IntKind.i64 x12, Value.int IntKind.i64 x13, Value.int IntKind.i64 x14]] H R := by
  intro h
  refine wpFn_ok (Z := []) (fn := Go.Proofs.Try.f40) ?_ ?_ ?_
  · kernel_rfl
  · kernel_rfl
  · apply turnInto h
    kernel_rfl



/-! math_bits_OnesCount -/

theorem vc_math_bits_OnesCount (x0 : Int) (H : Heap) (R : Value → Heap → Prop) :
    (CA en F.math_bits_OnesCount64 [Value.int IntKind.u64 x0] H fun v1 H2 => ∃ n3, v1 = Value.int IntKind.i64 n3 ∧ R (Value.int IntKind.i64 n3) H2) →
    CA Go.Proofs.Ytlkmdcncpdadbaa.en F.math_bits_OnesCount [Value.int IntKind.u64 x0] H R := by
  intro h
  refine wpFn_ok (Z := []) (fn := Go.Proofs.Try.f59) ?_ ?_ ?_
  · kernel_rfl
  · kernel_rfl
  · apply turnInto h
    kernel_rfl



/-! crossbarref07_bucketed -/

theorem vc_crossbarref07_bucketed (x0 : Int) (H : Heap) (R : Value → Heap → Prop) :
    (bif x0 == 4 then R (Value.bool true) H else bif x0 == 8 then R (Value.bool true) H else R (Value.bool (x0 == 10)) H) →
    CA Go.Proofs.Ytlkmdcncpdadbaa.en F.crossbarref07_bucketed [Value.int IntKind.i64 x0] H R := by
  intro h
  refine wpFn_ok (Z := []) (fn := Go.Proofs.Try.f60) ?_ ?_ ?_
  · kernel_rfl
  · kernel_rfl
  · apply turnInto h
    kernel_rfl



/-! crossbarref07_power -/

theorem vc_crossbarref07_power (x0 : Int) (H : Heap) (R : Value → Heap → Prop) :
    (bif x0 == 1 then R (Value.bool true) H
 else
  bif x0 == 2 then R (Value.bool true) H
  else bif x0 == 4 then R (Value.bool true) H else bif x0 == 8 then R (Value.bool true) H else bif x0 == 16 then R (Value.bool true) H else R (Value.bool (x0 == 32)) H) →
    CA Go.Proofs.Ytlkmdcncpdadbaa.en F.crossbarref07_power [Value.int IntKind.i64 x0] H R := by
  intro h
  refine wpFn_ok (Z := []) (fn := Go.Proofs.Try.f61) ?_ ?_ ?_
  · kernel_rfl
  · kernel_rfl
  · apply turnInto h
    kernel_rfl



/-! math_bits_OnesCount32 -/

/-! math_bits_OnesCount64 -/

theorem vc_math_bits_OnesCount64 (x0 : Int) (H : Heap) (R : Value → Heap → Prop) :
    (nn 1 ∧
  nn 2 ∧
    nn 4 ∧
      nn 8 ∧
        nn 16 ∧
          nn 32 ∧
            R
              (Value.int IntKind.i64
                (IntKind.i64.wrap
                  (↑(BitVec.ofInt 64
                            (IntKind.i64.wrap
                              (IntKind.u64.wrap
                                (IntKind.u64.wrap
                                    (IntKind.u64.wrap
                                        (IntKind.u64.wrap
                                            (↑(BitVec.ofInt 64
                                                      (IntKind.u64.wrap
                                                        ((IntKind.u64.wrap
                                                                (IntKind.u64.wrap
                                                                    (↑(BitVec.ofInt 64
                                                                              ((IntKind.u64.wrap
                                                                                    (IntKind.u64.wrap (↑(BitVec.ofInt 64 (x0.fdiv 2) &&& BitVec.ofInt 64 6148914691236517205).toNat : Int) +
                                                                                      IntKind.u64.wrap (↑(BitVec.ofInt 64 x0 &&& BitVec.ofInt 64 6148914691236517205).toNat : Int))).fdiv
                                                                                4) &&&
                                                                            BitVec.ofInt 64 3689348814741910323).toNat :
                                                                      Int) +
                                                                  IntKind.u64.wrap
                                                                    (↑(BitVec.ofInt 64
                                                                              (IntKind.u64.wrap
                                                                                (IntKind.u64.wrap (↑(BitVec.ofInt 64 (x0.fdiv 2) &&& BitVec.ofInt 64 6148914691236517205).toNat : Int) +
                                                                                  IntKind.u64.wrap (↑(BitVec.ofInt 64 x0 &&& BitVec.ofInt 64 6148914691236517205).toNat : Int))) &&&
                                                                            BitVec.ofInt 64 3689348814741910323).toNat :
                                                                      Int))).fdiv
                                                            16 +
                                                          IntKind.u64.wrap
                                                            (IntKind.u64.wrap
                                                                (↑(BitVec.ofInt 64
                                                                          ((IntKind.u64.wrap
                                                                                (IntKind.u64.wrap (↑(BitVec.ofInt 64 (x0.fdiv 2) &&& BitVec.ofInt 64 6148914691236517205).toNat : Int) +
                                                                                  IntKind.u64.wrap (↑(BitVec.ofInt 64 x0 &&& BitVec.ofInt 64 6148914691236517205).toNat : Int))).fdiv
                                                                            4) &&&
                                                                        BitVec.ofInt 64 3689348814741910323).toNat :
                                                                  Int) +
                                                              IntKind.u64.wrap
                                                                (↑(BitVec.ofInt 64
                                                                          (IntKind.u64.wrap
                                                                            (IntKind.u64.wrap (↑(BitVec.ofInt 64 (x0.fdiv 2) &&& BitVec.ofInt 64 6148914691236517205).toNat : Int) +
                                                                              IntKind.u64.wrap (↑(BitVec.ofInt 64 x0 &&& BitVec.ofInt 64 6148914691236517205).toNat : Int))) &&&
                                                                        BitVec.ofInt 64 3689348814741910323).toNat :
                                                                  Int)))) &&&
                                                    BitVec.ofInt 64 1085102592571150095).toNat :
                                              Int) +
                                          (IntKind.u64.wrap
                                                (↑(BitVec.ofInt 64
                                                          (IntKind.u64.wrap
                                                            ((IntKind.u64.wrap
                                                                    (IntKind.u64.wrap
                                                                        (↑(BitVec.ofInt 64
                                                                                  ((IntKind.u64.wrap
                                                                                        (IntKind.u64.wrap (↑(BitVec.ofInt 64 (x0.fdiv 2) &&& BitVec.ofInt 64 6148914691236517205).toNat : Int) +
                                                                                          IntKind.u64.wrap (↑(BitVec.ofInt 64 x0 &&& BitVec.ofInt 64 6148914691236517205).toNat : Int))).fdiv
                                                                                    4) &&&
                                                                                BitVec.ofInt 64 3689348814741910323).toNat :
                                                                          Int) +
                                                                      IntKind.u64.wrap
                                                                        (↑(BitVec.ofInt 64
                                                                                  (IntKind.u64.wrap
                                                                                    (IntKind.u64.wrap (↑(BitVec.ofInt 64 (x0.fdiv 2) &&& BitVec.ofInt 64 6148914691236517205).toNat : Int) +
                                                                                      IntKind.u64.wrap (↑(BitVec.ofInt 64 x0 &&& BitVec.ofInt 64 6148914691236517205).toNat : Int))) &&&
                                                                                BitVec.ofInt 64 3689348814741910323).toNat :
                                                                          Int))).fdiv
                                                                16 +
                                                              IntKind.u64.wrap
                                                                (IntKind.u64.wrap
                                                                    (↑(BitVec.ofInt 64
                                                                              ((IntKind.u64.wrap
                                                                                    (IntKind.u64.wrap (↑(BitVec.ofInt 64 (x0.fdiv 2) &&& BitVec.ofInt 64 6148914691236517205).toNat : Int) +
                                                                                      IntKind.u64.wrap (↑(BitVec.ofInt 64 x0 &&& BitVec.ofInt 64 6148914691236517205).toNat : Int))).fdiv
                                                                                4) &&&
                                                                            BitVec.ofInt 64 3689348814741910323).toNat :
                                                                      Int) +
                                                                  IntKind.u64.wrap
                                                                    (↑(BitVec.ofInt 64
                                                                              (IntKind.u64.wrap
                                                                                (IntKind.u64.wrap (↑(BitVec.ofInt 64 (x0.fdiv 2) &&& BitVec.ofInt 64 6148914691236517205).toNat : Int) +
                                                                                  IntKind.u64.wrap (↑(BitVec.ofInt 64 x0 &&& BitVec.ofInt 64 6148914691236517205).toNat : Int))) &&&
                                                                            BitVec.ofInt 64 3689348814741910323).toNat :
                                                                      Int)))) &&&
                                                        BitVec.ofInt 64 1085102592571150095).toNat :
                                                  Int)).fdiv
                                            256) +
                                      (IntKind.u64.wrap
                                            (IntKind.u64.wrap
                                                (↑(BitVec.ofInt 64
                                                          (IntKind.u64.wrap
                                                            ((IntKind.u64.wrap
                                                                    (IntKind.u64.wrap
                                                                        (↑(BitVec.ofInt 64
                                                                                  ((IntKind.u64.wrap
                                                                                        (IntKind.u64.wrap (↑(BitVec.ofInt 64 (x0.fdiv 2) &&& BitVec.ofInt 64 6148914691236517205).toNat : Int) +
                                                                                          IntKind.u64.wrap (↑(BitVec.ofInt 64 x0 &&& BitVec.ofInt 64 6148914691236517205).toNat : Int))).fdiv
                                                                                    4) &&&
                                                                                BitVec.ofInt 64 3689348814741910323).toNat :
                                                                          Int) +
                                                                      IntKind.u64.wrap
                                                                        (↑(BitVec.ofInt 64
                                                                                  (IntKind.u64.wrap
                                                                                    (IntKind.u64.wrap (↑(BitVec.ofInt 64 (x0.fdiv 2) &&& BitVec.ofInt 64 6148914691236517205).toNat : Int) +
                                                                                      IntKind.u64.wrap (↑(BitVec.ofInt 64 x0 &&& BitVec.ofInt 64 6148914691236517205).toNat : Int))) &&&
                                                                                BitVec.ofInt 64 3689348814741910323).toNat :
                                                                          Int))).fdiv
                                                                16 +
                                                              IntKind.u64.wrap
                                                                (IntKind.u64.wrap
                                                                    (↑(BitVec.ofInt 64
                                                                              ((IntKind.u64.wrap
                                                                                    (IntKind.u64.wrap (↑(BitVec.ofInt 64 (x0.fdiv 2) &&& BitVec.ofInt 64 6148914691236517205).toNat : Int) +
                                                                                      IntKind.u64.wrap (↑(BitVec.ofInt 64 x0 &&& BitVec.ofInt 64 6148914691236517205).toNat : Int))).fdiv
                                                                                4) &&&
                                                                            BitVec.ofInt 64 3689348814741910323).toNat :
                                                                      Int) +
                                                                  IntKind.u64.wrap
                                                                    (↑(BitVec.ofInt 64
                                                                              (IntKind.u64.wrap
                                                                                (IntKind.u64.wrap (↑(BitVec.ofInt 64 (x0.fdiv 2) &&& BitVec.ofInt 64 6148914691236517205).toNat : Int) +
                                                                                  IntKind.u64.wrap (↑(BitVec.ofInt 64 x0 &&& BitVec.ofInt 64 6148914691236517205).toNat : Int))) &&&
                                                                            BitVec.ofInt 64 3689348814741910323).toNat :
                                                                      Int)))) &&&
                                                        BitVec.ofInt 64 1085102592571150095).toNat :
                                                  Int) +
                                              (IntKind.u64.wrap
                                                    (↑(BitVec.ofInt 64
                                                              (IntKind.u64.wrap
                                                                ((IntKind.u64.wrap
                                                                        (IntKind.u64.wrap
                                                                            (↑(BitVec.ofInt 64
                                                                                      ((IntKind.u64.wrap
                                                                                            (IntKind.u64.wrap (↑(BitVec.ofInt 64 (x0.fdiv 2) &&& BitVec.ofInt 64 6148914691236517205).toNat : Int) +
                                                                                              IntKind.u64.wrap (↑(BitVec.ofInt 64 x0 &&& BitVec.ofInt 64 6148914691236517205).toNat : Int))).fdiv
                                                                                        4) &&&
                                                                                    BitVec.ofInt 64 3689348814741910323).toNat :
                                                                              Int) +
                                                                          IntKind.u64.wrap
                                                                            (↑(BitVec.ofInt 64
                                                                                      (IntKind.u64.wrap
                                                                                        (IntKind.u64.wrap (↑(BitVec.ofInt 64 (x0.fdiv 2) &&& BitVec.ofInt 64 6148914691236517205).toNat : Int) +
                                                                                          IntKind.u64.wrap (↑(BitVec.ofInt 64 x0 &&& BitVec.ofInt 64 6148914691236517205).toNat : Int))) &&&
                                                                                    BitVec.ofInt 64 3689348814741910323).toNat :
                                                                              Int))).fdiv
                                                                    16 +
                                                                  IntKind.u64.wrap
                                                                    (IntKind.u64.wrap
                                                                        (↑(BitVec.ofInt 64
                                                                                  ((IntKind.u64.wrap
                                                                                        (IntKind.u64.wrap (↑(BitVec.ofInt 64 (x0.fdiv 2) &&& BitVec.ofInt 64 6148914691236517205).toNat : Int) +
                                                                                          IntKind.u64.wrap (↑(BitVec.ofInt 64 x0 &&& BitVec.ofInt 64 6148914691236517205).toNat : Int))).fdiv
                                                                                    4) &&&
                                                                                BitVec.ofInt 64 3689348814741910323).toNat :
                                                                          Int) +
                                                                      IntKind.u64.wrap
                                                                        (↑(BitVec.ofInt 64
                                                                                  (IntKind.u64.wrap
                                                                                    (IntKind.u64.wrap (↑(BitVec.ofInt 64 (x0.fdiv 2) &&& BitVec.ofInt 64 6148914691236517205).toNat : Int) +
                                                                                      IntKind.u64.wrap (↑(BitVec.ofInt 64 x0 &&& BitVec.ofInt 64 6148914691236517205).toNat : Int))) &&&
                                                                                BitVec.ofInt 64 3689348814741910323).toNat :
                                                                          Int)))) &&&
                                                            BitVec.ofInt 64 1085102592571150095).toNat :
                                                      Int)).fdiv
                                                256)).fdiv
                                        65536) +
                                  (IntKind.u64.wrap
                                        (IntKind.u64.wrap
                                            (IntKind.u64.wrap
                                                (↑(BitVec.ofInt 64
                                                          (IntKind.u64.wrap
                                                            ((IntKind.u64.wrap
                                                                    (IntKind.u64.wrap
                                                                        (↑(BitVec.ofInt 64
                                                                                  ((IntKind.u64.wrap
                                                                                        (IntKind.u64.wrap (↑(BitVec.ofInt 64 (x0.fdiv 2) &&& BitVec.ofInt 64 6148914691236517205).toNat : Int) +
                                                                                          IntKind.u64.wrap (↑(BitVec.ofInt 64 x0 &&& BitVec.ofInt 64 6148914691236517205).toNat : Int))).fdiv
                                                                                    4) &&&
                                                                                BitVec.ofInt 64 3689348814741910323).toNat :
                                                                          Int) +
                                                                      IntKind.u64.wrap
                                                                        (↑(BitVec.ofInt 64
                                                                                  (IntKind.u64.wrap
                                                                                    (IntKind.u64.wrap (↑(BitVec.ofInt 64 (x0.fdiv 2) &&& BitVec.ofInt 64 6148914691236517205).toNat : Int) +
                                                                                      IntKind.u64.wrap (↑(BitVec.ofInt 64 x0 &&& BitVec.ofInt 64 6148914691236517205).toNat : Int))) &&&
                                                                                BitVec.ofInt 64 3689348814741910323).toNat :
                                                                          Int))).fdiv
                                                                16 +
                                                              IntKind.u64.wrap
                                                                (IntKind.u64.wrap
                                                                    (↑(BitVec.ofInt 64
                                                                              ((IntKind.u64.wrap
                                                                                    (IntKind.u64.wrap (↑(BitVec.ofInt 64 (x0.fdiv 2) &&& BitVec.ofInt 64 6148914691236517205).toNat : Int) +
                                                                                      IntKind.u64.wrap (↑(BitVec.ofInt 64 x0 &&& BitVec.ofInt 64 6148914691236517205).toNat : Int))).fdiv
                                                                                4) &&&
                                                                            BitVec.ofInt 64 3689348814741910323).toNat :
                                                                      Int) +
                                                                  IntKind.u64.wrap
                                                                    (↑(BitVec.ofInt 64
                                                                              (IntKind.u64.wrap
                                                                                (IntKind.u64.wrap (↑(BitVec.ofInt 64 (x0.fdiv 2) &&& BitVec.ofInt 64 6148914691236517205).toNat : Int) +
                                                                                  IntKind.u64.wrap (↑(BitVec.ofInt 64 x0 &&& BitVec.ofInt 64 6148914691236517205).toNat : Int))) &&&
                                                                            BitVec.ofInt 64 3689348814741910323).toNat :
                                                                      Int)))) &&&
                                                        BitVec.ofInt 64 1085102592571150095).toNat :
                                                  Int) +
                                              (IntKind.u64.wrap
                                                    (↑(BitVec.ofInt 64
                                                              (IntKind.u64.wrap
                                                                ((IntKind.u64.wrap
                                                                        (IntKind.u64.wrap
                                                                            (↑(BitVec.ofInt 64
                                                                                      ((IntKind.u64.wrap
                                                                                            (IntKind.u64.wrap (↑(BitVec.ofInt 64 (x0.fdiv 2) &&& BitVec.ofInt 64 6148914691236517205).toNat : Int) +
                                                                                              IntKind.u64.wrap (↑(BitVec.ofInt 64 x0 &&& BitVec.ofInt 64 6148914691236517205).toNat : Int))).fdiv
                                                                                        4) &&&
                                                                                    BitVec.ofInt 64 3689348814741910323).toNat :
                                                                              Int) +
                                                                          IntKind.u64.wrap
                                                                            (↑(BitVec.ofInt 64
                                                                                      (IntKind.u64.wrap
                                                                                        (IntKind.u64.wrap (↑(BitVec.ofInt 64 (x0.fdiv 2) &&& BitVec.ofInt 64 6148914691236517205).toNat : Int) +
                                                                                          IntKind.u64.wrap (↑(BitVec.ofInt 64 x0 &&& BitVec.ofInt 64 6148914691236517205).toNat : Int))) &&&
                                                                                    BitVec.ofInt 64 3689348814741910323).toNat :
                                                                              Int))).fdiv
                                                                    16 +
                                                                  IntKind.u64.wrap
                                                                    (IntKind.u64.wrap
                                                                        (↑(BitVec.ofInt 64
                                                                                  ((IntKind.u64.wrap
                                                                                        (IntKind.u64.wrap (↑(BitVec.ofInt 64 (x0.fdiv 2) &&& BitVec.ofInt 64 6148914691236517205).toNat : Int) +
                                                                                          IntKind.u64.wrap (↑(BitVec.ofInt 64 x0 &&& BitVec.ofInt 64 6148914691236517205).toNat : Int))).fdiv
                                                                                    4) &&&
                                                                                BitVec.ofInt 64 3689348814741910323).toNat :
                                                                          Int) +
                                                                      IntKind.u64.wrap
                                                                        (↑(BitVec.ofInt 64
                                                                                  (IntKind.u64.wrap
                                                                                    (IntKind.u64.wrap (↑(BitVec.ofInt 64 (x0.fdiv 2) &&& BitVec.ofInt 64 6148914691236517205).toNat : Int) +
                                                                                      IntKind.u64.wrap (↑(BitVec.ofInt 64 x0 &&& BitVec.ofInt 64 6148914691236517205).toNat : Int))) &&&
                                                                                BitVec.ofInt 64 3689348814741910323).toNat :
                                                                          Int)))) &&&
                                                            BitVec.ofInt 64 1085102592571150095).toNat :
                                                      Int)).fdiv
                                                256) +
                                          (IntKind.u64.wrap
                                                (IntKind.u64.wrap
                                                    (↑(BitVec.ofInt 64
                                                              (IntKind.u64.wrap
                                                                ((IntKind.u64.wrap
                                                                        (IntKind.u64.wrap
                                                                            (↑(BitVec.ofInt 64
                                                                                      ((IntKind.u64.wrap
                                                                                            (IntKind.u64.wrap (↑(BitVec.ofInt 64 (x0.fdiv 2) &&& BitVec.ofInt 64 6148914691236517205).toNat : Int) +
                                                                                              IntKind.u64.wrap (↑(BitVec.ofInt 64 x0 &&& BitVec.ofInt 64 6148914691236517205).toNat : Int))).fdiv
                                                                                        4) &&&
                                                                                    BitVec.ofInt 64 3689348814741910323).toNat :
                                                                              Int) +
                                                                          IntKind.u64.wrap
                                                                            (↑(BitVec.ofInt 64
                                                                                      (IntKind.u64.wrap
                                                                                        (IntKind.u64.wrap (↑(BitVec.ofInt 64 (x0.fdiv 2) &&& BitVec.ofInt 64 6148914691236517205).toNat : Int) +
                                                                                          IntKind.u64.wrap (↑(BitVec.ofInt 64 x0 &&& BitVec.ofInt 64 6148914691236517205).toNat : Int))) &&&
                                                                                    BitVec.ofInt 64 3689348814741910323).toNat :
                                                                              Int))).fdiv
                                                                    16 +
                                                                  IntKind.u64.wrap
                                                                    (IntKind.u64.wrap
                                                                        (↑(BitVec.ofInt 64
                                                                                  ((IntKind.u64.wrap
                                                                                        (IntKind.u64.wrap (↑(BitVec.ofInt 64 (x0.fdiv 2) &&& BitVec.ofInt 64 6148914691236517205).toNat : Int) +
                                                                                          IntKind.u64.wrap (↑(BitVec.ofInt 64 x0 &&& BitVec.ofInt 64 6148914691236517205).toNat : Int))).fdiv
                                                                                    4) &&&
                                                                                BitVec.ofInt 64 3689348814741910323).toNat :
                                                                          Int) +
                                                                      IntKind.u64.wrap
                                                                        (↑(BitVec.ofInt 64
                                                                                  (IntKind.u64.wrap
                                                                                    (IntKind.u64.wrap (↑(BitVec.ofInt 64 (x0.fdiv 2) &&& BitVec.ofInt 64 6148914691236517205).toNat : Int) +
                                                                                      IntKind.u64.wrap (↑(BitVec.ofInt 64 x0 &&& BitVec.ofInt 64 6148914691236517205).toNat : Int))) &&&
                                                                                BitVec.ofInt 64 3689348814741910323).toNat :
                                                                          Int)))) &&&
                                                            BitVec.ofInt 64 1085102592571150095).toNat :
                                                      Int) +
                                                  (IntKind.u64.wrap
                                                        (↑(BitVec.ofInt 64
                                                                  (IntKind.u64.wrap
                                                                    ((IntKind.u64.wrap
                                                                            (IntKind.u64.wrap
                                                                                (↑(BitVec.ofInt 64
                                                                                          ((IntKind.u64.wrap
                                                                                                (IntKind.u64.wrap (↑(BitVec.ofInt 64 (x0.fdiv 2) &&& BitVec.ofInt 64 6148914691236517205).toNat : Int) +
                                                                                                  IntKind.u64.wrap (↑(BitVec.ofInt 64 x0 &&& BitVec.ofInt 64 6148914691236517205).toNat : Int))).fdiv
                                                                                            4) &&&
                                                                                        BitVec.ofInt 64 3689348814741910323).toNat :
                                                                                  Int) +
                                                                              IntKind.u64.wrap
                                                                                (↑(BitVec.ofInt 64
                                                                                          (IntKind.u64.wrap
                                                                                            (IntKind.u64.wrap (↑(BitVec.ofInt 64 (x0.fdiv 2) &&& BitVec.ofInt 64 6148914691236517205).toNat : Int) +
                                                                                              IntKind.u64.wrap (↑(BitVec.ofInt 64 x0 &&& BitVec.ofInt 64 6148914691236517205).toNat : Int))) &&&
                                                                                        BitVec.ofInt 64 3689348814741910323).toNat :
                                                                                  Int))).fdiv
                                                                        16 +
                                                                      IntKind.u64.wrap
                                                                        (IntKind.u64.wrap
                                                                            (↑(BitVec.ofInt 64
                                                                                      ((IntKind.u64.wrap
                                                                                            (IntKind.u64.wrap (↑(BitVec.ofInt 64 (x0.fdiv 2) &&& BitVec.ofInt 64 6148914691236517205).toNat : Int) +
                                                                                              IntKind.u64.wrap (↑(BitVec.ofInt 64 x0 &&& BitVec.ofInt 64 6148914691236517205).toNat : Int))).fdiv
                                                                                        4) &&&
                                                                                    BitVec.ofInt 64 3689348814741910323).toNat :
                                                                              Int) +
                                                                          IntKind.u64.wrap
                                                                            (↑(BitVec.ofInt 64
                                                                                      (IntKind.u64.wrap
                                                                                        (IntKind.u64.wrap (↑(BitVec.ofInt 64 (x0.fdiv 2) &&& BitVec.ofInt 64 6148914691236517205).toNat : Int) +
                                                                                          IntKind.u64.wrap (↑(BitVec.ofInt 64 x0 &&& BitVec.ofInt 64 6148914691236517205).toNat : Int))) &&&
                                                                                    BitVec.ofInt 64 3689348814741910323).toNat :
                                                                              Int)))) &&&
                                                                BitVec.ofInt 64 1085102592571150095).toNat :
                                                          Int)).fdiv
                                                    256)).fdiv
                                            65536)).fdiv
                                    4294967296))) &&&
                          BitVec.ofInt 64 127).toNat :
                    Int)))
              H) →
    CA Go.Proofs.Ytlkmdcncpdadbaa.en F.math_bits_OnesCount64 [Value.int IntKind.u64 x0] H R := by
  intro h
  refine wpFn_ok (Z := []) (fn := Go.Proofs.Try.f72) ?_ ?_ ?_
  · kernel_rfl
  · kernel_rfl
  · apply turnInto h
    kernel_rfl


end Go.Proofs.Ytlkmdcncpdadbaa
