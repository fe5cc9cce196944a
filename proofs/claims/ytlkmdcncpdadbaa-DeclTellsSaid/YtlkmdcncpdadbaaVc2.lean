/-
  What functions of this seat's program need (printed by a program, checked by the kernel).
-/
import Derived.Test.YtlkmdcncpdadbaaNames
import Derived.Test.YtlkmdcncpdadbaaAs22
namespace Go.Proofs.Ytlkmdcncpdadbaa
open Go Go.AS Go.RowKit
set_option linter.unusedVariables false
set_option maxRecDepth 100000

/-! decl_Like -/

theorem vc_decl_Like (x00 : Int) (x01 : Int) (x02 : Int) (x03 : Int) (x04 : Int) (x10 : Int) (x11 : Int) (x12 : Int) (x13 : Int) (x14 : Int) (H : Heap) (R : Value → Heap → Prop) :
    (nwH H (AS.Obj.cells true 0 [Value.int IntKind.i64 x00, Value.int IntKind.i64 x01, Value.int IntKind.i64 x02, Value.int IntKind.i64 x03, Value.int IntKind.i64 x04]) fun i1 H2 =>
  nwH H2 (AS.Obj.cells true 0 [Value.int IntKind.i64 x10, Value.int IntKind.i64 x11, Value.int IntKind.i64 x12, Value.int IntKind.i64 x13, Value.int IntKind.i64 x14]) fun i3 H4 =>
    ∃ n5 n6 n7 n8 n9,
      H4.cellsAt i1 0 5 = some [Value.int IntKind.i64 n5, Value.int IntKind.i64 n6, Value.int IntKind.i64 n7, Value.int IntKind.i64 n8, Value.int IntKind.i64 n9] ∧
        ∃ n10 n11 n12 n13 n14,
          H4.cellsAt i3 0 5 = some [Value.int IntKind.i64 n10, Value.int IntKind.i64 n11, Value.int IntKind.i64 n12, Value.int IntKind.i64 n13, Value.int IntKind.i64 n14] ∧
            R (Value.bool (n5 == n10 && (n6 == n11 && (n7 == n12 && (n8 == n13 && n9 == n14))))) H4) →
    CA Go.Proofs.Ytlkmdcncpdadbaa.en F.decl_Like [Value.agg #[Value.int IntKind.i64 x00, Value.int IntKind.i64 x01, Value.int IntKind.i64 x02, Value.int IntKind.i64 x03, Value.int IntKind.i64 x04],
  Value.agg #[Value.int IntKind.i64 x10, Value.int IntKind.i64 x11, Value.int IntKind.i64 x12, Value.int IntKind.i64 x13, Value.int IntKind.i64 x14]] H R := by
  intro h
  refine wpFn_ok (Z := []) (fn := Go.Proofs.Try.f21) ?_ ?_ ?_
  · kernel_rfl
  · kernel_rfl
  · apply turnInto h
    kernel_rfl



/-! crossbarref07_Like -/

theorem vc_crossbarref07_Like (x00 : Int) (x01 : Int) (x02 : Int) (x03 : Int) (x04 : Int) (x10 : Int) (x11 : Int) (x12 : Int) (x13 : Int) (x14 : Int) (H : Heap) (R : Value → Heap → Prop) :
    (nwH H (AS.Obj.cells true 0 [Value.int IntKind.i64 x00, Value.int IntKind.i64 x01, Value.int IntKind.i64 x02, Value.int IntKind.i64 x03, Value.int IntKind.i64 x04]) fun i1 H2 =>
  nwH H2 (AS.Obj.cells true 0 [Value.int IntKind.i64 x10, Value.int IntKind.i64 x11, Value.int IntKind.i64 x12, Value.int IntKind.i64 x13, Value.int IntKind.i64 x14]) fun i3 H4 =>
    ∃ n5,
      H4.cell i1 0 = some (Value.int IntKind.i64 n5) ∧
        ∃ n6,
          H4.cell i3 0 = some (Value.int IntKind.i64 n6) ∧
            bif n5 == n6 then
              ∃ n7,
                H4.cell i1 1 = some (Value.int IntKind.i64 n7) ∧
                  ∃ n8,
                    H4.cell i3 1 = some (Value.int IntKind.i64 n8) ∧
                      bif n7 == n8 then
                        ∃ n9,
                          H4.cell i1 2 = some (Value.int IntKind.i64 n9) ∧
                            ∃ n10,
                              H4.cell i3 2 = some (Value.int IntKind.i64 n10) ∧
                                bif n9 == n10 then
                                  ∃ n11,
                                    H4.cell i1 3 = some (Value.int IntKind.i64 n11) ∧
                                      ∃ n12,
                                        H4.cell i3 3 = some (Value.int IntKind.i64 n12) ∧
                                          bif n11 == n12 then
                                            ∃ n13, H4.cell i1 4 = some (Value.int IntKind.i64 n13) ∧ ∃ n14, H4.cell i3 4 = some (Value.int IntKind.i64 n14) ∧ R (Value.bool (n13 == n14)) H4
                                          else R (Value.bool false) H4
                                else R (Value.bool false) H4
                      else R (Value.bool false) H4
            else R (Value.bool false) H4) →
    CA Go.Proofs.Ytlkmdcncpdadbaa.en F.crossbarref07_Like [Value.agg #[Value.int IntKind.i64 x00, Value.int IntKind.i64 x01, Value.int IntKind.i64 x02, Value.int IntKind.i64 x03, Value.int IntKind.i64 x04],
  Value.agg #[Value.int IntKind.i64 x10, Value.int IntKind.i64 x11, Value.int IntKind.i64 x12, Value.int IntKind.i64 x13, Value.int IntKind.i64 x14]] H R := by
  intro h
  refine wpFn_ok (Z := []) (fn := Go.Proofs.Try.f22) ?_ ?_ ?_
  · kernel_rfl
  · kernel_rfl
  · apply turnInto h
    kernel_rfl



/-! decl_May -/

theorem vc_decl_May (x0 : Int) (x1 : Int) (H : Heap) (R : Value → Heap → Prop) :
    (CA en F.decl_kinds [Value.int IntKind.i64 x0] H fun v1 H2 =>
  ∃ n3 b4 b5 a6 i7 b8 b9,
    v1 = Value.tuple #[Value.agg #[Value.int IntKind.i64 n3, Value.bool b4, Value.bool b5, Value.slice a6 i7 0, Value.bool b8], Value.bool b9] ∧
      nwH H2 (AS.Obj.cells true 0 [Value.int IntKind.i64 0, Value.bool false, Value.bool false, Value.slice none 0 0, Value.bool false]) fun i10 H11 =>
        stc H11 i10 0 [Value.int IntKind.i64 n3, Value.bool b4, Value.bool b5, Value.slice a6 i7 0, Value.bool b8] fun H12 =>
          bif b9 then
            ∃ a13 i14,
              H12.cell i10 3 = some (Value.slice a13 i14 0) ∧
                CA en F.slices_Contains_int_int [Value.slice a13 i14 0, Value.int IntKind.i64 x1] H12 fun v15 H16 => ∃ b17, v15 = Value.bool b17 ∧ R (Value.bool b17) H16
          else R (Value.bool false) H12) →
    CA Go.Proofs.Ytlkmdcncpdadbaa.en F.decl_May [Value.int IntKind.i64 x0, Value.int IntKind.i64 x1] H R := by
  intro h
  refine wpFn_ok (Z := []) (fn := Go.Proofs.Try.f23) ?_ ?_ ?_
  · kernel_rfl
  · kernel_rfl
  · apply turnInto h
    kernel_rfl



/-! crossbarref07_May -/

theorem vc_crossbarref07_May (x0 : Int) (x1 : Int) (H : Heap) (R : Value → Heap → Prop) :
    (bif x0 == 1 then
  bif x0 == 4 then
    bif x0 == 6 then
      bif x1 == 1 then R (Value.bool true) H
      else
        bif x1 == 2 then R (Value.bool true) H
        else
          bif x1 == 4 then R (Value.bool true) H
          else
            bif x1 == 3 then R (Value.bool true) H
            else
              bif x1 == 5 then R (Value.bool true) H
              else bif x1 == 6 then R (Value.bool true) H else bif x1 == 8 then R (Value.bool true) H else bif x1 == 7 then R (Value.bool true) H else R (Value.bool false) H
    else
      bif x1 == 1 then R (Value.bool true) H
      else
        bif x1 == 2 then R (Value.bool true) H
        else
          bif x1 == 4 then R (Value.bool true) H
          else
            bif x1 == 3 then R (Value.bool true) H
            else
              bif x1 == 5 then R (Value.bool true) H
              else
                bif x1 == 6 then bif x0 == 7 then R (Value.bool true) H else R (Value.bool (x0 == 8)) H
                else bif x1 == 8 then bif x0 == 7 then R (Value.bool true) H else R (Value.bool (x0 == 8)) H else bif x1 == 7 then R (Value.bool (x0 == 7)) H else R (Value.bool false) H
  else
    bif x0 == 6 then
      bif x1 == 1 then R (Value.bool true) H
      else
        bif x1 == 2 then R (Value.bool true) H
        else
          bif x1 == 4 then R (Value.bool true) H
          else
            bif x1 == 3 then bif x0 == 5 then R (Value.bool true) H else CA en F.crossbarref07_Nested [Value.int IntKind.i64 x0] H fun v1 H2 => ∃ b3, v1 = Value.bool b3 ∧ R (Value.bool b3) H2
            else
              bif x1 == 5 then R (Value.bool (x0 == 5)) H
              else bif x1 == 6 then R (Value.bool true) H else bif x1 == 8 then R (Value.bool true) H else bif x1 == 7 then R (Value.bool true) H else R (Value.bool false) H
    else
      bif x1 == 1 then R (Value.bool true) H
      else
        bif x1 == 2 then R (Value.bool true) H
        else
          bif x1 == 4 then R (Value.bool true) H
          else
            bif x1 == 3 then bif x0 == 5 then R (Value.bool true) H else CA en F.crossbarref07_Nested [Value.int IntKind.i64 x0] H fun v4 H5 => ∃ b6, v4 = Value.bool b6 ∧ R (Value.bool b6) H5
            else
              bif x1 == 5 then R (Value.bool (x0 == 5)) H
              else
                bif x1 == 6 then bif x0 == 7 then R (Value.bool true) H else R (Value.bool (x0 == 8)) H
                else bif x1 == 8 then bif x0 == 7 then R (Value.bool true) H else R (Value.bool (x0 == 8)) H else bif x1 == 7 then R (Value.bool (x0 == 7)) H else R (Value.bool false) H
 else
  bif x0 == 2 then
    bif x0 == 4 then
      bif x0 == 6 then
        bif x1 == 1 then R (Value.bool true) H
        else
          bif x1 == 2 then R (Value.bool true) H
          else
            bif x1 == 4 then R (Value.bool true) H
            else
              bif x1 == 3 then R (Value.bool true) H
              else
                bif x1 == 5 then R (Value.bool true) H
                else bif x1 == 6 then R (Value.bool true) H else bif x1 == 8 then R (Value.bool true) H else bif x1 == 7 then R (Value.bool true) H else R (Value.bool false) H
      else
        bif x1 == 1 then R (Value.bool true) H
        else
          bif x1 == 2 then R (Value.bool true) H
          else
            bif x1 == 4 then R (Value.bool true) H
            else
              bif x1 == 3 then R (Value.bool true) H
              else
                bif x1 == 5 then R (Value.bool true) H
                else
                  bif x1 == 6 then bif x0 == 7 then R (Value.bool true) H else R (Value.bool (x0 == 8)) H
                  else bif x1 == 8 then bif x0 == 7 then R (Value.bool true) H else R (Value.bool (x0 == 8)) H else bif x1 == 7 then R (Value.bool (x0 == 7)) H else R (Value.bool false) H
    else
      bif x0 == 6 then
        bif x1 == 1 then R (Value.bool true) H
        else
          bif x1 == 2 then R (Value.bool true) H
          else
            bif x1 == 4 then R (Value.bool true) H
            else
              bif x1 == 3 then bif x0 == 5 then R (Value.bool true) H else CA en F.crossbarref07_Nested [Value.int IntKind.i64 x0] H fun v7 H8 => ∃ b9, v7 = Value.bool b9 ∧ R (Value.bool b9) H8
              else
                bif x1 == 5 then R (Value.bool (x0 == 5)) H
                else bif x1 == 6 then R (Value.bool true) H else bif x1 == 8 then R (Value.bool true) H else bif x1 == 7 then R (Value.bool true) H else R (Value.bool false) H
      else
        bif x1 == 1 then R (Value.bool true) H
        else
          bif x1 == 2 then R (Value.bool true) H
          else
            bif x1 == 4 then R (Value.bool true) H
            else
              bif x1 == 3 then bif x0 == 5 then R (Value.bool true) H else CA en F.crossbarref07_Nested [Value.int IntKind.i64 x0] H fun v10 H11 => ∃ b12, v10 = Value.bool b12 ∧ R (Value.bool b12) H11
              else
                bif x1 == 5 then R (Value.bool (x0 == 5)) H
                else
                  bif x1 == 6 then bif x0 == 7 then R (Value.bool true) H else R (Value.bool (x0 == 8)) H
                  else bif x1 == 8 then bif x0 == 7 then R (Value.bool true) H else R (Value.bool (x0 == 8)) H else bif x1 == 7 then R (Value.bool (x0 == 7)) H else R (Value.bool false) H
  else
    bif x0 == 4 then
      bif x0 == 6 then
        bif x1 == 1 then bif x0 == 3 then R (Value.bool true) H else R (Value.bool true) H
        else
          bif x1 == 2 then bif x0 == 3 then R (Value.bool true) H else R (Value.bool true) H
          else
            bif x1 == 4 then bif x0 == 3 then R (Value.bool true) H else R (Value.bool true) H
            else
              bif x1 == 3 then R (Value.bool true) H
              else
                bif x1 == 5 then R (Value.bool true) H
                else bif x1 == 6 then R (Value.bool true) H else bif x1 == 8 then R (Value.bool true) H else bif x1 == 7 then R (Value.bool true) H else R (Value.bool false) H
      else
        bif x1 == 1 then bif x0 == 3 then R (Value.bool true) H else R (Value.bool true) H
        else
          bif x1 == 2 then bif x0 == 3 then R (Value.bool true) H else R (Value.bool true) H
          else
            bif x1 == 4 then bif x0 == 3 then R (Value.bool true) H else R (Value.bool true) H
            else
              bif x1 == 3 then R (Value.bool true) H
              else
                bif x1 == 5 then R (Value.bool true) H
                else
                  bif x1 == 6 then bif x0 == 7 then R (Value.bool true) H else R (Value.bool (x0 == 8)) H
                  else bif x1 == 8 then bif x0 == 7 then R (Value.bool true) H else R (Value.bool (x0 == 8)) H else bif x1 == 7 then R (Value.bool (x0 == 7)) H else R (Value.bool false) H
    else
      bif x0 == 6 then
        bif x1 == 1 then
          bif x0 == 3 then R (Value.bool true) H
          else bif x0 == 5 then R (Value.bool true) H else CA en F.crossbarref07_Nested [Value.int IntKind.i64 x0] H fun v13 H14 => ∃ b15, v13 = Value.bool b15 ∧ R (Value.bool b15) H14
        else
          bif x1 == 2 then
            bif x0 == 3 then R (Value.bool true) H
            else bif x0 == 5 then R (Value.bool true) H else CA en F.crossbarref07_Nested [Value.int IntKind.i64 x0] H fun v16 H17 => ∃ b18, v16 = Value.bool b18 ∧ R (Value.bool b18) H17
          else
            bif x1 == 4 then
              bif x0 == 3 then R (Value.bool true) H
              else bif x0 == 5 then R (Value.bool true) H else CA en F.crossbarref07_Nested [Value.int IntKind.i64 x0] H fun v19 H20 => ∃ b21, v19 = Value.bool b21 ∧ R (Value.bool b21) H20
            else
              bif x1 == 3 then bif x0 == 5 then R (Value.bool true) H else CA en F.crossbarref07_Nested [Value.int IntKind.i64 x0] H fun v22 H23 => ∃ b24, v22 = Value.bool b24 ∧ R (Value.bool b24) H23
              else
                bif x1 == 5 then R (Value.bool (x0 == 5)) H
                else bif x1 == 6 then R (Value.bool true) H else bif x1 == 8 then R (Value.bool true) H else bif x1 == 7 then R (Value.bool true) H else R (Value.bool false) H
      else
        bif x1 == 1 then
          bif x0 == 3 then R (Value.bool true) H
          else bif x0 == 5 then R (Value.bool true) H else CA en F.crossbarref07_Nested [Value.int IntKind.i64 x0] H fun v25 H26 => ∃ b27, v25 = Value.bool b27 ∧ R (Value.bool b27) H26
        else
          bif x1 == 2 then
            bif x0 == 3 then R (Value.bool true) H
            else bif x0 == 5 then R (Value.bool true) H else CA en F.crossbarref07_Nested [Value.int IntKind.i64 x0] H fun v28 H29 => ∃ b30, v28 = Value.bool b30 ∧ R (Value.bool b30) H29
          else
            bif x1 == 4 then
              bif x0 == 3 then R (Value.bool true) H
              else bif x0 == 5 then R (Value.bool true) H else CA en F.crossbarref07_Nested [Value.int IntKind.i64 x0] H fun v31 H32 => ∃ b33, v31 = Value.bool b33 ∧ R (Value.bool b33) H32
            else
              bif x1 == 3 then bif x0 == 5 then R (Value.bool true) H else CA en F.crossbarref07_Nested [Value.int IntKind.i64 x0] H fun v34 H35 => ∃ b36, v34 = Value.bool b36 ∧ R (Value.bool b36) H35
              else
                bif x1 == 5 then R (Value.bool (x0 == 5)) H
                else
                  bif x1 == 6 then bif x0 == 7 then R (Value.bool true) H else R (Value.bool (x0 == 8)) H
                  else bif x1 == 8 then bif x0 == 7 then R (Value.bool true) H else R (Value.bool (x0 == 8)) H else bif x1 == 7 then R (Value.bool (x0 == 7)) H else R (Value.bool false) H) →
    CA Go.Proofs.Ytlkmdcncpdadbaa.en F.crossbarref07_May [Value.int IntKind.i64 x0, Value.int IntKind.i64 x1] H R := by
  intro h
  refine wpFn_ok (Z := []) (fn := Go.Proofs.Try.f24) ?_ ?_ ?_
  · kernel_rfl
  · kernel_rfl
  · apply turnInto h
    kernel_rfl



/-! crossbarref07_Nested -/

theorem vc_crossbarref07_Nested (x0 : Int) (H : Heap) (R : Value → Heap → Prop) :
    (bif x0 == 9 then R (Value.bool true) H else R (Value.bool (x0 == 10)) H) →
    CA Go.Proofs.Ytlkmdcncpdadbaa.en F.crossbarref07_Nested [Value.int IntKind.i64 x0] H R := by
  intro h
  refine wpFn_ok (Z := []) (fn := Go.Proofs.Try.f43) ?_ ?_ ?_
  · kernel_rfl
  · kernel_rfl
  · apply turnInto h
    kernel_rfl



/-! crossbarlaw07_DeclTells -/

theorem vc_crossbarlaw07_DeclTells (x00 : Int) (x01 : Int) (x02 : Int) (x03 : Int) (x04 : Int) (x10 : Int) (x11 : Int) (x12 : Int) (x13 : Int) (x14 : Int) (x2 : Int) (x3 : Int) (x4 : Int) (H : Heap) (R : Value → Heap → Prop) :
    (nwH H (AS.Obj.cells true 0 [Value.int IntKind.i64 x00, Value.int IntKind.i64 x01, Value.int IntKind.i64 x02, Value.int IntKind.i64 x03, Value.int IntKind.i64 x04]) fun i1 H2 =>
  nwH H2 (AS.Obj.cells true 0 [Value.int IntKind.i64 x10, Value.int IntKind.i64 x11, Value.int IntKind.i64 x12, Value.int IntKind.i64 x13, Value.int IntKind.i64 x14]) fun i3 H4 =>
    CA en F.decl_Bloom [Value.int IntKind.u64 x2, Value.int IntKind.i64 x4] H4 fun v5 H6 =>
      ∃ n7 n8,
        v5 = Value.tuple #[Value.int IntKind.i64 n7, Value.int IntKind.u64 n8] ∧
          CA en F.crossbarref07_Bloom [Value.int IntKind.u64 x2, Value.int IntKind.i64 x4] H6 fun v9 H10 =>
            ∃ n11 n12,
              v9 = Value.tuple #[Value.int IntKind.i64 n11, Value.int IntKind.u64 n12] ∧
                ∃ n13 n14 n15 n16 n17,
                  (H10.bump 63).cellsAt i1 0 5 = some [Value.int IntKind.i64 n13, Value.int IntKind.i64 n14, Value.int IntKind.i64 n15, Value.int IntKind.i64 n16, Value.int IntKind.i64 n17] ∧
                    ∃ n18 n19 n20 n21 n22,
                      (H10.bump 63).cellsAt i3 0 5 = some [Value.int IntKind.i64 n18, Value.int IntKind.i64 n19, Value.int IntKind.i64 n20, Value.int IntKind.i64 n21, Value.int IntKind.i64 n22] ∧
                        CA en F.decl_Like
                          [Value.agg #[Value.int IntKind.i64 n13, Value.int IntKind.i64 n14, Value.int IntKind.i64 n15, Value.int IntKind.i64 n16, Value.int IntKind.i64 n17],
                            Value.agg #[Value.int IntKind.i64 n18, Value.int IntKind.i64 n19, Value.int IntKind.i64 n20, Value.int IntKind.i64 n21, Value.int IntKind.i64 n22]]
                          (H10.bump 63) fun v23 H24 =>
                          ∃ b25,
                            v23 = Value.bool b25 ∧
                              ∃ n26 n27 n28 n29 n30,
                                H24.cellsAt i1 0 5 = some [Value.int IntKind.i64 n26, Value.int IntKind.i64 n27, Value.int IntKind.i64 n28, Value.int IntKind.i64 n29, Value.int IntKind.i64 n30] ∧
                                  ∃ n31 n32 n33 n34 n35,
                                    H24.cellsAt i3 0 5 = some [Value.int IntKind.i64 n31, Value.int IntKind.i64 n32, Value.int IntKind.i64 n33, Value.int IntKind.i64 n34, Value.int IntKind.i64 n35] ∧
                                      CA en F.crossbarref07_Like
                                        [Value.agg #[Value.int IntKind.i64 n26, Value.int IntKind.i64 n27, Value.int IntKind.i64 n28, Value.int IntKind.i64 n29, Value.int IntKind.i64 n30],
                                          Value.agg #[Value.int IntKind.i64 n31, Value.int IntKind.i64 n32, Value.int IntKind.i64 n33, Value.int IntKind.i64 n34, Value.int IntKind.i64 n35]]
                                        H24 fun v36 H37 =>
                                        ∃ b38,
                                          v36 = Value.bool b38 ∧
                                            bif b25 == b38 then
                                              ∃ n39,
                                                H37.cell i1 0 = some (Value.int IntKind.i64 n39) ∧
                                                  CA en F.decl_May [Value.int IntKind.i64 n39, Value.int IntKind.i64 x4] H37 fun v40 H41 =>
                                                    ∃ b42,
                                                      v40 = Value.bool b42 ∧
                                                        ∃ n43,
                                                          H41.cell i1 0 = some (Value.int IntKind.i64 n43) ∧
                                                            CA en F.crossbarref07_May [Value.int IntKind.i64 n43, Value.int IntKind.i64 x4] H41 fun v44 H45 =>
                                                              ∃ b46,
                                                                v44 = Value.bool b46 ∧
                                                                  bif b42 == b46 then
                                                                    ∃ n47,
                                                                      H45.cell i3 0 = some (Value.int IntKind.i64 n47) ∧
                                                                        CA en F.decl_May [Value.int IntKind.i64 x4, Value.int IntKind.i64 n47] H45 fun v48 H49 =>
                                                                          ∃ b50,
                                                                            v48 = Value.bool b50 ∧
                                                                              ∃ n51,
                                                                                H49.cell i3 0 = some (Value.int IntKind.i64 n51) ∧
                                                                                  CA en F.crossbarref07_May [Value.int IntKind.i64 x4, Value.int IntKind.i64 n51] H49 fun v52 H53 =>
                                                                                    ∃ b54,
                                                                                      v52 = Value.bool b54 ∧
                                                                                        bif b50 == b54 then
                                                                                          CA en F.decl_Bucket [Value.int IntKind.u64 x2, Value.int IntKind.i64 x4] H53 fun v55 H56 =>
                                                                                            ∃ n57,
                                                                                              v55 = Value.int IntKind.i64 n57 ∧
                                                                                                CA en F.crossbarref07_Bucket [Value.int IntKind.u64 x2, Value.int IntKind.i64 x4] H56 fun v58 H59 =>
                                                                                                  ∃ n60,
                                                                                                    v58 = Value.int IntKind.i64 n60 ∧
                                                                                                      bif n57 == n60 then
                                                                                                        ∃ n61 n62 n63 n64 n65,
                                                                                                          H59.cellsAt i1 0 5 =
                                                                                                              some
                                                                                                                [Value.int IntKind.i64 n61, Value.int IntKind.i64 n62, Value.int IntKind.i64 n63,
                                                                                                                  Value.int IntKind.i64 n64, Value.int IntKind.i64 n65] ∧
                                                                                                            CA en F.decl_Ahead
                                                                                                              [Value.agg
                                                                                                                  #[Value.int IntKind.i64 n61, Value.int IntKind.i64 n62, Value.int IntKind.i64 n63,
                                                                                                                    Value.int IntKind.i64 n64, Value.int IntKind.i64 n65],
                                                                                                                Value.int IntKind.u64 x2, Value.int IntKind.u64 x3]
                                                                                                              H59 fun v66 H67 =>
                                                                                                              ∃ b68,
                                                                                                                v66 = Value.bool b68 ∧
                                                                                                                  ∃ n69 n70 n71 n72 n73,
                                                                                                                    H67.cellsAt i1 0 5 =
                                                                                                                        some
                                                                                                                          [Value.int IntKind.i64 n69, Value.int IntKind.i64 n70,
                                                                                                                            Value.int IntKind.i64 n71, Value.int IntKind.i64 n72,
                                                                                                                            Value.int IntKind.i64 n73] ∧
                                                                                                                      CA en F.crossbarref07_Ahead
                                                                                                                        [Value.agg
                                                                                                                            #[Value.int IntKind.i64 n69, Value.int IntKind.i64 n70,
                                                                                                                              Value.int IntKind.i64 n71, Value.int IntKind.i64 n72,
                                                                                                                              Value.int IntKind.i64 n73],
                                                                                                                          Value.int IntKind.u64 x2, Value.int IntKind.u64 x3]
                                                                                                                        H67 fun v74 H75 =>
                                                                                                                        ∃ b76,
                                                                                                                          v74 = Value.bool b76 ∧
                                                                                                                            bif b68 == b76 then
                                                                                                                              bif n7 == n11 then
                                                                                                                                bif n8 == n12 then
                                                                                                                                  CA en F.crossbarlaw07_works [] H75 fun v77 H78 =>
                                                                                                                                    ∃ b79,
                                                                                                                                      v77 = Value.bool b79 ∧
                                                                                                                                        R (Value.bool b79) H78 ∧
                                                                                                                                          ((∃ n85 n86 n87 n88 n89,
                                                                                                                                                H59.cellsAt i1 0 5 =
                                                                                                                                                    some
                                                                                                                                                      [Value.int IntKind.i64 n85,
                                                                                                                                                        Value.int IntKind.i64 n86,
                                                                                                                                                        Value.int IntKind.i64 n87,
                                                                                                                                                        Value.int IntKind.i64 n88,
                                                                                                                                                        Value.int IntKind.i64 n89] ∧
                                                                                                                                                  sameN 8
                                                                                                                                                      (Value.agg
                                                                                                                                                        #[Value.int IntKind.i64 n69,
                                                                                                                                                          Value.int IntKind.i64 n70,
                                                                                                                                                          Value.int IntKind.i64 n71,
                                                                                                                                                          Value.int IntKind.i64 n72,
                                                                                                                                                          Value.int IntKind.i64 n73])
                                                                                                                                                      (Value.agg
                                                                                                                                                        #[Value.int IntKind.i64 n85,
                                                                                                                                                          Value.int IntKind.i64 n86,
                                                                                                                                                          Value.int IntKind.i64 n87,
                                                                                                                                                          Value.int IntKind.i64 n88,
                                                                                                                                                          Value.int IntKind.i64 n89]) =
                                                                                                                                                    true) ∧
                                                                                                                                              (∃ n80 n81 n82 n83 n84,
                                                                                                                                                  H67.cellsAt i1 0 5 =
                                                                                                                                                      some
                                                                                                                                                        [Value.int IntKind.i64 n80,
                                                                                                                                                          Value.int IntKind.i64 n81,
                                                                                                                                                          Value.int IntKind.i64 n82,
                                                                                                                                                          Value.int IntKind.i64 n83,
                                                                                                                                                          Value.int IntKind.i64 n84] ∧
                                                                                                                                                    sameN 8
                                                                                                                                                        (Value.agg
                                                                                                                                                          #[Value.int IntKind.i64 n69,
                                                                                                                                                            Value.int IntKind.i64 n70,
                                                                                                                                                            Value.int IntKind.i64 n71,
                                                                                                                                                            Value.int IntKind.i64 n72,
                                                                                                                                                            Value.int IntKind.i64 n73])
                                                                                                                                                        (Value.agg
                                                                                                                                                          #[Value.int IntKind.i64 n80,
                                                                                                                                                            Value.int IntKind.i64 n81,
                                                                                                                                                            Value.int IntKind.i64 n82,
                                                                                                                                                            Value.int IntKind.i64 n83,
                                                                                                                                                            Value.int IntKind.i64 n84]) =
                                                                                                                                                      true) ∧
                                                                                                                                                True) ∧
                                                                                                                                            ((∃ n91,
                                                                                                                                                  H45.cell i3 0 = some (Value.int IntKind.i64 n91) ∧
                                                                                                                                                    n51 = n91) ∧
                                                                                                                                                (∃ n90,
                                                                                                                                                    H49.cell i3 0 = some (Value.int IntKind.i64 n90) ∧
                                                                                                                                                      n51 = n90) ∧
                                                                                                                                                  True) ∧
                                                                                                                                              ((∃ n93,
                                                                                                                                                    H37.cell i1 0 = some (Value.int IntKind.i64 n93) ∧
                                                                                                                                                      n43 = n93) ∧
                                                                                                                                                  (∃ n92,
                                                                                                                                                      H41.cell i1 0 = some (Value.int IntKind.i64 n92) ∧
                                                                                                                                                        n43 = n92) ∧
                                                                                                                                                    True) ∧
                                                                                                                                                ((∃ n99 n100 n101 n102 n103,
                                                                                                                                                      (H10.bump 63).cellsAt i3 0 5 =
                                                                                                                                                          some
                                                                                                                                                            [Value.int IntKind.i64 n99,
                                                                                                                                                              Value.int IntKind.i64 n100,
                                                                                                                                                              Value.int IntKind.i64 n101,
                                                                                                                                                              Value.int IntKind.i64 n102,
                                                                                                                                                              Value.int IntKind.i64 n103] ∧
                                                                                                                                                        sameN 8
                                                                                                                                                            (Value.agg
                                                                                                                                                              #[Value.int IntKind.i64 n31,
                                                                                                                                                                Value.int IntKind.i64 n32,
                                                                                                                                                                Value.int IntKind.i64 n33,
                                                                                                                                                                Value.int IntKind.i64 n34,
                                                                                                                                                                Value.int IntKind.i64 n35])
                                                                                                                                                            (Value.agg
                                                                                                                                                              #[Value.int IntKind.i64 n99,
                                                                                                                                                                Value.int IntKind.i64 n100,
                                                                                                                                                                Value.int IntKind.i64 n101,
                                                                                                                                                                Value.int IntKind.i64 n102,
                                                                                                                                                                Value.int IntKind.i64 n103]) =
                                                                                                                                                          true) ∧
                                                                                                                                                    (∃ n94 n95 n96 n97 n98,
                                                                                                                                                        H24.cellsAt i3 0 5 =
                                                                                                                                                            some
                                                                                                                                                              [Value.int IntKind.i64 n94,
                                                                                                                                                                Value.int IntKind.i64 n95,
                                                                                                                                                                Value.int IntKind.i64 n96,
                                                                                                                                                                Value.int IntKind.i64 n97,
                                                                                                                                                                Value.int IntKind.i64 n98] ∧
                                                                                                                                                          sameN 8
                                                                                                                                                              (Value.agg
                                                                                                                                                                #[Value.int IntKind.i64 n31,
                                                                                                                                                                  Value.int IntKind.i64 n32,
                                                                                                                                                                  Value.int IntKind.i64 n33,
                                                                                                                                                                  Value.int IntKind.i64 n34,
                                                                                                                                                                  Value.int IntKind.i64 n35])
                                                                                                                                                              (Value.agg
                                                                                                                                                                #[Value.int IntKind.i64 n94,
                                                                                                                                                                  Value.int IntKind.i64 n95,
                                                                                                                                                                  Value.int IntKind.i64 n96,
                                                                                                                                                                  Value.int IntKind.i64 n97,
                                                                                                                                                                  Value.int IntKind.i64 n98]) =
                                                                                                                                                            true) ∧
                                                                                                                                                      True) ∧
                                                                                                                                                  ((∃ n109 n110 n111 n112 n113,
                                                                                                                                                        (H10.bump 63).cellsAt i1 0 5 =
                                                                                                                                                            some
                                                                                                                                                              [Value.int IntKind.i64 n109,
                                                                                                                                                                Value.int IntKind.i64 n110,
                                                                                                                                                                Value.int IntKind.i64 n111,
                                                                                                                                                                Value.int IntKind.i64 n112,
                                                                                                                                                                Value.int IntKind.i64 n113] ∧
                                                                                                                                                          sameN 8
                                                                                                                                                              (Value.agg
                                                                                                                                                                #[Value.int IntKind.i64 n26,
                                                                                                                                                                  Value.int IntKind.i64 n27,
                                                                                                                                                                  Value.int IntKind.i64 n28,
                                                                                                                                                                  Value.int IntKind.i64 n29,
                                                                                                                                                                  Value.int IntKind.i64 n30])
                                                                                                                                                              (Value.agg
                                                                                                                                                                #[Value.int IntKind.i64 n109,
                                                                                                                                                                  Value.int IntKind.i64 n110,
                                                                                                                                                                  Value.int IntKind.i64 n111,
                                                                                                                                                                  Value.int IntKind.i64 n112,
                                                                                                                                                                  Value.int IntKind.i64 n113]) =
                                                                                                                                                            true) ∧
                                                                                                                                                      (∃ n104 n105 n106 n107 n108,
                                                                                                                                                          H24.cellsAt i1 0 5 =
                                                                                                                                                              some
                                                                                                                                                                [Value.int IntKind.i64 n104,
                                                                                                                                                                  Value.int IntKind.i64 n105,
                                                                                                                                                                  Value.int IntKind.i64 n106,
                                                                                                                                                                  Value.int IntKind.i64 n107,
                                                                                                                                                                  Value.int IntKind.i64 n108] ∧
                                                                                                                                                            sameN 8
                                                                                                                                                                (Value.agg
                                                                                                                                                                  #[Value.int IntKind.i64 n26,
                                                                                                                                                                    Value.int IntKind.i64 n27,
                                                                                                                                                                    Value.int IntKind.i64 n28,
                                                                                                                                                                    Value.int IntKind.i64 n29,
                                                                                                                                                                    Value.int IntKind.i64 n30])
                                                                                                                                                                (Value.agg
                                                                                                                                                                  #[Value.int IntKind.i64 n104,
                                                                                                                                                                    Value.int IntKind.i64 n105,
                                                                                                                                                                    Value.int IntKind.i64 n106,
                                                                                                                                                                    Value.int IntKind.i64 n107,
                                                                                                                                                                    Value.int IntKind.i64 n108]) =
                                                                                                                                                              true) ∧
                                                                                                                                                        True) ∧
                                                                                                                                                    True
                                                                                                                                else
                                                                                                                                  R (Value.bool false) H75 ∧
                                                                                                                                    ((∃ n119 n120 n121 n122 n123,
                                                                                                                                          H59.cellsAt i1 0 5 =
                                                                                                                                              some
                                                                                                                                                [Value.int IntKind.i64 n119, Value.int IntKind.i64 n120,
                                                                                                                                                  Value.int IntKind.i64 n121,
                                                                                                                                                  Value.int IntKind.i64 n122,
                                                                                                                                                  Value.int IntKind.i64 n123] ∧
                                                                                                                                            sameN 8
                                                                                                                                                (Value.agg
                                                                                                                                                  #[Value.int IntKind.i64 n69,
                                                                                                                                                    Value.int IntKind.i64 n70,
                                                                                                                                                    Value.int IntKind.i64 n71,
                                                                                                                                                    Value.int IntKind.i64 n72,
                                                                                                                                                    Value.int IntKind.i64 n73])
                                                                                                                                                (Value.agg
                                                                                                                                                  #[Value.int IntKind.i64 n119,
                                                                                                                                                    Value.int IntKind.i64 n120,
                                                                                                                                                    Value.int IntKind.i64 n121,
                                                                                                                                                    Value.int IntKind.i64 n122,
                                                                                                                                                    Value.int IntKind.i64 n123]) =
                                                                                                                                              true) ∧
                                                                                                                                        (∃ n114 n115 n116 n117 n118,
                                                                                                                                            H67.cellsAt i1 0 5 =
                                                                                                                                                some
                                                                                                                                                  [Value.int IntKind.i64 n114,
                                                                                                                                                    Value.int IntKind.i64 n115,
                                                                                                                                                    Value.int IntKind.i64 n116,
                                                                                                                                                    Value.int IntKind.i64 n117,
                                                                                                                                                    Value.int IntKind.i64 n118] ∧
                                                                                                                                              sameN 8
                                                                                                                                                  (Value.agg
                                                                                                                                                    #[Value.int IntKind.i64 n69,
                                                                                                                                                      Value.int IntKind.i64 n70,
                                                                                                                                                      Value.int IntKind.i64 n71,
                                                                                                                                                      Value.int IntKind.i64 n72,
                                                                                                                                                      Value.int IntKind.i64 n73])
                                                                                                                                                  (Value.agg
                                                                                                                                                    #[Value.int IntKind.i64 n114,
                                                                                                                                                      Value.int IntKind.i64 n115,
                                                                                                                                                      Value.int IntKind.i64 n116,
                                                                                                                                                      Value.int IntKind.i64 n117,
                                                                                                                                                      Value.int IntKind.i64 n118]) =
                                                                                                                                                true) ∧
                                                                                                                                          True) ∧
                                                                                                                                      ((∃ n125,
                                                                                                                                            H45.cell i3 0 = some (Value.int IntKind.i64 n125) ∧
                                                                                                                                              n51 = n125) ∧
                                                                                                                                          (∃ n124,
                                                                                                                                              H49.cell i3 0 = some (Value.int IntKind.i64 n124) ∧
                                                                                                                                                n51 = n124) ∧
                                                                                                                                            True) ∧
                                                                                                                                        ((∃ n127,
                                                                                                                                              H37.cell i1 0 = some (Value.int IntKind.i64 n127) ∧
                                                                                                                                                n43 = n127) ∧
                                                                                                                                            (∃ n126,
                                                                                                                                                H41.cell i1 0 = some (Value.int IntKind.i64 n126) ∧
                                                                                                                                                  n43 = n126) ∧
                                                                                                                                              True) ∧
                                                                                                                                          ((∃ n133 n134 n135 n136 n137,
                                                                                                                                                (H10.bump 63).cellsAt i3 0 5 =
                                                                                                                                                    some
                                                                                                                                                      [Value.int IntKind.i64 n133,
                                                                                                                                                        Value.int IntKind.i64 n134,
                                                                                                                                                        Value.int IntKind.i64 n135,
                                                                                                                                                        Value.int IntKind.i64 n136,
                                                                                                                                                        Value.int IntKind.i64 n137] ∧
                                                                                                                                                  sameN 8
                                                                                                                                                      (Value.agg
                                                                                                                                                        #[Value.int IntKind.i64 n31,
                                                                                                                                                          Value.int IntKind.i64 n32,
                                                                                                                                                          Value.int IntKind.i64 n33,
                                                                                                                                                          Value.int IntKind.i64 n34,
                                                                                                                                                          Value.int IntKind.i64 n35])
                                                                                                                                                      (Value.agg
                                                                                                                                                        #[Value.int IntKind.i64 n133,
                                                                                                                                                          Value.int IntKind.i64 n134,
                                                                                                                                                          Value.int IntKind.i64 n135,
                                                                                                                                                          Value.int IntKind.i64 n136,
                                                                                                                                                          Value.int IntKind.i64 n137]) =
                                                                                                                                                    true) ∧
                                                                                                                                              (∃ n128 n129 n130 n131 n132,
                                                                                                                                                  H24.cellsAt i3 0 5 =
                                                                                                                                                      some
                                                                                                                                                        [Value.int IntKind.i64 n128,
                                                                                                                                                          Value.int IntKind.i64 n129,
                                                                                                                                                          Value.int IntKind.i64 n130,
                                                                                                                                                          Value.int IntKind.i64 n131,
                                                                                                                                                          Value.int IntKind.i64 n132] ∧
                                                                                                                                                    sameN 8
                                                                                                                                                        (Value.agg
                                                                                                                                                          #[Value.int IntKind.i64 n31,
                                                                                                                                                            Value.int IntKind.i64 n32,
                                                                                                                                                            Value.int IntKind.i64 n33,
                                                                                                                                                            Value.int IntKind.i64 n34,
                                                                                                                                                            Value.int IntKind.i64 n35])
                                                                                                                                                        (Value.agg
                                                                                                                                                          #[Value.int IntKind.i64 n128,
                                                                                                                                                            Value.int IntKind.i64 n129,
                                                                                                                                                            Value.int IntKind.i64 n130,
                                                                                                                                                            Value.int IntKind.i64 n131,
                                                                                                                                                            Value.int IntKind.i64 n132]) =
                                                                                                                                                      true) ∧
                                                                                                                                                True) ∧
                                                                                                                                            ((∃ n143 n144 n145 n146 n147,
                                                                                                                                                  (H10.bump 63).cellsAt i1 0 5 =
                                                                                                                                                      some
                                                                                                                                                        [Value.int IntKind.i64 n143,
                                                                                                                                                          Value.int IntKind.i64 n144,
                                                                                                                                                          Value.int IntKind.i64 n145,
                                                                                                                                                          Value.int IntKind.i64 n146,
                                                                                                                                                          Value.int IntKind.i64 n147] ∧
                                                                                                                                                    sameN 8
                                                                                                                                                        (Value.agg
                                                                                                                                                          #[Value.int IntKind.i64 n26,
                                                                                                                                                            Value.int IntKind.i64 n27,
                                                                                                                                                            Value.int IntKind.i64 n28,
                                                                                                                                                            Value.int IntKind.i64 n29,
                                                                                                                                                            Value.int IntKind.i64 n30])
                                                                                                                                                        (Value.agg
                                                                                                                                                          #[Value.int IntKind.i64 n143,
                                                                                                                                                            Value.int IntKind.i64 n144,
                                                                                                                                                            Value.int IntKind.i64 n145,
                                                                                                                                                            Value.int IntKind.i64 n146,
                                                                                                                                                            Value.int IntKind.i64 n147]) =
                                                                                                                                                      true) ∧
                                                                                                                                                (∃ n138 n139 n140 n141 n142,
                                                                                                                                                    H24.cellsAt i1 0 5 =
                                                                                                                                                        some
                                                                                                                                                          [Value.int IntKind.i64 n138,
                                                                                                                                                            Value.int IntKind.i64 n139,
                                                                                                                                                            Value.int IntKind.i64 n140,
                                                                                                                                                            Value.int IntKind.i64 n141,
                                                                                                                                                            Value.int IntKind.i64 n142] ∧
                                                                                                                                                      sameN 8
                                                                                                                                                          (Value.agg
                                                                                                                                                            #[Value.int IntKind.i64 n26,
                                                                                                                                                              Value.int IntKind.i64 n27,
                                                                                                                                                              Value.int IntKind.i64 n28,
                                                                                                                                                              Value.int IntKind.i64 n29,
                                                                                                                                                              Value.int IntKind.i64 n30])
                                                                                                                                                          (Value.agg
                                                                                                                                                            #[Value.int IntKind.i64 n138,
                                                                                                                                                              Value.int IntKind.i64 n139,
                                                                                                                                                              Value.int IntKind.i64 n140,
                                                                                                                                                              Value.int IntKind.i64 n141,
                                                                                                                                                              Value.int IntKind.i64 n142]) =
                                                                                                                                                        true) ∧
                                                                                                                                                  True) ∧
                                                                                                                                              True
                                                                                                                              else
                                                                                                                                R (Value.bool false) H75 ∧
                                                                                                                                  ((∃ n153 n154 n155 n156 n157,
                                                                                                                                        H59.cellsAt i1 0 5 =
                                                                                                                                            some
                                                                                                                                              [Value.int IntKind.i64 n153, Value.int IntKind.i64 n154,
                                                                                                                                                Value.int IntKind.i64 n155, Value.int IntKind.i64 n156,
                                                                                                                                                Value.int IntKind.i64 n157] ∧
                                                                                                                                          sameN 8
                                                                                                                                              (Value.agg
                                                                                                                                                #[Value.int IntKind.i64 n69, Value.int IntKind.i64 n70,
                                                                                                                                                  Value.int IntKind.i64 n71, Value.int IntKind.i64 n72,
                                                                                                                                                  Value.int IntKind.i64 n73])
                                                                                                                                              (Value.agg
                                                                                                                                                #[Value.int IntKind.i64 n153,
                                                                                                                                                  Value.int IntKind.i64 n154,
                                                                                                                                                  Value.int IntKind.i64 n155,
                                                                                                                                                  Value.int IntKind.i64 n156,
                                                                                                                                                  Value.int IntKind.i64 n157]) =
                                                                                                                                            true) ∧
                                                                                                                                      (∃ n148 n149 n150 n151 n152,
                                                                                                                                          H67.cellsAt i1 0 5 =
                                                                                                                                              some
                                                                                                                                                [Value.int IntKind.i64 n148, Value.int IntKind.i64 n149,
                                                                                                                                                  Value.int IntKind.i64 n150,
                                                                                                                                                  Value.int IntKind.i64 n151,
                                                                                                                                                  Value.int IntKind.i64 n152] ∧
                                                                                                                                            sameN 8
                                                                                                                                                (Value.agg
                                                                                                                                                  #[Value.int IntKind.i64 n69,
                                                                                                                                                    Value.int IntKind.i64 n70,
                                                                                                                                                    Value.int IntKind.i64 n71,
                                                                                                                                                    Value.int IntKind.i64 n72,
                                                                                                                                                    Value.int IntKind.i64 n73])
                                                                                                                                                (Value.agg
                                                                                                                                                  #[Value.int IntKind.i64 n148,
                                                                                                                                                    Value.int IntKind.i64 n149,
                                                                                                                                                    Value.int IntKind.i64 n150,
                                                                                                                                                    Value.int IntKind.i64 n151,
                                                                                                                                                    Value.int IntKind.i64 n152]) =
                                                                                                                                              true) ∧
                                                                                                                                        True) ∧
                                                                                                                                    ((∃ n159,
                                                                                                                                          H45.cell i3 0 = some (Value.int IntKind.i64 n159) ∧
                                                                                                                                            n51 = n159) ∧
                                                                                                                                        (∃ n158,
                                                                                                                                            H49.cell i3 0 = some (Value.int IntKind.i64 n158) ∧
                                                                                                                                              n51 = n158) ∧
                                                                                                                                          True) ∧
                                                                                                                                      ((∃ n161,
                                                                                                                                            H37.cell i1 0 = some (Value.int IntKind.i64 n161) ∧
                                                                                                                                              n43 = n161) ∧
                                                                                                                                          (∃ n160,
                                                                                                                                              H41.cell i1 0 = some (Value.int IntKind.i64 n160) ∧
                                                                                                                                                n43 = n160) ∧
                                                                                                                                            True) ∧
                                                                                                                                        ((∃ n167 n168 n169 n170 n171,
                                                                                                                                              (H10.bump 63).cellsAt i3 0 5 =
                                                                                                                                                  some
                                                                                                                                                    [Value.int IntKind.i64 n167,
                                                                                                                                                      Value.int IntKind.i64 n168,
                                                                                                                                                      Value.int IntKind.i64 n169,
                                                                                                                                                      Value.int IntKind.i64 n170,
                                                                                                                                                      Value.int IntKind.i64 n171] ∧
                                                                                                                                                sameN 8
                                                                                                                                                    (Value.agg
                                                                                                                                                      #[Value.int IntKind.i64 n31,
                                                                                                                                                        Value.int IntKind.i64 n32,
                                                                                                                                                        Value.int IntKind.i64 n33,
                                                                                                                                                        Value.int IntKind.i64 n34,
                                                                                                                                                        Value.int IntKind.i64 n35])
                                                                                                                                                    (Value.agg
                                                                                                                                                      #[Value.int IntKind.i64 n167,
                                                                                                                                                        Value.int IntKind.i64 n168,
                                                                                                                                                        Value.int IntKind.i64 n169,
                                                                                                                                                        Value.int IntKind.i64 n170,
                                                                                                                                                        Value.int IntKind.i64 n171]) =
                                                                                                                                                  true) ∧
                                                                                                                                            (∃ n162 n163 n164 n165 n166,
                                                                                                                                                H24.cellsAt i3 0 5 =
                                                                                                                                                    some
                                                                                                                                                      [Value.int IntKind.i64 n162,
                                                                                                                                                        Value.int IntKind.i64 n163,
                                                                                                                                                        Value.int IntKind.i64 n164,
                                                                                                                                                        Value.int IntKind.i64 n165,
                                                                                                                                                        Value.int IntKind.i64 n166] ∧
                                                                                                                                                  sameN 8
                                                                                                                                                      (Value.agg
                                                                                                                                                        #[Value.int IntKind.i64 n31,
                                                                                                                                                          Value.int IntKind.i64 n32,
                                                                                                                                                          Value.int IntKind.i64 n33,
                                                                                                                                                          Value.int IntKind.i64 n34,
                                                                                                                                                          Value.int IntKind.i64 n35])
                                                                                                                                                      (Value.agg
                                                                                                                                                        #[Value.int IntKind.i64 n162,
                                                                                                                                                          Value.int IntKind.i64 n163,
                                                                                                                                                          Value.int IntKind.i64 n164,
                                                                                                                                                          Value.int IntKind.i64 n165,
                                                                                                                                                          Value.int IntKind.i64 n166]) =
                                                                                                                                                    true) ∧
                                                                                                                                              True) ∧
                                                                                                                                          ((∃ n177 n178 n179 n180 n181,
                                                                                                                                                (H10.bump 63).cellsAt i1 0 5 =
                                                                                                                                                    some
                                                                                                                                                      [Value.int IntKind.i64 n177,
                                                                                                                                                        Value.int IntKind.i64 n178,
                                                                                                                                                        Value.int IntKind.i64 n179,
                                                                                                                                                        Value.int IntKind.i64 n180,
                                                                                                                                                        Value.int IntKind.i64 n181] ∧
                                                                                                                                                  sameN 8
                                                                                                                                                      (Value.agg
                                                                                                                                                        #[Value.int IntKind.i64 n26,
                                                                                                                                                          Value.int IntKind.i64 n27,
                                                                                                                                                          Value.int IntKind.i64 n28,
                                                                                                                                                          Value.int IntKind.i64 n29,
                                                                                                                                                          Value.int IntKind.i64 n30])
                                                                                                                                                      (Value.agg
                                                                                                                                                        #[Value.int IntKind.i64 n177,
                                                                                                                                                          Value.int IntKind.i64 n178,
                                                                                                                                                          Value.int IntKind.i64 n179,
                                                                                                                                                          Value.int IntKind.i64 n180,
                                                                                                                                                          Value.int IntKind.i64 n181]) =
                                                                                                                                                    true) ∧
                                                                                                                                              (∃ n172 n173 n174 n175 n176,
                                                                                                                                                  H24.cellsAt i1 0 5 =
                                                                                                                                                      some
                                                                                                                                                        [Value.int IntKind.i64 n172,
                                                                                                                                                          Value.int IntKind.i64 n173,
                                                                                                                                                          Value.int IntKind.i64 n174,
                                                                                                                                                          Value.int IntKind.i64 n175,
                                                                                                                                                          Value.int IntKind.i64 n176] ∧
                                                                                                                                                    sameN 8
                                                                                                                                                        (Value.agg
                                                                                                                                                          #[Value.int IntKind.i64 n26,
                                                                                                                                                            Value.int IntKind.i64 n27,
                                                                                                                                                            Value.int IntKind.i64 n28,
                                                                                                                                                            Value.int IntKind.i64 n29,
                                                                                                                                                            Value.int IntKind.i64 n30])
                                                                                                                                                        (Value.agg
                                                                                                                                                          #[Value.int IntKind.i64 n172,
                                                                                                                                                            Value.int IntKind.i64 n173,
                                                                                                                                                            Value.int IntKind.i64 n174,
                                                                                                                                                            Value.int IntKind.i64 n175,
                                                                                                                                                            Value.int IntKind.i64 n176]) =
                                                                                                                                                      true) ∧
                                                                                                                                                True) ∧
                                                                                                                                            True
                                                                                                                            else
                                                                                                                              R (Value.bool false) H75 ∧
                                                                                                                                ((∃ n187 n188 n189 n190 n191,
                                                                                                                                      H59.cellsAt i1 0 5 =
                                                                                                                                          some
                                                                                                                                            [Value.int IntKind.i64 n187, Value.int IntKind.i64 n188,
                                                                                                                                              Value.int IntKind.i64 n189, Value.int IntKind.i64 n190,
                                                                                                                                              Value.int IntKind.i64 n191] ∧
                                                                                                                                        sameN 8
                                                                                                                                            (Value.agg
                                                                                                                                              #[Value.int IntKind.i64 n69, Value.int IntKind.i64 n70,
                                                                                                                                                Value.int IntKind.i64 n71, Value.int IntKind.i64 n72,
                                                                                                                                                Value.int IntKind.i64 n73])
                                                                                                                                            (Value.agg
                                                                                                                                              #[Value.int IntKind.i64 n187, Value.int IntKind.i64 n188,
                                                                                                                                                Value.int IntKind.i64 n189, Value.int IntKind.i64 n190,
                                                                                                                                                Value.int IntKind.i64 n191]) =
                                                                                                                                          true) ∧
                                                                                                                                    (∃ n182 n183 n184 n185 n186,
                                                                                                                                        H67.cellsAt i1 0 5 =
                                                                                                                                            some
                                                                                                                                              [Value.int IntKind.i64 n182, Value.int IntKind.i64 n183,
                                                                                                                                                Value.int IntKind.i64 n184, Value.int IntKind.i64 n185,
                                                                                                                                                Value.int IntKind.i64 n186] ∧
                                                                                                                                          sameN 8
                                                                                                                                              (Value.agg
                                                                                                                                                #[Value.int IntKind.i64 n69, Value.int IntKind.i64 n70,
                                                                                                                                                  Value.int IntKind.i64 n71, Value.int IntKind.i64 n72,
                                                                                                                                                  Value.int IntKind.i64 n73])
                                                                                                                                              (Value.agg
                                                                                                                                                #[Value.int IntKind.i64 n182,
                                                                                                                                                  Value.int IntKind.i64 n183,
                                                                                                                                                  Value.int IntKind.i64 n184,
                                                                                                                                                  Value.int IntKind.i64 n185,
                                                                                                                                                  Value.int IntKind.i64 n186]) =
                                                                                                                                            true) ∧
                                                                                                                                      True) ∧
                                                                                                                                  ((∃ n193,
                                                                                                                                        H45.cell i3 0 = some (Value.int IntKind.i64 n193) ∧
                                                                                                                                          n51 = n193) ∧
                                                                                                                                      (∃ n192,
                                                                                                                                          H49.cell i3 0 = some (Value.int IntKind.i64 n192) ∧
                                                                                                                                            n51 = n192) ∧
                                                                                                                                        True) ∧
                                                                                                                                    ((∃ n195,
                                                                                                                                          H37.cell i1 0 = some (Value.int IntKind.i64 n195) ∧
                                                                                                                                            n43 = n195) ∧
                                                                                                                                        (∃ n194,
                                                                                                                                            H41.cell i1 0 = some (Value.int IntKind.i64 n194) ∧
                                                                                                                                              n43 = n194) ∧
                                                                                                                                          True) ∧
                                                                                                                                      ((∃ n201 n202 n203 n204 n205,
                                                                                                                                            (H10.bump 63).cellsAt i3 0 5 =
                                                                                                                                                some
                                                                                                                                                  [Value.int IntKind.i64 n201,
                                                                                                                                                    Value.int IntKind.i64 n202,
                                                                                                                                                    Value.int IntKind.i64 n203,
                                                                                                                                                    Value.int IntKind.i64 n204,
                                                                                                                                                    Value.int IntKind.i64 n205] ∧
                                                                                                                                              sameN 8
                                                                                                                                                  (Value.agg
                                                                                                                                                    #[Value.int IntKind.i64 n31,
                                                                                                                                                      Value.int IntKind.i64 n32,
                                                                                                                                                      Value.int IntKind.i64 n33,
                                                                                                                                                      Value.int IntKind.i64 n34,
                                                                                                                                                      Value.int IntKind.i64 n35])
                                                                                                                                                  (Value.agg
                                                                                                                                                    #[Value.int IntKind.i64 n201,
                                                                                                                                                      Value.int IntKind.i64 n202,
                                                                                                                                                      Value.int IntKind.i64 n203,
                                                                                                                                                      Value.int IntKind.i64 n204,
                                                                                                                                                      Value.int IntKind.i64 n205]) =
                                                                                                                                                true) ∧
                                                                                                                                          (∃ n196 n197 n198 n199 n200,
                                                                                                                                              H24.cellsAt i3 0 5 =
                                                                                                                                                  some
                                                                                                                                                    [Value.int IntKind.i64 n196,
                                                                                                                                                      Value.int IntKind.i64 n197,
                                                                                                                                                      Value.int IntKind.i64 n198,
                                                                                                                                                      Value.int IntKind.i64 n199,
                                                                                                                                                      Value.int IntKind.i64 n200] ∧
                                                                                                                                                sameN 8
                                                                                                                                                    (Value.agg
                                                                                                                                                      #[Value.int IntKind.i64 n31,
                                                                                                                                                        Value.int IntKind.i64 n32,
                                                                                                                                                        Value.int IntKind.i64 n33,
                                                                                                                                                        Value.int IntKind.i64 n34,
                                                                                                                                                        Value.int IntKind.i64 n35])
                                                                                                                                                    (Value.agg
                                                                                                                                                      #[Value.int IntKind.i64 n196,
                                                                                                                                                        Value.int IntKind.i64 n197,
                                                                                                                                                        Value.int IntKind.i64 n198,
                                                                                                                                                        Value.int IntKind.i64 n199,
                                                                                                                                                        Value.int IntKind.i64 n200]) =
                                                                                                                                                  true) ∧
                                                                                                                                            True) ∧
                                                                                                                                        ((∃ n211 n212 n213 n214 n215,
                                                                                                                                              (H10.bump 63).cellsAt i1 0 5 =
                                                                                                                                                  some
                                                                                                                                                    [Value.int IntKind.i64 n211,
                                                                                                                                                      Value.int IntKind.i64 n212,
                                                                                                                                                      Value.int IntKind.i64 n213,
                                                                                                                                                      Value.int IntKind.i64 n214,
                                                                                                                                                      Value.int IntKind.i64 n215] ∧
                                                                                                                                                sameN 8
                                                                                                                                                    (Value.agg
                                                                                                                                                      #[Value.int IntKind.i64 n26,
                                                                                                                                                        Value.int IntKind.i64 n27,
                                                                                                                                                        Value.int IntKind.i64 n28,
                                                                                                                                                        Value.int IntKind.i64 n29,
                                                                                                                                                        Value.int IntKind.i64 n30])
                                                                                                                                                    (Value.agg
                                                                                                                                                      #[Value.int IntKind.i64 n211,
                                                                                                                                                        Value.int IntKind.i64 n212,
                                                                                                                                                        Value.int IntKind.i64 n213,
                                                                                                                                                        Value.int IntKind.i64 n214,
                                                                                                                                                        Value.int IntKind.i64 n215]) =
                                                                                                                                                  true) ∧
                                                                                                                                            (∃ n206 n207 n208 n209 n210,
                                                                                                                                                H24.cellsAt i1 0 5 =
                                                                                                                                                    some
                                                                                                                                                      [Value.int IntKind.i64 n206,
                                                                                                                                                        Value.int IntKind.i64 n207,
                                                                                                                                                        Value.int IntKind.i64 n208,
                                                                                                                                                        Value.int IntKind.i64 n209,
                                                                                                                                                        Value.int IntKind.i64 n210] ∧
                                                                                                                                                  sameN 8
                                                                                                                                                      (Value.agg
                                                                                                                                                        #[Value.int IntKind.i64 n26,
                                                                                                                                                          Value.int IntKind.i64 n27,
                                                                                                                                                          Value.int IntKind.i64 n28,
                                                                                                                                                          Value.int IntKind.i64 n29,
                                                                                                                                                          Value.int IntKind.i64 n30])
                                                                                                                                                      (Value.agg
                                                                                                                                                        #[Value.int IntKind.i64 n206,
                                                                                                                                                          Value.int IntKind.i64 n207,
                                                                                                                                                          Value.int IntKind.i64 n208,
                                                                                                                                                          Value.int IntKind.i64 n209,
                                                                                                                                                          Value.int IntKind.i64 n210]) =
                                                                                                                                                    true) ∧
                                                                                                                                              True) ∧
                                                                                                                                          True
                                                                                                      else
                                                                                                        R (Value.bool false) H59 ∧
                                                                                                          ((∃ n217, H45.cell i3 0 = some (Value.int IntKind.i64 n217) ∧ n51 = n217) ∧
                                                                                                              (∃ n216, H49.cell i3 0 = some (Value.int IntKind.i64 n216) ∧ n51 = n216) ∧ True) ∧
                                                                                                            ((∃ n219, H37.cell i1 0 = some (Value.int IntKind.i64 n219) ∧ n43 = n219) ∧
                                                                                                                (∃ n218, H41.cell i1 0 = some (Value.int IntKind.i64 n218) ∧ n43 = n218) ∧ True) ∧
                                                                                                              ((∃ n225 n226 n227 n228 n229,
                                                                                                                    (H10.bump 63).cellsAt i3 0 5 =
                                                                                                                        some
                                                                                                                          [Value.int IntKind.i64 n225, Value.int IntKind.i64 n226,
                                                                                                                            Value.int IntKind.i64 n227, Value.int IntKind.i64 n228,
                                                                                                                            Value.int IntKind.i64 n229] ∧
                                                                                                                      sameN 8
                                                                                                                          (Value.agg
                                                                                                                            #[Value.int IntKind.i64 n31, Value.int IntKind.i64 n32,
                                                                                                                              Value.int IntKind.i64 n33, Value.int IntKind.i64 n34,
                                                                                                                              Value.int IntKind.i64 n35])
                                                                                                                          (Value.agg
                                                                                                                            #[Value.int IntKind.i64 n225, Value.int IntKind.i64 n226,
                                                                                                                              Value.int IntKind.i64 n227, Value.int IntKind.i64 n228,
                                                                                                                              Value.int IntKind.i64 n229]) =
                                                                                                                        true) ∧
                                                                                                                  (∃ n220 n221 n222 n223 n224,
                                                                                                                      H24.cellsAt i3 0 5 =
                                                                                                                          some
                                                                                                                            [Value.int IntKind.i64 n220, Value.int IntKind.i64 n221,
                                                                                                                              Value.int IntKind.i64 n222, Value.int IntKind.i64 n223,
                                                                                                                              Value.int IntKind.i64 n224] ∧
                                                                                                                        sameN 8
                                                                                                                            (Value.agg
                                                                                                                              #[Value.int IntKind.i64 n31, Value.int IntKind.i64 n32,
                                                                                                                                Value.int IntKind.i64 n33, Value.int IntKind.i64 n34,
                                                                                                                                Value.int IntKind.i64 n35])
                                                                                                                            (Value.agg
                                                                                                                              #[Value.int IntKind.i64 n220, Value.int IntKind.i64 n221,
                                                                                                                                Value.int IntKind.i64 n222, Value.int IntKind.i64 n223,
                                                                                                                                Value.int IntKind.i64 n224]) =
                                                                                                                          true) ∧
                                                                                                                    True) ∧
                                                                                                                ((∃ n235 n236 n237 n238 n239,
                                                                                                                      (H10.bump 63).cellsAt i1 0 5 =
                                                                                                                          some
                                                                                                                            [Value.int IntKind.i64 n235, Value.int IntKind.i64 n236,
                                                                                                                              Value.int IntKind.i64 n237, Value.int IntKind.i64 n238,
                                                                                                                              Value.int IntKind.i64 n239] ∧
                                                                                                                        sameN 8
                                                                                                                            (Value.agg
                                                                                                                              #[Value.int IntKind.i64 n26, Value.int IntKind.i64 n27,
                                                                                                                                Value.int IntKind.i64 n28, Value.int IntKind.i64 n29,
                                                                                                                                Value.int IntKind.i64 n30])
                                                                                                                            (Value.agg
                                                                                                                              #[Value.int IntKind.i64 n235, Value.int IntKind.i64 n236,
                                                                                                                                Value.int IntKind.i64 n237, Value.int IntKind.i64 n238,
                                                                                                                                Value.int IntKind.i64 n239]) =
                                                                                                                          true) ∧
                                                                                                                    (∃ n230 n231 n232 n233 n234,
                                                                                                                        H24.cellsAt i1 0 5 =
                                                                                                                            some
                                                                                                                              [Value.int IntKind.i64 n230, Value.int IntKind.i64 n231,
                                                                                                                                Value.int IntKind.i64 n232, Value.int IntKind.i64 n233,
                                                                                                                                Value.int IntKind.i64 n234] ∧
                                                                                                                          sameN 8
                                                                                                                              (Value.agg
                                                                                                                                #[Value.int IntKind.i64 n26, Value.int IntKind.i64 n27,
                                                                                                                                  Value.int IntKind.i64 n28, Value.int IntKind.i64 n29,
                                                                                                                                  Value.int IntKind.i64 n30])
                                                                                                                              (Value.agg
                                                                                                                                #[Value.int IntKind.i64 n230, Value.int IntKind.i64 n231,
                                                                                                                                  Value.int IntKind.i64 n232, Value.int IntKind.i64 n233,
                                                                                                                                  Value.int IntKind.i64 n234]) =
                                                                                                                            true) ∧
                                                                                                                      True) ∧
                                                                                                                  True
                                                                                        else
                                                                                          R (Value.bool false) H53 ∧
                                                                                            ((∃ n241, H45.cell i3 0 = some (Value.int IntKind.i64 n241) ∧ n51 = n241) ∧
                                                                                                (∃ n240, H49.cell i3 0 = some (Value.int IntKind.i64 n240) ∧ n51 = n240) ∧ True) ∧
                                                                                              ((∃ n243, H37.cell i1 0 = some (Value.int IntKind.i64 n243) ∧ n43 = n243) ∧
                                                                                                  (∃ n242, H41.cell i1 0 = some (Value.int IntKind.i64 n242) ∧ n43 = n242) ∧ True) ∧
                                                                                                ((∃ n249 n250 n251 n252 n253,
                                                                                                      (H10.bump 63).cellsAt i3 0 5 =
                                                                                                          some
                                                                                                            [Value.int IntKind.i64 n249, Value.int IntKind.i64 n250, Value.int IntKind.i64 n251,
                                                                                                              Value.int IntKind.i64 n252, Value.int IntKind.i64 n253] ∧
                                                                                                        sameN 8
                                                                                                            (Value.agg
                                                                                                              #[Value.int IntKind.i64 n31, Value.int IntKind.i64 n32, Value.int IntKind.i64 n33,
                                                                                                                Value.int IntKind.i64 n34, Value.int IntKind.i64 n35])
                                                                                                            (Value.agg
                                                                                                              #[Value.int IntKind.i64 n249, Value.int IntKind.i64 n250, Value.int IntKind.i64 n251,
                                                                                                                Value.int IntKind.i64 n252, Value.int IntKind.i64 n253]) =
                                                                                                          true) ∧
                                                                                                    (∃ n244 n245 n246 n247 n248,
                                                                                                        H24.cellsAt i3 0 5 =
                                                                                                            some
                                                                                                              [Value.int IntKind.i64 n244, Value.int IntKind.i64 n245, Value.int IntKind.i64 n246,
                                                                                                                Value.int IntKind.i64 n247, Value.int IntKind.i64 n248] ∧
                                                                                                          sameN 8
                                                                                                              (Value.agg
                                                                                                                #[Value.int IntKind.i64 n31, Value.int IntKind.i64 n32, Value.int IntKind.i64 n33,
                                                                                                                  Value.int IntKind.i64 n34, Value.int IntKind.i64 n35])
                                                                                                              (Value.agg
                                                                                                                #[Value.int IntKind.i64 n244, Value.int IntKind.i64 n245, Value.int IntKind.i64 n246,
                                                                                                                  Value.int IntKind.i64 n247, Value.int IntKind.i64 n248]) =
                                                                                                            true) ∧
                                                                                                      True) ∧
                                                                                                  ((∃ n259 n260 n261 n262 n263,
                                                                                                        (H10.bump 63).cellsAt i1 0 5 =
                                                                                                            some
                                                                                                              [Value.int IntKind.i64 n259, Value.int IntKind.i64 n260, Value.int IntKind.i64 n261,
                                                                                                                Value.int IntKind.i64 n262, Value.int IntKind.i64 n263] ∧
                                                                                                          sameN 8
                                                                                                              (Value.agg
                                                                                                                #[Value.int IntKind.i64 n26, Value.int IntKind.i64 n27, Value.int IntKind.i64 n28,
                                                                                                                  Value.int IntKind.i64 n29, Value.int IntKind.i64 n30])
                                                                                                              (Value.agg
                                                                                                                #[Value.int IntKind.i64 n259, Value.int IntKind.i64 n260, Value.int IntKind.i64 n261,
                                                                                                                  Value.int IntKind.i64 n262, Value.int IntKind.i64 n263]) =
                                                                                                            true) ∧
                                                                                                      (∃ n254 n255 n256 n257 n258,
                                                                                                          H24.cellsAt i1 0 5 =
                                                                                                              some
                                                                                                                [Value.int IntKind.i64 n254, Value.int IntKind.i64 n255, Value.int IntKind.i64 n256,
                                                                                                                  Value.int IntKind.i64 n257, Value.int IntKind.i64 n258] ∧
                                                                                                            sameN 8
                                                                                                                (Value.agg
                                                                                                                  #[Value.int IntKind.i64 n26, Value.int IntKind.i64 n27, Value.int IntKind.i64 n28,
                                                                                                                    Value.int IntKind.i64 n29, Value.int IntKind.i64 n30])
                                                                                                                (Value.agg
                                                                                                                  #[Value.int IntKind.i64 n254, Value.int IntKind.i64 n255, Value.int IntKind.i64 n256,
                                                                                                                    Value.int IntKind.i64 n257, Value.int IntKind.i64 n258]) =
                                                                                                              true) ∧
                                                                                                        True) ∧
                                                                                                    True
                                                                  else
                                                                    R (Value.bool false) H45 ∧
                                                                      ((∃ n265, H37.cell i1 0 = some (Value.int IntKind.i64 n265) ∧ n43 = n265) ∧
                                                                          (∃ n264, H41.cell i1 0 = some (Value.int IntKind.i64 n264) ∧ n43 = n264) ∧ True) ∧
                                                                        ((∃ n271 n272 n273 n274 n275,
                                                                              (H10.bump 63).cellsAt i3 0 5 =
                                                                                  some
                                                                                    [Value.int IntKind.i64 n271, Value.int IntKind.i64 n272, Value.int IntKind.i64 n273, Value.int IntKind.i64 n274,
                                                                                      Value.int IntKind.i64 n275] ∧
                                                                                sameN 8
                                                                                    (Value.agg
                                                                                      #[Value.int IntKind.i64 n31, Value.int IntKind.i64 n32, Value.int IntKind.i64 n33, Value.int IntKind.i64 n34,
                                                                                        Value.int IntKind.i64 n35])
                                                                                    (Value.agg
                                                                                      #[Value.int IntKind.i64 n271, Value.int IntKind.i64 n272, Value.int IntKind.i64 n273, Value.int IntKind.i64 n274,
                                                                                        Value.int IntKind.i64 n275]) =
                                                                                  true) ∧
                                                                            (∃ n266 n267 n268 n269 n270,
                                                                                H24.cellsAt i3 0 5 =
                                                                                    some
                                                                                      [Value.int IntKind.i64 n266, Value.int IntKind.i64 n267, Value.int IntKind.i64 n268, Value.int IntKind.i64 n269,
                                                                                        Value.int IntKind.i64 n270] ∧
                                                                                  sameN 8
                                                                                      (Value.agg
                                                                                        #[Value.int IntKind.i64 n31, Value.int IntKind.i64 n32, Value.int IntKind.i64 n33, Value.int IntKind.i64 n34,
                                                                                          Value.int IntKind.i64 n35])
                                                                                      (Value.agg
                                                                                        #[Value.int IntKind.i64 n266, Value.int IntKind.i64 n267, Value.int IntKind.i64 n268,
                                                                                          Value.int IntKind.i64 n269, Value.int IntKind.i64 n270]) =
                                                                                    true) ∧
                                                                              True) ∧
                                                                          ((∃ n281 n282 n283 n284 n285,
                                                                                (H10.bump 63).cellsAt i1 0 5 =
                                                                                    some
                                                                                      [Value.int IntKind.i64 n281, Value.int IntKind.i64 n282, Value.int IntKind.i64 n283, Value.int IntKind.i64 n284,
                                                                                        Value.int IntKind.i64 n285] ∧
                                                                                  sameN 8
                                                                                      (Value.agg
                                                                                        #[Value.int IntKind.i64 n26, Value.int IntKind.i64 n27, Value.int IntKind.i64 n28, Value.int IntKind.i64 n29,
                                                                                          Value.int IntKind.i64 n30])
                                                                                      (Value.agg
                                                                                        #[Value.int IntKind.i64 n281, Value.int IntKind.i64 n282, Value.int IntKind.i64 n283,
                                                                                          Value.int IntKind.i64 n284, Value.int IntKind.i64 n285]) =
                                                                                    true) ∧
                                                                              (∃ n276 n277 n278 n279 n280,
                                                                                  H24.cellsAt i1 0 5 =
                                                                                      some
                                                                                        [Value.int IntKind.i64 n276, Value.int IntKind.i64 n277, Value.int IntKind.i64 n278, Value.int IntKind.i64 n279,
                                                                                          Value.int IntKind.i64 n280] ∧
                                                                                    sameN 8
                                                                                        (Value.agg
                                                                                          #[Value.int IntKind.i64 n26, Value.int IntKind.i64 n27, Value.int IntKind.i64 n28, Value.int IntKind.i64 n29,
                                                                                            Value.int IntKind.i64 n30])
                                                                                        (Value.agg
                                                                                          #[Value.int IntKind.i64 n276, Value.int IntKind.i64 n277, Value.int IntKind.i64 n278,
                                                                                            Value.int IntKind.i64 n279, Value.int IntKind.i64 n280]) =
                                                                                      true) ∧
                                                                                True) ∧
                                                                            True
                                            else
                                              R (Value.bool false) H37 ∧
                                                ((∃ n291 n292 n293 n294 n295,
                                                      (H10.bump 63).cellsAt i3 0 5 =
                                                          some
                                                            [Value.int IntKind.i64 n291, Value.int IntKind.i64 n292, Value.int IntKind.i64 n293, Value.int IntKind.i64 n294,
                                                              Value.int IntKind.i64 n295] ∧
                                                        sameN 8
                                                            (Value.agg
                                                              #[Value.int IntKind.i64 n31, Value.int IntKind.i64 n32, Value.int IntKind.i64 n33, Value.int IntKind.i64 n34, Value.int IntKind.i64 n35])
                                                            (Value.agg
                                                              #[Value.int IntKind.i64 n291, Value.int IntKind.i64 n292, Value.int IntKind.i64 n293, Value.int IntKind.i64 n294,
                                                                Value.int IntKind.i64 n295]) =
                                                          true) ∧
                                                    (∃ n286 n287 n288 n289 n290,
                                                        H24.cellsAt i3 0 5 =
                                                            some
                                                              [Value.int IntKind.i64 n286, Value.int IntKind.i64 n287, Value.int IntKind.i64 n288, Value.int IntKind.i64 n289,
                                                                Value.int IntKind.i64 n290] ∧
                                                          sameN 8
                                                              (Value.agg
                                                                #[Value.int IntKind.i64 n31, Value.int IntKind.i64 n32, Value.int IntKind.i64 n33, Value.int IntKind.i64 n34,
                                                                  Value.int IntKind.i64 n35])
                                                              (Value.agg
                                                                #[Value.int IntKind.i64 n286, Value.int IntKind.i64 n287, Value.int IntKind.i64 n288, Value.int IntKind.i64 n289,
                                                                  Value.int IntKind.i64 n290]) =
                                                            true) ∧
                                                      True) ∧
                                                  ((∃ n301 n302 n303 n304 n305,
                                                        (H10.bump 63).cellsAt i1 0 5 =
                                                            some
                                                              [Value.int IntKind.i64 n301, Value.int IntKind.i64 n302, Value.int IntKind.i64 n303, Value.int IntKind.i64 n304,
                                                                Value.int IntKind.i64 n305] ∧
                                                          sameN 8
                                                              (Value.agg
                                                                #[Value.int IntKind.i64 n26, Value.int IntKind.i64 n27, Value.int IntKind.i64 n28, Value.int IntKind.i64 n29,
                                                                  Value.int IntKind.i64 n30])
                                                              (Value.agg
                                                                #[Value.int IntKind.i64 n301, Value.int IntKind.i64 n302, Value.int IntKind.i64 n303, Value.int IntKind.i64 n304,
                                                                  Value.int IntKind.i64 n305]) =
                                                            true) ∧
                                                      (∃ n296 n297 n298 n299 n300,
                                                          H24.cellsAt i1 0 5 =
                                                              some
                                                                [Value.int IntKind.i64 n296, Value.int IntKind.i64 n297, Value.int IntKind.i64 n298, Value.int IntKind.i64 n299,
                                                                  Value.int IntKind.i64 n300] ∧
                                                            sameN 8
                                                                (Value.agg
                                                                  #[Value.int IntKind.i64 n26, Value.int IntKind.i64 n27, Value.int IntKind.i64 n28, Value.int IntKind.i64 n29,
                                                                    Value.int IntKind.i64 n30])
                                                                (Value.agg
                                                                  #[Value.int IntKind.i64 n296, Value.int IntKind.i64 n297, Value.int IntKind.i64 n298, Value.int IntKind.i64 n299,
                                                                    Value.int IntKind.i64 n300]) =
                                                              true) ∧
                                                        True) ∧
                                                    True) →
    CA Go.Proofs.Ytlkmdcncpdadbaa.en F.crossbarlaw07_DeclTells [Value.agg #[Value.int IntKind.i64 x00, Value.int IntKind.i64 x01, Value.int IntKind.i64 x02, Value.int IntKind.i64 x03, Value.int IntKind.i64 x04],
  Value.agg #[Value.int IntKind.i64 x10, Value.int IntKind.i64 x11, Value.int IntKind.i64 x12, Value.int IntKind.i64 x13, Value.int IntKind.i64 x14], Value.int IntKind.u64 x2,
  Value.int IntKind.u64 x3, Value.int IntKind.i64 x4] H R := by
  intro h
  refine wpFn_ok (Z := []) (fn := Go.Proofs.Try.f6) ?_ ?_ ?_
  · kernel_rfl
  · kernel_rfl
  · apply turnInto h
    kernel_rfl


end Go.Proofs.Ytlkmdcncpdadbaa
