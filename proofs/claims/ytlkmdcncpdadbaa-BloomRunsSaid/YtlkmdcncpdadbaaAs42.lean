/-
  Words for walking with owned blocks: to the front, loads, stores, leaving some (printed by a program).
-/
import Derived.Test.YtlkmdcncpdadbaaAs40
namespace Go.AS
open Go.RowKit
set_option linter.unusedVariables false
variable {H : Heap} {L : List Asr}

theorem asRow_in {i o : Nat} {K : Nat → Nat → Prop} (h : K i o) : asRow (some ⟨i, o, none⟩) K := h
theorem asAddr_in {i o : Nat} {K : Nat → Nat → Prop} (h : K i o) : asAddr (.pointer (some ⟨i, o, none⟩)) K := h
theorem asSl_in {a : Option Addr} {l : Nat} {K : Option Addr → Nat → Prop} (h : K a l) : asSl (.slice a l 0) K := h
theorem asInt_in {k : IntKind} {n : Int} {K : Int → Prop} (h : K n) : AS.asInt k (.int k n) K := by rw [asInt_int]; exact h
theorem asBool_in {b : Bool} {K : Bool → Prop} (h : K b) : AS.asBool (.bool b) K := h
theorem asFn_in {f : FuncId} {fs cs : Array Value} {K : FuncId → List Value → List Value → Prop} (h : K f fs.toList cs.toList) : asFn (.func (.func f) fs cs) K := h
theorem asPtr_in {p : Option Addr} {K : Option Addr → Prop} (h : K p) : asPtr (.pointer p) K := h

theorem Sep.swap {A B : Asr} (h : Sep H (A :: B :: L)) : Sep H (B :: A :: L) := h.perm (List.Perm.swap B A L)
theorem Sep.cons2 {A B : Asr} {M : List Asr} (h : Sep H (A :: L)) (p : L.Perm M) : Sep H (A :: M) := h.perm (p.cons A)
theorem Sep.thin1 {A B : Asr} (h : Sep H (A :: B :: L)) : Sep H (A :: L) := h.swap.tail
theorem Sep.eraseAt (h : Sep H L) (k : Nat) : Sep H (L.eraseIdx k) := by
  by_cases hk : k < L.length
  · exact (h.perm (eraseIdx_perm (List.getElem?_eq_getElem hk))).tail
  · rw [List.eraseIdx_of_length_le (by omega)]; exact h
theorem Sep.rm0 {A0 : Asr} (h : Sep H (A0 :: L)) : Sep H (L) := Sep.eraseAt h 0
theorem Sep.rm1 {A0 A1 : Asr} (h : Sep H (A0 :: A1 :: L)) : Sep H (A0 :: L) := Sep.eraseAt h 1
theorem Sep.rm2 {A0 A1 A2 : Asr} (h : Sep H (A0 :: A1 :: A2 :: L)) : Sep H (A0 :: A1 :: L) := Sep.eraseAt h 2
theorem Sep.rm3 {A0 A1 A2 A3 : Asr} (h : Sep H (A0 :: A1 :: A2 :: A3 :: L)) : Sep H (A0 :: A1 :: A2 :: L) := Sep.eraseAt h 3
theorem Sep.rm4 {A0 A1 A2 A3 A4 : Asr} (h : Sep H (A0 :: A1 :: A2 :: A3 :: A4 :: L)) : Sep H (A0 :: A1 :: A2 :: A3 :: L) := Sep.eraseAt h 4
theorem Sep.rm5 {A0 A1 A2 A3 A4 A5 : Asr} (h : Sep H (A0 :: A1 :: A2 :: A3 :: A4 :: A5 :: L)) : Sep H (A0 :: A1 :: A2 :: A3 :: A4 :: L) := Sep.eraseAt h 5
theorem Sep.rm6 {A0 A1 A2 A3 A4 A5 A6 : Asr} (h : Sep H (A0 :: A1 :: A2 :: A3 :: A4 :: A5 :: A6 :: L)) : Sep H (A0 :: A1 :: A2 :: A3 :: A4 :: A5 :: L) := Sep.eraseAt h 6
theorem Sep.rm7 {A0 A1 A2 A3 A4 A5 A6 A7 : Asr} (h : Sep H (A0 :: A1 :: A2 :: A3 :: A4 :: A5 :: A6 :: A7 :: L)) : Sep H (A0 :: A1 :: A2 :: A3 :: A4 :: A5 :: A6 :: L) := Sep.eraseAt h 7
theorem Sep.rm8 {A0 A1 A2 A3 A4 A5 A6 A7 A8 : Asr} (h : Sep H (A0 :: A1 :: A2 :: A3 :: A4 :: A5 :: A6 :: A7 :: A8 :: L)) : Sep H (A0 :: A1 :: A2 :: A3 :: A4 :: A5 :: A6 :: A7 :: L) := Sep.eraseAt h 8
theorem Sep.rm9 {A0 A1 A2 A3 A4 A5 A6 A7 A8 A9 : Asr} (h : Sep H (A0 :: A1 :: A2 :: A3 :: A4 :: A5 :: A6 :: A7 :: A8 :: A9 :: L)) : Sep H (A0 :: A1 :: A2 :: A3 :: A4 :: A5 :: A6 :: A7 :: A8 :: L) := Sep.eraseAt h 9
theorem Sep.rm10 {A0 A1 A2 A3 A4 A5 A6 A7 A8 A9 A10 : Asr} (h : Sep H (A0 :: A1 :: A2 :: A3 :: A4 :: A5 :: A6 :: A7 :: A8 :: A9 :: A10 :: L)) : Sep H (A0 :: A1 :: A2 :: A3 :: A4 :: A5 :: A6 :: A7 :: A8 :: A9 :: L) := Sep.eraseAt h 10
theorem Sep.rm11 {A0 A1 A2 A3 A4 A5 A6 A7 A8 A9 A10 A11 : Asr} (h : Sep H (A0 :: A1 :: A2 :: A3 :: A4 :: A5 :: A6 :: A7 :: A8 :: A9 :: A10 :: A11 :: L)) : Sep H (A0 :: A1 :: A2 :: A3 :: A4 :: A5 :: A6 :: A7 :: A8 :: A9 :: A10 :: L) := Sep.eraseAt h 11
theorem Sep.rm12 {A0 A1 A2 A3 A4 A5 A6 A7 A8 A9 A10 A11 A12 : Asr} (h : Sep H (A0 :: A1 :: A2 :: A3 :: A4 :: A5 :: A6 :: A7 :: A8 :: A9 :: A10 :: A11 :: A12 :: L)) : Sep H (A0 :: A1 :: A2 :: A3 :: A4 :: A5 :: A6 :: A7 :: A8 :: A9 :: A10 :: A11 :: L) := Sep.eraseAt h 12
theorem Sep.rm13 {A0 A1 A2 A3 A4 A5 A6 A7 A8 A9 A10 A11 A12 A13 : Asr} (h : Sep H (A0 :: A1 :: A2 :: A3 :: A4 :: A5 :: A6 :: A7 :: A8 :: A9 :: A10 :: A11 :: A12 :: A13 :: L)) : Sep H (A0 :: A1 :: A2 :: A3 :: A4 :: A5 :: A6 :: A7 :: A8 :: A9 :: A10 :: A11 :: A12 :: L) := Sep.eraseAt h 13
theorem Sep.rm14 {A0 A1 A2 A3 A4 A5 A6 A7 A8 A9 A10 A11 A12 A13 A14 : Asr} (h : Sep H (A0 :: A1 :: A2 :: A3 :: A4 :: A5 :: A6 :: A7 :: A8 :: A9 :: A10 :: A11 :: A12 :: A13 :: A14 :: L)) : Sep H (A0 :: A1 :: A2 :: A3 :: A4 :: A5 :: A6 :: A7 :: A8 :: A9 :: A10 :: A11 :: A12 :: A13 :: L) := Sep.eraseAt h 14
theorem Sep.up1 {A0 A1 : Asr} (h : Sep H (A0 :: A1 :: L)) : Sep H (A1 :: A0 :: L) := Sep.out h 1 rfl
theorem Sep.up2 {A0 A1 A2 : Asr} (h : Sep H (A0 :: A1 :: A2 :: L)) : Sep H (A2 :: A0 :: A1 :: L) := Sep.out h 2 rfl
theorem Sep.up3 {A0 A1 A2 A3 : Asr} (h : Sep H (A0 :: A1 :: A2 :: A3 :: L)) : Sep H (A3 :: A0 :: A1 :: A2 :: L) := Sep.out h 3 rfl
theorem Sep.up4 {A0 A1 A2 A3 A4 : Asr} (h : Sep H (A0 :: A1 :: A2 :: A3 :: A4 :: L)) : Sep H (A4 :: A0 :: A1 :: A2 :: A3 :: L) := Sep.out h 4 rfl
theorem Sep.up5 {A0 A1 A2 A3 A4 A5 : Asr} (h : Sep H (A0 :: A1 :: A2 :: A3 :: A4 :: A5 :: L)) : Sep H (A5 :: A0 :: A1 :: A2 :: A3 :: A4 :: L) := Sep.out h 5 rfl
theorem Sep.up6 {A0 A1 A2 A3 A4 A5 A6 : Asr} (h : Sep H (A0 :: A1 :: A2 :: A3 :: A4 :: A5 :: A6 :: L)) : Sep H (A6 :: A0 :: A1 :: A2 :: A3 :: A4 :: A5 :: L) := Sep.out h 6 rfl
theorem Sep.up7 {A0 A1 A2 A3 A4 A5 A6 A7 : Asr} (h : Sep H (A0 :: A1 :: A2 :: A3 :: A4 :: A5 :: A6 :: A7 :: L)) : Sep H (A7 :: A0 :: A1 :: A2 :: A3 :: A4 :: A5 :: A6 :: L) := Sep.out h 7 rfl
theorem Sep.up8 {A0 A1 A2 A3 A4 A5 A6 A7 A8 : Asr} (h : Sep H (A0 :: A1 :: A2 :: A3 :: A4 :: A5 :: A6 :: A7 :: A8 :: L)) : Sep H (A8 :: A0 :: A1 :: A2 :: A3 :: A4 :: A5 :: A6 :: A7 :: L) := Sep.out h 8 rfl
theorem Sep.up9 {A0 A1 A2 A3 A4 A5 A6 A7 A8 A9 : Asr} (h : Sep H (A0 :: A1 :: A2 :: A3 :: A4 :: A5 :: A6 :: A7 :: A8 :: A9 :: L)) : Sep H (A9 :: A0 :: A1 :: A2 :: A3 :: A4 :: A5 :: A6 :: A7 :: A8 :: L) := Sep.out h 9 rfl
theorem Sep.up10 {A0 A1 A2 A3 A4 A5 A6 A7 A8 A9 A10 : Asr} (h : Sep H (A0 :: A1 :: A2 :: A3 :: A4 :: A5 :: A6 :: A7 :: A8 :: A9 :: A10 :: L)) : Sep H (A10 :: A0 :: A1 :: A2 :: A3 :: A4 :: A5 :: A6 :: A7 :: A8 :: A9 :: L) := Sep.out h 10 rfl
theorem Sep.up11 {A0 A1 A2 A3 A4 A5 A6 A7 A8 A9 A10 A11 : Asr} (h : Sep H (A0 :: A1 :: A2 :: A3 :: A4 :: A5 :: A6 :: A7 :: A8 :: A9 :: A10 :: A11 :: L)) : Sep H (A11 :: A0 :: A1 :: A2 :: A3 :: A4 :: A5 :: A6 :: A7 :: A8 :: A9 :: A10 :: L) := Sep.out h 11 rfl
theorem Sep.up12 {A0 A1 A2 A3 A4 A5 A6 A7 A8 A9 A10 A11 A12 : Asr} (h : Sep H (A0 :: A1 :: A2 :: A3 :: A4 :: A5 :: A6 :: A7 :: A8 :: A9 :: A10 :: A11 :: A12 :: L)) : Sep H (A12 :: A0 :: A1 :: A2 :: A3 :: A4 :: A5 :: A6 :: A7 :: A8 :: A9 :: A10 :: A11 :: L) := Sep.out h 12 rfl
theorem Sep.up13 {A0 A1 A2 A3 A4 A5 A6 A7 A8 A9 A10 A11 A12 A13 : Asr} (h : Sep H (A0 :: A1 :: A2 :: A3 :: A4 :: A5 :: A6 :: A7 :: A8 :: A9 :: A10 :: A11 :: A12 :: A13 :: L)) : Sep H (A13 :: A0 :: A1 :: A2 :: A3 :: A4 :: A5 :: A6 :: A7 :: A8 :: A9 :: A10 :: A11 :: A12 :: L) := Sep.out h 13 rfl
theorem Sep.up14 {A0 A1 A2 A3 A4 A5 A6 A7 A8 A9 A10 A11 A12 A13 A14 : Asr} (h : Sep H (A0 :: A1 :: A2 :: A3 :: A4 :: A5 :: A6 :: A7 :: A8 :: A9 :: A10 :: A11 :: A12 :: A13 :: A14 :: L)) : Sep H (A14 :: A0 :: A1 :: A2 :: A3 :: A4 :: A5 :: A6 :: A7 :: A8 :: A9 :: A10 :: A11 :: A12 :: A13 :: L) := Sep.out h 14 rfl
theorem Sep.thin2 {A0 A1 A2 : Asr} (h : Sep H (A0 :: A1 :: A2 :: L)) : Sep H (A0 :: L) := Sep.thin1 (Sep.thin1 h)
theorem Sep.thin3 {A0 A1 A2 A3 : Asr} (h : Sep H (A0 :: A1 :: A2 :: A3 :: L)) : Sep H (A0 :: L) := Sep.thin2 (Sep.thin1 h)
theorem Sep.thin4 {A0 A1 A2 A3 A4 : Asr} (h : Sep H (A0 :: A1 :: A2 :: A3 :: A4 :: L)) : Sep H (A0 :: L) := Sep.thin3 (Sep.thin1 h)
theorem Sep.thin5 {A0 A1 A2 A3 A4 A5 : Asr} (h : Sep H (A0 :: A1 :: A2 :: A3 :: A4 :: A5 :: L)) : Sep H (A0 :: L) := Sep.thin4 (Sep.thin1 h)
theorem Sep.thin6 {A0 A1 A2 A3 A4 A5 A6 : Asr} (h : Sep H (A0 :: A1 :: A2 :: A3 :: A4 :: A5 :: A6 :: L)) : Sep H (A0 :: L) := Sep.thin5 (Sep.thin1 h)
theorem Sep.thin7 {A0 A1 A2 A3 A4 A5 A6 A7 : Asr} (h : Sep H (A0 :: A1 :: A2 :: A3 :: A4 :: A5 :: A6 :: A7 :: L)) : Sep H (A0 :: L) := Sep.thin6 (Sep.thin1 h)
theorem Sep.thin8 {A0 A1 A2 A3 A4 A5 A6 A7 A8 : Asr} (h : Sep H (A0 :: A1 :: A2 :: A3 :: A4 :: A5 :: A6 :: A7 :: A8 :: L)) : Sep H (A0 :: L) := Sep.thin7 (Sep.thin1 h)
theorem Sep.thin9 {A0 A1 A2 A3 A4 A5 A6 A7 A8 A9 : Asr} (h : Sep H (A0 :: A1 :: A2 :: A3 :: A4 :: A5 :: A6 :: A7 :: A8 :: A9 :: L)) : Sep H (A0 :: L) := Sep.thin8 (Sep.thin1 h)
theorem Sep.thin10 {A0 A1 A2 A3 A4 A5 A6 A7 A8 A9 A10 : Asr} (h : Sep H (A0 :: A1 :: A2 :: A3 :: A4 :: A5 :: A6 :: A7 :: A8 :: A9 :: A10 :: L)) : Sep H (A0 :: L) := Sep.thin9 (Sep.thin1 h)
theorem Sep.thin11 {A0 A1 A2 A3 A4 A5 A6 A7 A8 A9 A10 A11 : Asr} (h : Sep H (A0 :: A1 :: A2 :: A3 :: A4 :: A5 :: A6 :: A7 :: A8 :: A9 :: A10 :: A11 :: L)) : Sep H (A0 :: L) := Sep.thin10 (Sep.thin1 h)
theorem Sep.thin12 {A0 A1 A2 A3 A4 A5 A6 A7 A8 A9 A10 A11 A12 : Asr} (h : Sep H (A0 :: A1 :: A2 :: A3 :: A4 :: A5 :: A6 :: A7 :: A8 :: A9 :: A10 :: A11 :: A12 :: L)) : Sep H (A0 :: L) := Sep.thin11 (Sep.thin1 h)
theorem Sep.thin13 {A0 A1 A2 A3 A4 A5 A6 A7 A8 A9 A10 A11 A12 A13 : Asr} (h : Sep H (A0 :: A1 :: A2 :: A3 :: A4 :: A5 :: A6 :: A7 :: A8 :: A9 :: A10 :: A11 :: A12 :: A13 :: L)) : Sep H (A0 :: L) := Sep.thin12 (Sep.thin1 h)
theorem Sep.thin14 {A0 A1 A2 A3 A4 A5 A6 A7 A8 A9 A10 A11 A12 A13 A14 : Asr} (h : Sep H (A0 :: A1 :: A2 :: A3 :: A4 :: A5 :: A6 :: A7 :: A8 :: A9 :: A10 :: A11 :: A12 :: A13 :: A14 :: L)) : Sep H (A0 :: L) := Sep.thin13 (Sep.thin1 h)
theorem Sep.ld0 {i z o : Nat} {w : Bool} {c : List Value} {v : Value} (h : Sep H (bx i (.cells w z c) :: L)) (hv : c[o]? = some v) : H.cell i o = some v := Sep.ld h 0 rfl hv
theorem Sep.lds0 {i z o n : Nat} {w : Bool} {c : List Value} {v : List Value} (h : Sep H (bx i (.cells w z c) :: L)) (hv : takeAt c o n = some v) : H.cellsAt i o n = some v := Sep.lds h 0 rfl hv
theorem Sep.get0 {i : Nat} {x : Obj} (h : Sep H (bx i x :: L)) : H.get i = some x := Sep.get h 0 rfl
theorem Sep.st0 {i z o : Nat} {c vs : List Value} {K : Heap → Prop} (h : Sep H (bx i (.cells true z c) :: L)) (hl : o + vs.length ≤ c.length) (r : ∀ H', Sep H' (bx i (.cells true z (setAt c o vs)) :: L) → K H') : stc H i o vs K := Sep.st h 0 rfl hl r
theorem Sep.put0 {i : Nat} {x : Obj} (h : Sep H (bx i x :: L)) (y : Obj) : Sep (H.set i y) (bx i y :: L) := Sep.set h 0 y rfl
theorem Sep.one0 {A : Asr} (h : Sep H (A :: L)) : A.holds H := Sep.one h 0 rfl
theorem Sep.ld1 {A0 : Asr} {i z o : Nat} {w : Bool} {c : List Value} {v : Value} (h : Sep H (A0 :: bx i (.cells w z c) :: L)) (hv : c[o]? = some v) : H.cell i o = some v := Sep.ld h 1 rfl hv
theorem Sep.lds1 {A0 : Asr} {i z o n : Nat} {w : Bool} {c : List Value} {v : List Value} (h : Sep H (A0 :: bx i (.cells w z c) :: L)) (hv : takeAt c o n = some v) : H.cellsAt i o n = some v := Sep.lds h 1 rfl hv
theorem Sep.get1 {A0 : Asr} {i : Nat} {x : Obj} (h : Sep H (A0 :: bx i x :: L)) : H.get i = some x := Sep.get h 1 rfl
theorem Sep.st1 {A0 : Asr} {i z o : Nat} {c vs : List Value} {K : Heap → Prop} (h : Sep H (A0 :: bx i (.cells true z c) :: L)) (hl : o + vs.length ≤ c.length) (r : ∀ H', Sep H' (A0 :: bx i (.cells true z (setAt c o vs)) :: L) → K H') : stc H i o vs K := Sep.st h 1 rfl hl r
theorem Sep.put1 {A0 : Asr} {i : Nat} {x : Obj} (h : Sep H (A0 :: bx i x :: L)) (y : Obj) : Sep (H.set i y) (A0 :: bx i y :: L) := Sep.set h 1 y rfl
theorem Sep.one1 {A0 : Asr} {A : Asr} (h : Sep H (A0 :: A :: L)) : A.holds H := Sep.one h 1 rfl
theorem Sep.ld2 {A0 A1 : Asr} {i z o : Nat} {w : Bool} {c : List Value} {v : Value} (h : Sep H (A0 :: A1 :: bx i (.cells w z c) :: L)) (hv : c[o]? = some v) : H.cell i o = some v := Sep.ld h 2 rfl hv
theorem Sep.lds2 {A0 A1 : Asr} {i z o n : Nat} {w : Bool} {c : List Value} {v : List Value} (h : Sep H (A0 :: A1 :: bx i (.cells w z c) :: L)) (hv : takeAt c o n = some v) : H.cellsAt i o n = some v := Sep.lds h 2 rfl hv
theorem Sep.get2 {A0 A1 : Asr} {i : Nat} {x : Obj} (h : Sep H (A0 :: A1 :: bx i x :: L)) : H.get i = some x := Sep.get h 2 rfl
theorem Sep.st2 {A0 A1 : Asr} {i z o : Nat} {c vs : List Value} {K : Heap → Prop} (h : Sep H (A0 :: A1 :: bx i (.cells true z c) :: L)) (hl : o + vs.length ≤ c.length) (r : ∀ H', Sep H' (A0 :: A1 :: bx i (.cells true z (setAt c o vs)) :: L) → K H') : stc H i o vs K := Sep.st h 2 rfl hl r
theorem Sep.put2 {A0 A1 : Asr} {i : Nat} {x : Obj} (h : Sep H (A0 :: A1 :: bx i x :: L)) (y : Obj) : Sep (H.set i y) (A0 :: A1 :: bx i y :: L) := Sep.set h 2 y rfl
theorem Sep.one2 {A0 A1 : Asr} {A : Asr} (h : Sep H (A0 :: A1 :: A :: L)) : A.holds H := Sep.one h 2 rfl
theorem Sep.ld3 {A0 A1 A2 : Asr} {i z o : Nat} {w : Bool} {c : List Value} {v : Value} (h : Sep H (A0 :: A1 :: A2 :: bx i (.cells w z c) :: L)) (hv : c[o]? = some v) : H.cell i o = some v := Sep.ld h 3 rfl hv
theorem Sep.lds3 {A0 A1 A2 : Asr} {i z o n : Nat} {w : Bool} {c : List Value} {v : List Value} (h : Sep H (A0 :: A1 :: A2 :: bx i (.cells w z c) :: L)) (hv : takeAt c o n = some v) : H.cellsAt i o n = some v := Sep.lds h 3 rfl hv
theorem Sep.get3 {A0 A1 A2 : Asr} {i : Nat} {x : Obj} (h : Sep H (A0 :: A1 :: A2 :: bx i x :: L)) : H.get i = some x := Sep.get h 3 rfl
theorem Sep.st3 {A0 A1 A2 : Asr} {i z o : Nat} {c vs : List Value} {K : Heap → Prop} (h : Sep H (A0 :: A1 :: A2 :: bx i (.cells true z c) :: L)) (hl : o + vs.length ≤ c.length) (r : ∀ H', Sep H' (A0 :: A1 :: A2 :: bx i (.cells true z (setAt c o vs)) :: L) → K H') : stc H i o vs K := Sep.st h 3 rfl hl r
theorem Sep.put3 {A0 A1 A2 : Asr} {i : Nat} {x : Obj} (h : Sep H (A0 :: A1 :: A2 :: bx i x :: L)) (y : Obj) : Sep (H.set i y) (A0 :: A1 :: A2 :: bx i y :: L) := Sep.set h 3 y rfl
theorem Sep.one3 {A0 A1 A2 : Asr} {A : Asr} (h : Sep H (A0 :: A1 :: A2 :: A :: L)) : A.holds H := Sep.one h 3 rfl
theorem Sep.ld4 {A0 A1 A2 A3 : Asr} {i z o : Nat} {w : Bool} {c : List Value} {v : Value} (h : Sep H (A0 :: A1 :: A2 :: A3 :: bx i (.cells w z c) :: L)) (hv : c[o]? = some v) : H.cell i o = some v := Sep.ld h 4 rfl hv
theorem Sep.lds4 {A0 A1 A2 A3 : Asr} {i z o n : Nat} {w : Bool} {c : List Value} {v : List Value} (h : Sep H (A0 :: A1 :: A2 :: A3 :: bx i (.cells w z c) :: L)) (hv : takeAt c o n = some v) : H.cellsAt i o n = some v := Sep.lds h 4 rfl hv
theorem Sep.get4 {A0 A1 A2 A3 : Asr} {i : Nat} {x : Obj} (h : Sep H (A0 :: A1 :: A2 :: A3 :: bx i x :: L)) : H.get i = some x := Sep.get h 4 rfl
theorem Sep.st4 {A0 A1 A2 A3 : Asr} {i z o : Nat} {c vs : List Value} {K : Heap → Prop} (h : Sep H (A0 :: A1 :: A2 :: A3 :: bx i (.cells true z c) :: L)) (hl : o + vs.length ≤ c.length) (r : ∀ H', Sep H' (A0 :: A1 :: A2 :: A3 :: bx i (.cells true z (setAt c o vs)) :: L) → K H') : stc H i o vs K := Sep.st h 4 rfl hl r
theorem Sep.put4 {A0 A1 A2 A3 : Asr} {i : Nat} {x : Obj} (h : Sep H (A0 :: A1 :: A2 :: A3 :: bx i x :: L)) (y : Obj) : Sep (H.set i y) (A0 :: A1 :: A2 :: A3 :: bx i y :: L) := Sep.set h 4 y rfl
theorem Sep.one4 {A0 A1 A2 A3 : Asr} {A : Asr} (h : Sep H (A0 :: A1 :: A2 :: A3 :: A :: L)) : A.holds H := Sep.one h 4 rfl
theorem Sep.ld5 {A0 A1 A2 A3 A4 : Asr} {i z o : Nat} {w : Bool} {c : List Value} {v : Value} (h : Sep H (A0 :: A1 :: A2 :: A3 :: A4 :: bx i (.cells w z c) :: L)) (hv : c[o]? = some v) : H.cell i o = some v := Sep.ld h 5 rfl hv
theorem Sep.lds5 {A0 A1 A2 A3 A4 : Asr} {i z o n : Nat} {w : Bool} {c : List Value} {v : List Value} (h : Sep H (A0 :: A1 :: A2 :: A3 :: A4 :: bx i (.cells w z c) :: L)) (hv : takeAt c o n = some v) : H.cellsAt i o n = some v := Sep.lds h 5 rfl hv
theorem Sep.get5 {A0 A1 A2 A3 A4 : Asr} {i : Nat} {x : Obj} (h : Sep H (A0 :: A1 :: A2 :: A3 :: A4 :: bx i x :: L)) : H.get i = some x := Sep.get h 5 rfl
theorem Sep.st5 {A0 A1 A2 A3 A4 : Asr} {i z o : Nat} {c vs : List Value} {K : Heap → Prop} (h : Sep H (A0 :: A1 :: A2 :: A3 :: A4 :: bx i (.cells true z c) :: L)) (hl : o + vs.length ≤ c.length) (r : ∀ H', Sep H' (A0 :: A1 :: A2 :: A3 :: A4 :: bx i (.cells true z (setAt c o vs)) :: L) → K H') : stc H i o vs K := Sep.st h 5 rfl hl r
theorem Sep.put5 {A0 A1 A2 A3 A4 : Asr} {i : Nat} {x : Obj} (h : Sep H (A0 :: A1 :: A2 :: A3 :: A4 :: bx i x :: L)) (y : Obj) : Sep (H.set i y) (A0 :: A1 :: A2 :: A3 :: A4 :: bx i y :: L) := Sep.set h 5 y rfl
theorem Sep.one5 {A0 A1 A2 A3 A4 : Asr} {A : Asr} (h : Sep H (A0 :: A1 :: A2 :: A3 :: A4 :: A :: L)) : A.holds H := Sep.one h 5 rfl
theorem Sep.ld6 {A0 A1 A2 A3 A4 A5 : Asr} {i z o : Nat} {w : Bool} {c : List Value} {v : Value} (h : Sep H (A0 :: A1 :: A2 :: A3 :: A4 :: A5 :: bx i (.cells w z c) :: L)) (hv : c[o]? = some v) : H.cell i o = some v := Sep.ld h 6 rfl hv
theorem Sep.lds6 {A0 A1 A2 A3 A4 A5 : Asr} {i z o n : Nat} {w : Bool} {c : List Value} {v : List Value} (h : Sep H (A0 :: A1 :: A2 :: A3 :: A4 :: A5 :: bx i (.cells w z c) :: L)) (hv : takeAt c o n = some v) : H.cellsAt i o n = some v := Sep.lds h 6 rfl hv
theorem Sep.get6 {A0 A1 A2 A3 A4 A5 : Asr} {i : Nat} {x : Obj} (h : Sep H (A0 :: A1 :: A2 :: A3 :: A4 :: A5 :: bx i x :: L)) : H.get i = some x := Sep.get h 6 rfl
theorem Sep.st6 {A0 A1 A2 A3 A4 A5 : Asr} {i z o : Nat} {c vs : List Value} {K : Heap → Prop} (h : Sep H (A0 :: A1 :: A2 :: A3 :: A4 :: A5 :: bx i (.cells true z c) :: L)) (hl : o + vs.length ≤ c.length) (r : ∀ H', Sep H' (A0 :: A1 :: A2 :: A3 :: A4 :: A5 :: bx i (.cells true z (setAt c o vs)) :: L) → K H') : stc H i o vs K := Sep.st h 6 rfl hl r
theorem Sep.put6 {A0 A1 A2 A3 A4 A5 : Asr} {i : Nat} {x : Obj} (h : Sep H (A0 :: A1 :: A2 :: A3 :: A4 :: A5 :: bx i x :: L)) (y : Obj) : Sep (H.set i y) (A0 :: A1 :: A2 :: A3 :: A4 :: A5 :: bx i y :: L) := Sep.set h 6 y rfl
theorem Sep.one6 {A0 A1 A2 A3 A4 A5 : Asr} {A : Asr} (h : Sep H (A0 :: A1 :: A2 :: A3 :: A4 :: A5 :: A :: L)) : A.holds H := Sep.one h 6 rfl
theorem Sep.ld7 {A0 A1 A2 A3 A4 A5 A6 : Asr} {i z o : Nat} {w : Bool} {c : List Value} {v : Value} (h : Sep H (A0 :: A1 :: A2 :: A3 :: A4 :: A5 :: A6 :: bx i (.cells w z c) :: L)) (hv : c[o]? = some v) : H.cell i o = some v := Sep.ld h 7 rfl hv
theorem Sep.lds7 {A0 A1 A2 A3 A4 A5 A6 : Asr} {i z o n : Nat} {w : Bool} {c : List Value} {v : List Value} (h : Sep H (A0 :: A1 :: A2 :: A3 :: A4 :: A5 :: A6 :: bx i (.cells w z c) :: L)) (hv : takeAt c o n = some v) : H.cellsAt i o n = some v := Sep.lds h 7 rfl hv
theorem Sep.get7 {A0 A1 A2 A3 A4 A5 A6 : Asr} {i : Nat} {x : Obj} (h : Sep H (A0 :: A1 :: A2 :: A3 :: A4 :: A5 :: A6 :: bx i x :: L)) : H.get i = some x := Sep.get h 7 rfl
theorem Sep.st7 {A0 A1 A2 A3 A4 A5 A6 : Asr} {i z o : Nat} {c vs : List Value} {K : Heap → Prop} (h : Sep H (A0 :: A1 :: A2 :: A3 :: A4 :: A5 :: A6 :: bx i (.cells true z c) :: L)) (hl : o + vs.length ≤ c.length) (r : ∀ H', Sep H' (A0 :: A1 :: A2 :: A3 :: A4 :: A5 :: A6 :: bx i (.cells true z (setAt c o vs)) :: L) → K H') : stc H i o vs K := Sep.st h 7 rfl hl r
theorem Sep.put7 {A0 A1 A2 A3 A4 A5 A6 : Asr} {i : Nat} {x : Obj} (h : Sep H (A0 :: A1 :: A2 :: A3 :: A4 :: A5 :: A6 :: bx i x :: L)) (y : Obj) : Sep (H.set i y) (A0 :: A1 :: A2 :: A3 :: A4 :: A5 :: A6 :: bx i y :: L) := Sep.set h 7 y rfl
theorem Sep.one7 {A0 A1 A2 A3 A4 A5 A6 : Asr} {A : Asr} (h : Sep H (A0 :: A1 :: A2 :: A3 :: A4 :: A5 :: A6 :: A :: L)) : A.holds H := Sep.one h 7 rfl
theorem Sep.ld8 {A0 A1 A2 A3 A4 A5 A6 A7 : Asr} {i z o : Nat} {w : Bool} {c : List Value} {v : Value} (h : Sep H (A0 :: A1 :: A2 :: A3 :: A4 :: A5 :: A6 :: A7 :: bx i (.cells w z c) :: L)) (hv : c[o]? = some v) : H.cell i o = some v := Sep.ld h 8 rfl hv
theorem Sep.lds8 {A0 A1 A2 A3 A4 A5 A6 A7 : Asr} {i z o n : Nat} {w : Bool} {c : List Value} {v : List Value} (h : Sep H (A0 :: A1 :: A2 :: A3 :: A4 :: A5 :: A6 :: A7 :: bx i (.cells w z c) :: L)) (hv : takeAt c o n = some v) : H.cellsAt i o n = some v := Sep.lds h 8 rfl hv
theorem Sep.get8 {A0 A1 A2 A3 A4 A5 A6 A7 : Asr} {i : Nat} {x : Obj} (h : Sep H (A0 :: A1 :: A2 :: A3 :: A4 :: A5 :: A6 :: A7 :: bx i x :: L)) : H.get i = some x := Sep.get h 8 rfl
theorem Sep.st8 {A0 A1 A2 A3 A4 A5 A6 A7 : Asr} {i z o : Nat} {c vs : List Value} {K : Heap → Prop} (h : Sep H (A0 :: A1 :: A2 :: A3 :: A4 :: A5 :: A6 :: A7 :: bx i (.cells true z c) :: L)) (hl : o + vs.length ≤ c.length) (r : ∀ H', Sep H' (A0 :: A1 :: A2 :: A3 :: A4 :: A5 :: A6 :: A7 :: bx i (.cells true z (setAt c o vs)) :: L) → K H') : stc H i o vs K := Sep.st h 8 rfl hl r
theorem Sep.put8 {A0 A1 A2 A3 A4 A5 A6 A7 : Asr} {i : Nat} {x : Obj} (h : Sep H (A0 :: A1 :: A2 :: A3 :: A4 :: A5 :: A6 :: A7 :: bx i x :: L)) (y : Obj) : Sep (H.set i y) (A0 :: A1 :: A2 :: A3 :: A4 :: A5 :: A6 :: A7 :: bx i y :: L) := Sep.set h 8 y rfl
theorem Sep.one8 {A0 A1 A2 A3 A4 A5 A6 A7 : Asr} {A : Asr} (h : Sep H (A0 :: A1 :: A2 :: A3 :: A4 :: A5 :: A6 :: A7 :: A :: L)) : A.holds H := Sep.one h 8 rfl
theorem Sep.ld9 {A0 A1 A2 A3 A4 A5 A6 A7 A8 : Asr} {i z o : Nat} {w : Bool} {c : List Value} {v : Value} (h : Sep H (A0 :: A1 :: A2 :: A3 :: A4 :: A5 :: A6 :: A7 :: A8 :: bx i (.cells w z c) :: L)) (hv : c[o]? = some v) : H.cell i o = some v := Sep.ld h 9 rfl hv
theorem Sep.lds9 {A0 A1 A2 A3 A4 A5 A6 A7 A8 : Asr} {i z o n : Nat} {w : Bool} {c : List Value} {v : List Value} (h : Sep H (A0 :: A1 :: A2 :: A3 :: A4 :: A5 :: A6 :: A7 :: A8 :: bx i (.cells w z c) :: L)) (hv : takeAt c o n = some v) : H.cellsAt i o n = some v := Sep.lds h 9 rfl hv
theorem Sep.get9 {A0 A1 A2 A3 A4 A5 A6 A7 A8 : Asr} {i : Nat} {x : Obj} (h : Sep H (A0 :: A1 :: A2 :: A3 :: A4 :: A5 :: A6 :: A7 :: A8 :: bx i x :: L)) : H.get i = some x := Sep.get h 9 rfl
theorem Sep.st9 {A0 A1 A2 A3 A4 A5 A6 A7 A8 : Asr} {i z o : Nat} {c vs : List Value} {K : Heap → Prop} (h : Sep H (A0 :: A1 :: A2 :: A3 :: A4 :: A5 :: A6 :: A7 :: A8 :: bx i (.cells true z c) :: L)) (hl : o + vs.length ≤ c.length) (r : ∀ H', Sep H' (A0 :: A1 :: A2 :: A3 :: A4 :: A5 :: A6 :: A7 :: A8 :: bx i (.cells true z (setAt c o vs)) :: L) → K H') : stc H i o vs K := Sep.st h 9 rfl hl r
theorem Sep.put9 {A0 A1 A2 A3 A4 A5 A6 A7 A8 : Asr} {i : Nat} {x : Obj} (h : Sep H (A0 :: A1 :: A2 :: A3 :: A4 :: A5 :: A6 :: A7 :: A8 :: bx i x :: L)) (y : Obj) : Sep (H.set i y) (A0 :: A1 :: A2 :: A3 :: A4 :: A5 :: A6 :: A7 :: A8 :: bx i y :: L) := Sep.set h 9 y rfl
theorem Sep.one9 {A0 A1 A2 A3 A4 A5 A6 A7 A8 : Asr} {A : Asr} (h : Sep H (A0 :: A1 :: A2 :: A3 :: A4 :: A5 :: A6 :: A7 :: A8 :: A :: L)) : A.holds H := Sep.one h 9 rfl
theorem Sep.ld10 {A0 A1 A2 A3 A4 A5 A6 A7 A8 A9 : Asr} {i z o : Nat} {w : Bool} {c : List Value} {v : Value} (h : Sep H (A0 :: A1 :: A2 :: A3 :: A4 :: A5 :: A6 :: A7 :: A8 :: A9 :: bx i (.cells w z c) :: L)) (hv : c[o]? = some v) : H.cell i o = some v := Sep.ld h 10 rfl hv
theorem Sep.lds10 {A0 A1 A2 A3 A4 A5 A6 A7 A8 A9 : Asr} {i z o n : Nat} {w : Bool} {c : List Value} {v : List Value} (h : Sep H (A0 :: A1 :: A2 :: A3 :: A4 :: A5 :: A6 :: A7 :: A8 :: A9 :: bx i (.cells w z c) :: L)) (hv : takeAt c o n = some v) : H.cellsAt i o n = some v := Sep.lds h 10 rfl hv
theorem Sep.get10 {A0 A1 A2 A3 A4 A5 A6 A7 A8 A9 : Asr} {i : Nat} {x : Obj} (h : Sep H (A0 :: A1 :: A2 :: A3 :: A4 :: A5 :: A6 :: A7 :: A8 :: A9 :: bx i x :: L)) : H.get i = some x := Sep.get h 10 rfl
theorem Sep.st10 {A0 A1 A2 A3 A4 A5 A6 A7 A8 A9 : Asr} {i z o : Nat} {c vs : List Value} {K : Heap → Prop} (h : Sep H (A0 :: A1 :: A2 :: A3 :: A4 :: A5 :: A6 :: A7 :: A8 :: A9 :: bx i (.cells true z c) :: L)) (hl : o + vs.length ≤ c.length) (r : ∀ H', Sep H' (A0 :: A1 :: A2 :: A3 :: A4 :: A5 :: A6 :: A7 :: A8 :: A9 :: bx i (.cells true z (setAt c o vs)) :: L) → K H') : stc H i o vs K := Sep.st h 10 rfl hl r
theorem Sep.put10 {A0 A1 A2 A3 A4 A5 A6 A7 A8 A9 : Asr} {i : Nat} {x : Obj} (h : Sep H (A0 :: A1 :: A2 :: A3 :: A4 :: A5 :: A6 :: A7 :: A8 :: A9 :: bx i x :: L)) (y : Obj) : Sep (H.set i y) (A0 :: A1 :: A2 :: A3 :: A4 :: A5 :: A6 :: A7 :: A8 :: A9 :: bx i y :: L) := Sep.set h 10 y rfl
theorem Sep.one10 {A0 A1 A2 A3 A4 A5 A6 A7 A8 A9 : Asr} {A : Asr} (h : Sep H (A0 :: A1 :: A2 :: A3 :: A4 :: A5 :: A6 :: A7 :: A8 :: A9 :: A :: L)) : A.holds H := Sep.one h 10 rfl
theorem Sep.ld11 {A0 A1 A2 A3 A4 A5 A6 A7 A8 A9 A10 : Asr} {i z o : Nat} {w : Bool} {c : List Value} {v : Value} (h : Sep H (A0 :: A1 :: A2 :: A3 :: A4 :: A5 :: A6 :: A7 :: A8 :: A9 :: A10 :: bx i (.cells w z c) :: L)) (hv : c[o]? = some v) : H.cell i o = some v := Sep.ld h 11 rfl hv
theorem Sep.lds11 {A0 A1 A2 A3 A4 A5 A6 A7 A8 A9 A10 : Asr} {i z o n : Nat} {w : Bool} {c : List Value} {v : List Value} (h : Sep H (A0 :: A1 :: A2 :: A3 :: A4 :: A5 :: A6 :: A7 :: A8 :: A9 :: A10 :: bx i (.cells w z c) :: L)) (hv : takeAt c o n = some v) : H.cellsAt i o n = some v := Sep.lds h 11 rfl hv
theorem Sep.get11 {A0 A1 A2 A3 A4 A5 A6 A7 A8 A9 A10 : Asr} {i : Nat} {x : Obj} (h : Sep H (A0 :: A1 :: A2 :: A3 :: A4 :: A5 :: A6 :: A7 :: A8 :: A9 :: A10 :: bx i x :: L)) : H.get i = some x := Sep.get h 11 rfl
theorem Sep.st11 {A0 A1 A2 A3 A4 A5 A6 A7 A8 A9 A10 : Asr} {i z o : Nat} {c vs : List Value} {K : Heap → Prop} (h : Sep H (A0 :: A1 :: A2 :: A3 :: A4 :: A5 :: A6 :: A7 :: A8 :: A9 :: A10 :: bx i (.cells true z c) :: L)) (hl : o + vs.length ≤ c.length) (r : ∀ H', Sep H' (A0 :: A1 :: A2 :: A3 :: A4 :: A5 :: A6 :: A7 :: A8 :: A9 :: A10 :: bx i (.cells true z (setAt c o vs)) :: L) → K H') : stc H i o vs K := Sep.st h 11 rfl hl r
theorem Sep.put11 {A0 A1 A2 A3 A4 A5 A6 A7 A8 A9 A10 : Asr} {i : Nat} {x : Obj} (h : Sep H (A0 :: A1 :: A2 :: A3 :: A4 :: A5 :: A6 :: A7 :: A8 :: A9 :: A10 :: bx i x :: L)) (y : Obj) : Sep (H.set i y) (A0 :: A1 :: A2 :: A3 :: A4 :: A5 :: A6 :: A7 :: A8 :: A9 :: A10 :: bx i y :: L) := Sep.set h 11 y rfl
theorem Sep.one11 {A0 A1 A2 A3 A4 A5 A6 A7 A8 A9 A10 : Asr} {A : Asr} (h : Sep H (A0 :: A1 :: A2 :: A3 :: A4 :: A5 :: A6 :: A7 :: A8 :: A9 :: A10 :: A :: L)) : A.holds H := Sep.one h 11 rfl
theorem Sep.ld12 {A0 A1 A2 A3 A4 A5 A6 A7 A8 A9 A10 A11 : Asr} {i z o : Nat} {w : Bool} {c : List Value} {v : Value} (h : Sep H (A0 :: A1 :: A2 :: A3 :: A4 :: A5 :: A6 :: A7 :: A8 :: A9 :: A10 :: A11 :: bx i (.cells w z c) :: L)) (hv : c[o]? = some v) : H.cell i o = some v := Sep.ld h 12 rfl hv
theorem Sep.lds12 {A0 A1 A2 A3 A4 A5 A6 A7 A8 A9 A10 A11 : Asr} {i z o n : Nat} {w : Bool} {c : List Value} {v : List Value} (h : Sep H (A0 :: A1 :: A2 :: A3 :: A4 :: A5 :: A6 :: A7 :: A8 :: A9 :: A10 :: A11 :: bx i (.cells w z c) :: L)) (hv : takeAt c o n = some v) : H.cellsAt i o n = some v := Sep.lds h 12 rfl hv
theorem Sep.get12 {A0 A1 A2 A3 A4 A5 A6 A7 A8 A9 A10 A11 : Asr} {i : Nat} {x : Obj} (h : Sep H (A0 :: A1 :: A2 :: A3 :: A4 :: A5 :: A6 :: A7 :: A8 :: A9 :: A10 :: A11 :: bx i x :: L)) : H.get i = some x := Sep.get h 12 rfl
theorem Sep.st12 {A0 A1 A2 A3 A4 A5 A6 A7 A8 A9 A10 A11 : Asr} {i z o : Nat} {c vs : List Value} {K : Heap → Prop} (h : Sep H (A0 :: A1 :: A2 :: A3 :: A4 :: A5 :: A6 :: A7 :: A8 :: A9 :: A10 :: A11 :: bx i (.cells true z c) :: L)) (hl : o + vs.length ≤ c.length) (r : ∀ H', Sep H' (A0 :: A1 :: A2 :: A3 :: A4 :: A5 :: A6 :: A7 :: A8 :: A9 :: A10 :: A11 :: bx i (.cells true z (setAt c o vs)) :: L) → K H') : stc H i o vs K := Sep.st h 12 rfl hl r
theorem Sep.put12 {A0 A1 A2 A3 A4 A5 A6 A7 A8 A9 A10 A11 : Asr} {i : Nat} {x : Obj} (h : Sep H (A0 :: A1 :: A2 :: A3 :: A4 :: A5 :: A6 :: A7 :: A8 :: A9 :: A10 :: A11 :: bx i x :: L)) (y : Obj) : Sep (H.set i y) (A0 :: A1 :: A2 :: A3 :: A4 :: A5 :: A6 :: A7 :: A8 :: A9 :: A10 :: A11 :: bx i y :: L) := Sep.set h 12 y rfl
theorem Sep.one12 {A0 A1 A2 A3 A4 A5 A6 A7 A8 A9 A10 A11 : Asr} {A : Asr} (h : Sep H (A0 :: A1 :: A2 :: A3 :: A4 :: A5 :: A6 :: A7 :: A8 :: A9 :: A10 :: A11 :: A :: L)) : A.holds H := Sep.one h 12 rfl
theorem Sep.ld13 {A0 A1 A2 A3 A4 A5 A6 A7 A8 A9 A10 A11 A12 : Asr} {i z o : Nat} {w : Bool} {c : List Value} {v : Value} (h : Sep H (A0 :: A1 :: A2 :: A3 :: A4 :: A5 :: A6 :: A7 :: A8 :: A9 :: A10 :: A11 :: A12 :: bx i (.cells w z c) :: L)) (hv : c[o]? = some v) : H.cell i o = some v := Sep.ld h 13 rfl hv
theorem Sep.lds13 {A0 A1 A2 A3 A4 A5 A6 A7 A8 A9 A10 A11 A12 : Asr} {i z o n : Nat} {w : Bool} {c : List Value} {v : List Value} (h : Sep H (A0 :: A1 :: A2 :: A3 :: A4 :: A5 :: A6 :: A7 :: A8 :: A9 :: A10 :: A11 :: A12 :: bx i (.cells w z c) :: L)) (hv : takeAt c o n = some v) : H.cellsAt i o n = some v := Sep.lds h 13 rfl hv
theorem Sep.get13 {A0 A1 A2 A3 A4 A5 A6 A7 A8 A9 A10 A11 A12 : Asr} {i : Nat} {x : Obj} (h : Sep H (A0 :: A1 :: A2 :: A3 :: A4 :: A5 :: A6 :: A7 :: A8 :: A9 :: A10 :: A11 :: A12 :: bx i x :: L)) : H.get i = some x := Sep.get h 13 rfl
theorem Sep.st13 {A0 A1 A2 A3 A4 A5 A6 A7 A8 A9 A10 A11 A12 : Asr} {i z o : Nat} {c vs : List Value} {K : Heap → Prop} (h : Sep H (A0 :: A1 :: A2 :: A3 :: A4 :: A5 :: A6 :: A7 :: A8 :: A9 :: A10 :: A11 :: A12 :: bx i (.cells true z c) :: L)) (hl : o + vs.length ≤ c.length) (r : ∀ H', Sep H' (A0 :: A1 :: A2 :: A3 :: A4 :: A5 :: A6 :: A7 :: A8 :: A9 :: A10 :: A11 :: A12 :: bx i (.cells true z (setAt c o vs)) :: L) → K H') : stc H i o vs K := Sep.st h 13 rfl hl r
theorem Sep.put13 {A0 A1 A2 A3 A4 A5 A6 A7 A8 A9 A10 A11 A12 : Asr} {i : Nat} {x : Obj} (h : Sep H (A0 :: A1 :: A2 :: A3 :: A4 :: A5 :: A6 :: A7 :: A8 :: A9 :: A10 :: A11 :: A12 :: bx i x :: L)) (y : Obj) : Sep (H.set i y) (A0 :: A1 :: A2 :: A3 :: A4 :: A5 :: A6 :: A7 :: A8 :: A9 :: A10 :: A11 :: A12 :: bx i y :: L) := Sep.set h 13 y rfl
theorem Sep.one13 {A0 A1 A2 A3 A4 A5 A6 A7 A8 A9 A10 A11 A12 : Asr} {A : Asr} (h : Sep H (A0 :: A1 :: A2 :: A3 :: A4 :: A5 :: A6 :: A7 :: A8 :: A9 :: A10 :: A11 :: A12 :: A :: L)) : A.holds H := Sep.one h 13 rfl
theorem Sep.ld14 {A0 A1 A2 A3 A4 A5 A6 A7 A8 A9 A10 A11 A12 A13 : Asr} {i z o : Nat} {w : Bool} {c : List Value} {v : Value} (h : Sep H (A0 :: A1 :: A2 :: A3 :: A4 :: A5 :: A6 :: A7 :: A8 :: A9 :: A10 :: A11 :: A12 :: A13 :: bx i (.cells w z c) :: L)) (hv : c[o]? = some v) : H.cell i o = some v := Sep.ld h 14 rfl hv
theorem Sep.lds14 {A0 A1 A2 A3 A4 A5 A6 A7 A8 A9 A10 A11 A12 A13 : Asr} {i z o n : Nat} {w : Bool} {c : List Value} {v : List Value} (h : Sep H (A0 :: A1 :: A2 :: A3 :: A4 :: A5 :: A6 :: A7 :: A8 :: A9 :: A10 :: A11 :: A12 :: A13 :: bx i (.cells w z c) :: L)) (hv : takeAt c o n = some v) : H.cellsAt i o n = some v := Sep.lds h 14 rfl hv
theorem Sep.get14 {A0 A1 A2 A3 A4 A5 A6 A7 A8 A9 A10 A11 A12 A13 : Asr} {i : Nat} {x : Obj} (h : Sep H (A0 :: A1 :: A2 :: A3 :: A4 :: A5 :: A6 :: A7 :: A8 :: A9 :: A10 :: A11 :: A12 :: A13 :: bx i x :: L)) : H.get i = some x := Sep.get h 14 rfl
theorem Sep.st14 {A0 A1 A2 A3 A4 A5 A6 A7 A8 A9 A10 A11 A12 A13 : Asr} {i z o : Nat} {c vs : List Value} {K : Heap → Prop} (h : Sep H (A0 :: A1 :: A2 :: A3 :: A4 :: A5 :: A6 :: A7 :: A8 :: A9 :: A10 :: A11 :: A12 :: A13 :: bx i (.cells true z c) :: L)) (hl : o + vs.length ≤ c.length) (r : ∀ H', Sep H' (A0 :: A1 :: A2 :: A3 :: A4 :: A5 :: A6 :: A7 :: A8 :: A9 :: A10 :: A11 :: A12 :: A13 :: bx i (.cells true z (setAt c o vs)) :: L) → K H') : stc H i o vs K := Sep.st h 14 rfl hl r
theorem Sep.put14 {A0 A1 A2 A3 A4 A5 A6 A7 A8 A9 A10 A11 A12 A13 : Asr} {i : Nat} {x : Obj} (h : Sep H (A0 :: A1 :: A2 :: A3 :: A4 :: A5 :: A6 :: A7 :: A8 :: A9 :: A10 :: A11 :: A12 :: A13 :: bx i x :: L)) (y : Obj) : Sep (H.set i y) (A0 :: A1 :: A2 :: A3 :: A4 :: A5 :: A6 :: A7 :: A8 :: A9 :: A10 :: A11 :: A12 :: A13 :: bx i y :: L) := Sep.set h 14 y rfl
theorem Sep.one14 {A0 A1 A2 A3 A4 A5 A6 A7 A8 A9 A10 A11 A12 A13 : Asr} {A : Asr} (h : Sep H (A0 :: A1 :: A2 :: A3 :: A4 :: A5 :: A6 :: A7 :: A8 :: A9 :: A10 :: A11 :: A12 :: A13 :: A :: L)) : A.holds H := Sep.one h 14 rfl
end Go.AS
