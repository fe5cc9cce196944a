/-
  lruRuns.proved: part 8 of its proof. No condition.
  Written by a program out of the texts VcLt.
-/
import Derived.Test.YtjggeoghlicmdaaGreatLruRunsP7
set_option linter.unusedVariables false
namespace Go.Proofs.YtjggeoghlicmdaaGreat
open Go Go.AS Go.RowKit
section
set_option maxRecDepth 100000
set_option maxHeartbeats 2000000
noncomputable def L_crossbarlaw16_Big_0:Code:=loopAt Go.Proofs.Tryz.f59 0
theorem vc_crossbarlaw16_Big (x0_0:Int)(x0_1:Int)(x0_2:Int)(x0_3:Int)(x0_4:Int)(x1:Option Addr)(x1l:Nat)(x2:Option Addr)(x2l:Nat)(H:Heap)(R:Value->Heap->Prop) :
  (
 nwH H (.cells true 0 [(.int .i64 x0_0),(.int .i64 x0_1),(.int .i64 x0_2),(.int .i64 x0_3),(.int .i64 x0_4)]) λi1 H2=>
 LA en L_crossbarlaw16_Big_0 [(.agg #[(.int .i64 x0_0),(.int .i64 x0_1),(.int .i64 x0_2),(.int .i64 x0_3),(.int .i64 x0_4)]),(.slice x1 x1l 0),(.slice x2 x2l 0),(.pointer (some ⟨i1,0,none⟩)),undef,undef,(.bool false),(.int .i64 0),(.int .i64 0),undef,undef,undef,undef,undef,undef,undef,undef,undef,undef,undef,undef,undef,undef,undef,undef,undef,undef,undef,undef,undef,undef,undef,undef,undef,undef,undef,undef,undef,undef,undef,undef,undef,undef,undef,undef,undef,undef,undef,undef,undef] H2 [(X.exit 0,λ(y3:Fr)(H4:Heap)=>
 AS.asInt .i64 (y3.getD 7 undef) λn5=>
 ∃n6,∃n7,∃n8,∃n9,∃n10,H4.cellsAt i1 0 5=some [(.int .i64 n6),(.int .i64 n7),(.int .i64 n8),(.int .i64 n9),(.int .i64 n10)]/\
 nwH H4 (.cells true 5 [(.int .i64 n6),(.int .i64 n7),(.int .i64 n8),(.int .i64 n9),(.int .i64 n10)]) λi11 H12=>
 CA en F.decl_Check [(.slice (some ⟨i11,0,none⟩) 1 0)] H12 λv13 H14=>
 ∃n15,v13=(.int .i64 n15)/\
 bif (n15 !=0) then (
 R (.bool true) H14)
 else (
 ∃n16,H14.cell i1 0=some (.int .i64 n16)/\
 bif (n16 !=5) then (
 R (.bool true) H14)
 else (
 bif (decide (((x1l:Nat):Int)<1)) then (
 R (.bool true) H14)
 else (
 bif (decide (((x1l:Nat):Int)>4)) then (
 R (.bool true) H14)
 else (
 bif (decide (n5>80)) then (
 R (.bool true) H14)
 else (
 R (.bool (decide (((x2l:Nat):Int)>3000))) H14))))))])->
  CA en F.crossbarlaw16_Big [(.agg #[(.int .i64 x0_0),(.int .i64 x0_1),(.int .i64 x0_2),(.int .i64 x0_3),(.int .i64 x0_4)]),(.slice x1 x1l 0),(.slice x2 x2l 0)] H R:=by
 intro h;refine wpFn_ok (Z:=[[(7,(.int .i64 0))]]) (fn:=Go.Proofs.Tryz.f59) ?_ ?_ ?_
 ·kernel_rfl
 ·kernel_rfl
 ·apply turnInto h
  kernel_rfl
theorem use_crossbarlaw16_Big_0 {t0_0:Int}{t0_1:Int}{t0_2:Int}{t0_3:Int}{t0_4:Int}{t1:Option Addr}{t1l:Nat}{t2:Option Addr}{t2l:Nat}{t3:Nat}{K0:Fr->Heap->Prop}{t7:Int}{t8:Int}{t9:Value}{t10:Value}{t11:Value}{t12:Value}{t13:Value}{t14:Value}{t15:Value}{t16:Value}{t17:Value}{t18:Value}{t19:Value}{t20:Value}{t21:Value}{H:Heap}(I:Nat->Int->Int->Heap->Prop)(n:Nat)(h0:I n t7 t8 H)
  (hstep:∀(n:Nat)(t7:Int)(t8:Int)(ys:Fr)(H:Heap),I n t7 t8 H->
  (
 bif (decide (t8<((t1l:Nat):Int))) then (
 inB t8 t1l/\
 asRow t1 λi1 i2=>
 ∃a3 i4,H.cell i1 (i2+(t8.toNat*1))=some (.slice a3 i4 0)/\
 ∃k5,k5<n/\
 I k5 (IntKind.i64.wrap (t7+((i4:Nat):Int))) (IntKind.i64.wrap (t8+1)) H)
 else (
 K0 [(.agg #[(.int .i64 t0_0),(.int .i64 t0_1),(.int .i64 t0_2),(.int .i64 t0_3),(.int .i64 t0_4)]),(.slice t1 t1l 0),(.slice t2 t2l 0),(.pointer (some ⟨t3,0,none⟩)),undef,undef,(.bool false),(.int .i64 t7),(.int .i64 t8),(.int .i64 t8),(.slice t1 t1l 0),(.int .i64 ((t1l:Nat):Int)),(.bool false),(ys.getD 13 undef),(ys.getD 14 undef),(ys.getD 15 undef),(ys.getD 16 undef),(ys.getD 17 undef),(ys.getD 18 undef),(ys.getD 19 undef),(ys.getD 20 undef),(ys.getD 21 undef),undef,undef,undef,undef,undef,undef,undef,undef,undef,undef,undef,undef,undef,undef,undef,undef,undef,undef,undef,undef,undef,undef,undef,undef,undef,undef,undef,undef] H))) :
  LA en L_crossbarlaw16_Big_0 [(.agg #[(.int .i64 t0_0),(.int .i64 t0_1),(.int .i64 t0_2),(.int .i64 t0_3),(.int .i64 t0_4)]),(.slice t1 t1l 0),(.slice t2 t2l 0),(.pointer (some ⟨t3,0,none⟩)),undef,undef,(.bool false),(.int .i64 t7),(.int .i64 t8),t9,t10,t11,t12,t13,t14,t15,t16,t17,t18,t19,t20,t21,undef,undef,undef,undef,undef,undef,undef,undef,undef,undef,undef,undef,undef,undef,undef,undef,undef,undef,undef,undef,undef,undef,undef,undef,undef,undef,undef,undef] H [(X.exit 0,K0)]:=by
 refine LA_rule (Z:=[]) (λm xs H'=>AS.asInt .i64 (xs.getD 7 undef) λt7=>AS.asInt .i64 (xs.getD 8 undef) λt8=>I m t7 t8 H') ?_ n H ?_
 ·intro n H
  suffices hs:∀s9:Value,∀s10:Value,∀s11:Value,∀s12:Value,∀s15:Value,∀s16:Value,∀s17:Value,∀s18:Value,∀s19:Value,∀s20:Value,∀s21:Value,∀s7:Value,∀s13:Value,∀s14:Value,∀s8:Value,((AS.asInt .i64 s7 λt7=>AS.asInt .i64 s8 λt8=>I n t7 t8 H)->wpCode en L_crossbarlaw16_Big_0 [] [(.agg #[(.int .i64 t0_0),(.int .i64 t0_1),(.int .i64 t0_2),(.int .i64 t0_3),(.int .i64 t0_4)]),(.slice t1 t1l 0),(.slice t2 t2l 0),(.pointer (some ⟨t3,0,none⟩)),undef,undef,(.bool false),s7,s8,s9,s10,s11,s12,s13,s14,s15,s16,s17,s18,s19,s20,s21,undef,undef,undef,undef,undef,undef,undef,undef,undef,undef,undef,undef,undef,undef,undef,undef,undef,undef,undef,undef,undef,undef,undef,undef,undef,undef,undef,undef] H (loopQ (λm xs H'=>AS.asInt .i64 (xs.getD 7 undef) λt7=>AS.asInt .i64 (xs.getD 8 undef) λt8=>I m t7 t8 H') n [(X.exit 0,K0)])) by
   apply turnInto hs
   kernel_rfl
  intro s9 s10 s11 s12 s15 s16 s17 s18 s19 s20 s21 s7 s13 s14 s8 hP;replace hP:=asInt_elim hP;obtain ⟨t7,rfl,hP⟩:=hP;replace hP:=asInt_elim hP;obtain ⟨t8,rfl,hP⟩:=hP;apply turnInto (hstep n t7 t8 [(.agg #[(.int .i64 t0_0),(.int .i64 t0_1),(.int .i64 t0_2),(.int .i64 t0_3),(.int .i64 t0_4)]),(.slice t1 t1l 0),(.slice t2 t2l 0),(.pointer (some ⟨t3,0,none⟩)),undef,undef,(.bool false),(.int .i64 t7),(.int .i64 t8),s9,s10,s11,s12,s13,s14,s15,s16,s17,s18,s19,s20,s21,undef,undef,undef,undef,undef,undef,undef,undef,undef,undef,undef,undef,undef,undef,undef,undef,undef,undef,undef,undef,undef,undef,undef,undef,undef,undef,undef,undef] H hP);kernel_rfl
 ·apply turnInto h0
  kernel_rfl
theorem vc_crossbarlaw16_begin (x0_0 : Int) (x0_1 : Int) (x0_2 : Int) (x0_3 : Int) (x0_4 : Int) (x1 : Option Addr) (x1l : Nat) (x2 : Int) (H : Heap) (R : Value → Heap → Prop) :
    (
 nwH H (.cells true 0 [(.int .i64 x0_0), (.int .i64 x0_1), (.int .i64 x0_2), (.int .i64 x0_3), (.int .i64 x0_4)]) fun i1 H2 =>
 CA en F.crossbarkit_Cut [(.int .i64 x2), (.int .i64 0), (.int .i64 8192)] H2 fun v3 H4 =>
 ∃ n5, v3 = (.int .i64 n5) ∧
 CA en F.smem_New [(.int .i64 (IntKind.i64.wrap (16 + n5)))] H4 fun v6 H7 =>
 ∃ a8, v6 = (.pointer a8) ∧
 bif a8.isNone then (
 R (.pointer none) H7)
 else (
 CA en F.grace_New [(.int .i64 ((x1l : Nat) : Int)), (.pointer a8)] H7 fun v9 H10 =>
 ∃ a11, v9 = (.pointer a11) ∧
 ∃ n12, ∃ n13, ∃ n14, ∃ n15, ∃ n16, H10.cellsAt i1 0 5 = some [(.int .i64 n12), (.int .i64 n13), (.int .i64 n14), (.int .i64 n15), (.int .i64 n16)] ∧
 CA en F.lru_New [(.pointer a8), (.pointer a11), (.agg #[(.int .i64 n12), (.int .i64 n13), (.int .i64 n14), (.int .i64 n15), (.int .i64 n16)]), (.int .i64 1)] H10 fun v17 H18 =>
 ∃ a19, ∃ n20, v17 = (.tuple #[(.pointer a19), (.int .i64 n20)]) ∧
 bif (n20 != 0) then (
 R (.pointer none) H18)
 else (
 bif a19.isNone then (
 R (.pointer none) H18)
 else (
 bif a11.isNone then (
 R (.pointer none) H18)
 else (
 ∃ n21, ∃ n22, ∃ n23, ∃ n24, ∃ n25, (H18.bump 14).cellsAt i1 0 5 = some [(.int .i64 n21), (.int .i64 n22), (.int .i64 n23), (.int .i64 n24), (.int .i64 n25)] ∧
 CA en F.crossbarref16_New [(.agg #[(.int .i64 n21), (.int .i64 n22), (.int .i64 n23), (.int .i64 n24), (.int .i64 n25)])] (H18.bump 14) fun v26 H27 =>
 ∃ a28, v26 = (.pointer a28) ∧
 okLen 256 ((x1l : Nat) : Int) ((x1l : Nat) : Int) ∧
 CA en F.smem_Mem_Live [(.pointer a8)] (H27.set (H18.next + 8) (.cells true 24 (reps ((x1l : Nat) : Int).toNat [(.int .i64 0), (.int .i64 0), (.int .i64 0), (.int .i64 0), (.int .i64 0), (.int .u64 0), (.slice none 0 0), (.int .i64 0), (.int .i64 0), (.int .u64 0), (.pointer none), (.pointer none), (.int .i64 0), (.int .u64 0), (.slice none 0 0), (.int .i64 0), (.int .i64 0), (.bool false), (.int .i64 0), (.slice none 0 0), (.int .u64 0), (.int .i64 0), (.slice none 0 0), (.int .i64 0)]))) fun v29 H30 =>
 ∃ n31, v29 = (.int .i64 n31) ∧
 ∃ n32, ∃ n33, ∃ n34, ∃ n35, ∃ n36, (((H18.bump 14).set (H18.next + 8) (.cells true 24 (reps ((x1l : Nat) : Int).toNat [(.int .i64 0), (.int .i64 0), (.int .i64 0), (.int .i64 0), (.int .i64 0), (.int .u64 0), (.slice none 0 0), (.int .i64 0), (.int .i64 0), (.int .u64 0), (.pointer none), (.pointer none), (.int .i64 0), (.int .u64 0), (.slice none 0 0), (.int .i64 0), (.int .i64 0), (.bool false), (.int .i64 0), (.slice none 0 0), (.int .u64 0), (.int .i64 0), (.slice none 0 0), (.int .i64 0)]))).set (H18.next + 12) (.cells true 0 [(.pointer a8), (.pointer a11), (.pointer a19), (.pointer a28), (.slice x1 x1l 0), (.slice (some ⟨(H18.next + 8), 0, none⟩) ((x1l : Nat) : Int).toNat 0), (.slice none 0 0), (.slice none 0 0), (.int .i64 n31)])).cellsAt i1 0 5 = some [(.int .i64 n32), (.int .i64 n33), (.int .i64 n34), (.int .i64 n35), (.int .i64 n36)] ∧
 CA en F.crossbarref16_New [(.agg #[(.int .i64 n32), (.int .i64 n33), (.int .i64 n34), (.int .i64 n35), (.int .i64 n36)])] (((H18.bump 14).set (H18.next + 8) (.cells true 24 (reps ((x1l : Nat) : Int).toNat [(.int .i64 0), (.int .i64 0), (.int .i64 0), (.int .i64 0), (.int .i64 0), (.int .u64 0), (.slice none 0 0), (.int .i64 0), (.int .i64 0), (.int .u64 0), (.pointer none), (.pointer none), (.int .i64 0), (.int .u64 0), (.slice none 0 0), (.int .i64 0), (.int .i64 0), (.bool false), (.int .i64 0), (.slice none 0 0), (.int .u64 0), (.int .i64 0), (.slice none 0 0), (.int .i64 0)]))).set (H18.next + 12) (.cells true 0 [(.pointer a8), (.pointer a11), (.pointer a19), (.pointer a28), (.slice x1 x1l 0), (.slice (some ⟨(H18.next + 8), 0, none⟩) ((x1l : Nat) : Int).toNat 0), (.slice none 0 0), (.slice none 0 0), (.int .i64 n31)])) fun v37 H38 =>
 ∃ a39, v37 = (.pointer a39) ∧
 okLen 256 ((x1l : Nat) : Int) ((x1l : Nat) : Int) ∧
 CA en F.smem_Mem_Live [(.pointer a8)] H38 fun v40 H41 =>
 ∃ n42, v40 = (.int .i64 n42) ∧
 (
 R (.pointer (some ⟨(H18.next + 12), 0, none⟩)) H41) ∧
 ((∃ c43, H41.get (H18.next + 12) = some c43 ∧ sameObj (.cells true 0 [(.pointer a8), (.pointer a11), (.pointer a19), (.pointer a39), (.slice x1 x1l 0), (.slice (some ⟨(H18.next + 8), 0, none⟩) ((x1l : Nat) : Int).toNat 0), (.slice none 0 0), (.slice none 0 0), (.int .i64 n42)]) c43 = true) ∧ True) ∧
 ((okLen 256 ((x1l : Nat) : Int) ((x1l : Nat) : Int) ∧
 ∃ c46, (((H18.bump 14).set (H18.next + 8) (.cells true 24 (reps ((x1l : Nat) : Int).toNat [(.int .i64 0), (.int .i64 0), (.int .i64 0), (.int .i64 0), (.int .i64 0), (.int .u64 0), (.slice none 0 0), (.int .i64 0), (.int .i64 0), (.int .u64 0), (.pointer none), (.pointer none), (.int .i64 0), (.int .u64 0), (.slice none 0 0), (.int .i64 0), (.int .i64 0), (.bool false), (.int .i64 0), (.slice none 0 0), (.int .u64 0), (.int .i64 0), (.slice none 0 0), (.int .i64 0)]))).set (H18.next + 12) (.cells true 0 [(.pointer a8), (.pointer a11), (.pointer a19), (.pointer a28), (.slice x1 x1l 0), (.slice (some ⟨(H18.next + 8), 0, none⟩) ((x1l : Nat) : Int).toNat 0), (.slice none 0 0), (.slice none 0 0), (.int .i64 n31)])).get (H18.next + 8) = some c46 ∧ sameObj (.cells true 24 (reps ((x1l : Nat) : Int).toNat [(.int .i64 0), (.int .i64 0), (.int .i64 0), (.int .i64 0), (.int .i64 0), (.int .u64 0), (.slice none 0 0), (.int .i64 0), (.int .i64 0), (.int .u64 0), (.pointer none), (.pointer none), (.int .i64 0), (.int .u64 0), (.slice none 0 0), (.int .i64 0), (.int .i64 0), (.bool false), (.int .i64 0), (.slice none 0 0), (.int .u64 0), (.int .i64 0), (.slice none 0 0), (.int .i64 0)])) c46 = true) ∧ (okLen 256 ((x1l : Nat) : Int) ((x1l : Nat) : Int) ∧
 ∃ c45, H38.get (H18.next + 8) = some c45 ∧ sameObj (.cells true 24 (reps ((x1l : Nat) : Int).toNat [(.int .i64 0), (.int .i64 0), (.int .i64 0), (.int .i64 0), (.int .i64 0), (.int .u64 0), (.slice none 0 0), (.int .i64 0), (.int .i64 0), (.int .u64 0), (.pointer none), (.pointer none), (.int .i64 0), (.int .u64 0), (.slice none 0 0), (.int .i64 0), (.int .i64 0), (.bool false), (.int .i64 0), (.slice none 0 0), (.int .u64 0), (.int .i64 0), (.slice none 0 0), (.int .i64 0)])) c45 = true) ∧ (okLen 256 ((x1l : Nat) : Int) ((x1l : Nat) : Int) ∧
 ∃ c44, H41.get (H18.next + 8) = some c44 ∧ sameObj (.cells true 24 (reps ((x1l : Nat) : Int).toNat [(.int .i64 0), (.int .i64 0), (.int .i64 0), (.int .i64 0), (.int .i64 0), (.int .u64 0), (.slice none 0 0), (.int .i64 0), (.int .i64 0), (.int .u64 0), (.pointer none), (.pointer none), (.int .i64 0), (.int .u64 0), (.slice none 0 0), (.int .i64 0), (.int .i64 0), (.bool false), (.int .i64 0), (.slice none 0 0), (.int .u64 0), (.int .i64 0), (.slice none 0 0), (.int .i64 0)])) c44 = true) ∧ True) ∧
 ((((x1l : Nat) : Int) = ((x1l : Nat) : Int)) ∧ (((x1l : Nat) : Int) = ((x1l : Nat) : Int)) ∧ (((x1l : Nat) : Int) = ((x1l : Nat) : Int)) ∧ True) ∧
 True))))) →
    CA en F.crossbarlaw16_begin [(.agg #[(.int .i64 x0_0), (.int .i64 x0_1), (.int .i64 x0_2), (.int .i64 x0_3), (.int .i64 x0_4)]), (.slice x1 x1l 0), (.int .i64 x2)] H R := by
  intro h
  refine wpFn_ok (Z := []) (fn := Go.Proofs.Tryz.f60) ?_ ?_ ?_
  · kernel_rfl
  · kernel_rfl
  · apply turnInto h
    kernel_rfl
theorem vc_crossbarlaw16_side_step (x0:Option Addr)(x1:Int)(H:Heap)(R:Value->Heap->Prop) :
  (
 AS.asAddr (.pointer x0) λi1 i2=>
 ∃a3 i4,H.cell i1 (i2+5)=some (.slice a3 i4 0)/\
 inB x1 i4/\
 asRow a3 λi5 i6=>
 ∃J7:List Value->Heap->Prop,(
 ∃n8,H.cell i5 ((i6+(x1.toNat*24))+1)=some (.int .i64 n8)/\
 bif (n8==0) then (
 ∃n9,(H.bump 13).cell i5 (i6+(x1.toNat*24))=some (.int .i64 n9)/\
 AS.asAddr (.pointer x0) λi10 i11=>
 ∃a12 i13,(H.bump 13).cell i10 (i11+4)=some (.slice a12 i13 0)/\
 inB x1 i13/\
 asRow a12 λi14 i15=>
 ∃a16 i17,(H.bump 13).cell i14 (i15+(x1.toNat*1))=some (.slice a16 i17 0)/\
 (
 bif (decide (n9≥((i17:Nat):Int))) then (
 R (.bool true) (H.bump 13))
 else (
 CA en F.crossbarlaw16_side_start [(.pointer x0),(.int .i64 x1)] (H.bump 13) λv18 H19=>
 ∃b20,v18=(.bool b20)/\
 bif (!b20) then (
 R (.bool false) H19)
 else (
 J7 [] H19)))/\
 True)
 else (
 J7 [] H))/\
 ∀(ys21:Fr)(H22:Heap),J7 [] H22->
 AS.asAddr (.pointer x0) λi23 i24=>
 ∃a25,H22.cell i23 i24=some (.pointer a25)/\
 CA en F.smem_Mem_Count [(.pointer a25)] H22 λv26 H27=>
 ∃n28,v26=(.int .i64 n28)/\
 AS.asAddr (.pointer x0) λi29 i30=>
 ∃a31,H27.cell i29 i30=some (.pointer a31)/\
 CA en F.smem_Mem_Bad [(.pointer a31)] H27 λv32 H33=>
 ∃n34,v32=(.int .i64 n34)/\
 ∃J35:List Value->Heap->Prop,(
 ∃n36,H33.cell i5 ((i6+(x1.toNat*24))+1)=some (.int .i64 n36)/\
 bif (n36==1) then (
 CA en F.crossbarlaw16_side_runs [(.pointer x0),(.pointer (some ⟨i5,(i6+(x1.toNat*24)),none⟩))] H33 λv37 H38=>
 ∃b39,∃b40,v37=(.tuple #[(.bool b39),(.bool b40)])/\
 bif b39 then (
 stc H38 i5 ((i6+(x1.toNat*24))+1) [(.int .i64 6)] λH41=>
 ∃n42,H41.cell i5 ((i6+(x1.toNat*24))+3)=some (.int .i64 n42)/\
 bif (n42==3) then (
 ∃n43,H41.cell i5 ((i6+(x1.toNat*24))+18)=some (.int .i64 n43)/\
 bif (n43==0) then (
 stc H41 i5 ((i6+(x1.toNat*24))+1) [(.int .i64 5)] λH44=>
 ∃n45,H44.cell i5 (((i6+(x1.toNat*24))+18)+3)=some (.int .i64 n45)/\
 CA en F.crossbarlaw16_side_told [(.pointer x0),(.int .i64 n45)] H44 λv46 H47=>
 ∃n48,v46=(.int .i64 n48)/\
 stc H47 i5 ((i6+(x1.toNat*24))+23) [(.int .i64 n48)] λH49=>
 bif b40 then (
 ∃n50,H49.cell i5 ((i6+(x1.toNat*24))+23)=some (.int .i64 n50)/\
 J35 [(.bool (decide (n50>0)))] H49)
 else (
 J35 [(.bool false)] H49))
 else (
 J35 [(.bool b40)] H41))
 else (
 J35 [(.bool b40)] H41))
 else (
 J35 [(.bool b40)] H38))
 else (
 bif (n36==2) then (
 CA en F.crossbarlaw16_side_enters [(.pointer x0),(.pointer (some ⟨i5,(i6+(x1.toNat*24)),none⟩))] H33 λv51 H52=>
 ∃b53,v51=(.bool b53)/\
 J35 [(.bool b53)] H52)
 else (
 bif (n36==3) then (
 CA en F.crossbarlaw16_side_visits [(.pointer x0),(.pointer (some ⟨i5,(i6+(x1.toNat*24)),none⟩))] H33 λv54 H55=>
 ∃b56,v54=(.bool b56)/\
 J35 [(.bool b56)] H55)
 else (
 bif (n36==4) then (
 CA en F.crossbarlaw16_side_leaves [(.pointer x0),(.pointer (some ⟨i5,(i6+(x1.toNat*24)),none⟩))] H33 λv57 H58=>
 ∃b59,v57=(.bool b59)/\
 J35 [(.bool b59)] H58)
 else (
 bif (n36==5) then (
 CA en F.crossbarlaw16_side_cell [(.pointer x0),(.pointer (some ⟨i5,(i6+(x1.toNat*24)),none⟩))] H33 λv60 H61=>
 ∃b62,v60=(.bool b62)/\
 J35 [(.bool b62)] H61)
 else (
 J35 [(.bool true)] H33))))))/\
 ∀(ys63:Fr)(H64:Heap),∀b65,J35 [(.bool b65)] H64->
 ∃n66,H64.cell i5 ((i6+(x1.toNat*24))+1)=some (.int .i64 n66)/\
 bif (n66==6) then (
 CA en F.crossbarlaw16_side_finish [(.pointer x0),(.int .i64 x1)] H64 λv67 H68=>
 v67=undef/\
 bif b65 then (
 AS.asAddr (.pointer x0) λi69 i70=>
 ∃a71,H68.cell i69 i70=some (.pointer a71)/\
 CA en F.smem_Mem_Count [(.pointer a71)] H68 λv72 H73=>
 ∃n74,v72=(.int .i64 n74)/\
 bif (decide (n74<=(IntKind.i64.wrap (n28+1)))) then (
 AS.asAddr (.pointer x0) λi75 i76=>
 ∃a77,H73.cell i75 i76=some (.pointer a77)/\
 CA en F.smem_Mem_Bad [(.pointer a77)] H73 λv78 H79=>
 ∃n80,v78=(.int .i64 n80)/\
 R (.bool (n80==n34)) H79)
 else (
 R (.bool false) H73))
 else (
 R (.bool false) H68))
 else (
 bif b65 then (
 AS.asAddr (.pointer x0) λi81 i82=>
 ∃a83,H64.cell i81 i82=some (.pointer a83)/\
 CA en F.smem_Mem_Count [(.pointer a83)] H64 λv84 H85=>
 ∃n86,v84=(.int .i64 n86)/\
 bif (decide (n86<=(IntKind.i64.wrap (n28+1)))) then (
 AS.asAddr (.pointer x0) λi87 i88=>
 ∃a89,H85.cell i87 i88=some (.pointer a89)/\
 CA en F.smem_Mem_Bad [(.pointer a89)] H85 λv90 H91=>
 ∃n92,v90=(.int .i64 n92)/\
 R (.bool (n92==n34)) H91)
 else (
 R (.bool false) H85))
 else (
 R (.bool false) H64)))->
  CA en F.crossbarlaw16_side_step [(.pointer x0),(.int .i64 x1)] H R:=by
 intro h;refine wpFnC_ok (C:=[none,none,some [],none,none,none,none,none,none,none,none,none,some [(8,(.bool false))],none,none,none,none,none,none,none,none,none,none,none,none,none,none,none,none]) (Z:=[]) (fn:=Go.Proofs.Tryz.f61) ?_ ?_ ?_
 ·kernel_rfl
 ·kernel_rfl
 ·apply turnInto h
  kernel_rfl
noncomputable def L_crossbarlaw16_side_rest_0:Code:=loopAt Go.Proofs.Tryz.f62 0
noncomputable def L_crossbarlaw16_side_rest_1:Code:=loopAt Go.Proofs.Tryz.f62 1
theorem vc_crossbarlaw16_side_rest (x0:Option Addr)(x1:Int)(H:Heap)(R:Value->Heap->Prop) :
  (
 LA en L_crossbarlaw16_side_rest_0 [(.pointer x0),(.int .i64 x1),undef,undef,(.bool false),(.int .i64 0),undef,undef,undef,undef,undef,undef,undef,undef,undef,undef,undef,undef,undef,undef,undef,undef,undef,undef,undef,undef,undef,undef,undef,undef,undef,undef,undef,undef,undef,undef,undef,undef,undef,undef,undef,undef,undef,undef,undef,undef,undef,undef,undef,undef,undef,undef,undef,undef,undef,undef,undef,undef,undef,undef,undef,undef,undef,undef,undef,undef,undef,undef,undef,undef,undef,undef,undef,undef,undef,undef,undef,undef,undef,undef,undef,undef,undef,undef,undef] H [(X.exit 0,λ(y1:Fr)(H2:Heap)=>
 AS.asBool (y1.getD 4 undef) λb3=>
 R (.bool false) H2),
 (X.ret,λ(y4:Fr)(H5:Heap)=>
 AS.asBool (y4.getD 4 undef) λb6=>
 R (.bool b6) H5)])->
  CA en F.crossbarlaw16_side_rest [(.pointer x0),(.int .i64 x1)] H R:=by
 intro h;refine wpFn_ok (Z:=[[(4,(.bool false))],[(4,(.bool false)),(6,(.bool false))]]) (fn:=Go.Proofs.Tryz.f62) ?_ ?_ ?_
 ·kernel_rfl
 ·kernel_rfl
 ·apply turnInto h
  kernel_rfl
theorem use_crossbarlaw16_side_rest_0 {t0:Option Addr}{t1:Int}{K0:Fr->Heap->Prop}{K1:Fr->Heap->Prop}{t4:Bool}{t5:Int}{t6:Value}{t7:Value}{t8:Value}{t9:Value}{t10:Value}{t11:Value}{t12:Value}{t13:Value}{t14:Value}{t15:Value}{t16:Value}{t17:Value}{t18:Value}{t19:Value}{t20:Value}{t21:Value}{t22:Value}{t23:Value}{t24:Value}{t25:Value}{t26:Value}{t27:Value}{t28:Value}{t29:Value}{t30:Value}{t31:Value}{t32:Value}{t33:Value}{t34:Value}{t35:Value}{t36:Value}{t37:Value}{t38:Value}{t39:Value}{t40:Value}{t41:Value}{t42:Value}{t43:Value}{t44:Value}{t45:Value}{t46:Value}{t47:Value}{t48:Value}{t49:Value}{t50:Value}{t51:Value}{t52:Value}{t53:Value}{t54:Value}{t55:Value}{t56:Value}{t57:Value}{t58:Value}{t59:Value}{t60:Value}{t61:Value}{t62:Value}{t63:Value}{t64:Value}{t65:Value}{t66:Value}{t67:Value}{t68:Value}{t69:Value}{t70:Value}{t71:Value}{t72:Value}{t73:Value}{t74:Value}{t75:Value}{t76:Value}{t77:Value}{t78:Value}{t79:Value}{t80:Value}{t81:Value}{t82:Value}{t83:Value}{t84:Value}{H:Heap}(I:Nat->Bool->Int->Heap->Prop)(n:Nat)(h0:I n t4 t5 H)
  (hstep:∀(n:Nat)(t4:Bool)(t5:Int)(ys:Fr)(H:Heap),I n t4 t5 H->
  (
 bif (decide (t5<=t1)) then (
 LA en L_crossbarlaw16_side_rest_1 [(.pointer t0),(.int .i64 t1),undef,undef,(.bool t4),(.int .i64 t5),(.bool true),(.int .i64 0),(.int .i64 t5),(.int .i64 t1),(.bool true),(ys.getD 11 undef),(ys.getD 12 undef),(ys.getD 13 undef),(ys.getD 14 undef),(ys.getD 15 undef),(ys.getD 16 undef),(ys.getD 17 undef),(ys.getD 18 undef),(ys.getD 19 undef),(ys.getD 20 undef),(ys.getD 21 undef),(ys.getD 22 undef),(ys.getD 23 undef),(ys.getD 24 undef),(ys.getD 25 undef),(ys.getD 26 undef),(ys.getD 27 undef),(ys.getD 28 undef),(ys.getD 29 undef),(ys.getD 30 undef),(ys.getD 31 undef),(ys.getD 32 undef),(ys.getD 33 undef),(ys.getD 34 undef),(ys.getD 35 undef),(ys.getD 36 undef),(ys.getD 37 undef),(ys.getD 38 undef),(ys.getD 39 undef),(ys.getD 40 undef),(ys.getD 41 undef),(ys.getD 42 undef),(ys.getD 43 undef),(ys.getD 44 undef),(ys.getD 45 undef),(ys.getD 46 undef),(ys.getD 47 undef),(ys.getD 48 undef),(ys.getD 49 undef),(ys.getD 50 undef),(ys.getD 51 undef),(ys.getD 52 undef),(ys.getD 53 undef),(ys.getD 54 undef),(ys.getD 55 undef),(ys.getD 56 undef),(ys.getD 57 undef),(ys.getD 58 undef),(ys.getD 59 undef),(ys.getD 60 undef),(ys.getD 61 undef),(ys.getD 62 undef),(ys.getD 63 undef),(ys.getD 64 undef),(ys.getD 65 undef),(ys.getD 66 undef),(ys.getD 67 undef),(ys.getD 68 undef),(ys.getD 69 undef),(ys.getD 70 undef),(ys.getD 71 undef),(ys.getD 72 undef),(ys.getD 73 undef),(ys.getD 74 undef),(ys.getD 75 undef),(ys.getD 76 undef),(ys.getD 77 undef),(ys.getD 78 undef),(ys.getD 79 undef),(ys.getD 80 undef),(ys.getD 81 undef),(ys.getD 82 undef),(ys.getD 83 undef),(ys.getD 84 undef)] H [(X.exit 2,λ(y1:Fr)(H2:Heap)=>
 AS.asBool (y1.getD 4 undef) λb3=>
 AS.asBool (y1.getD 6 undef) λb4=>
 bif b4 then (
 AS.asAddr (.pointer t0) λi5 i6=>
 ∃a7,(H2.bump 28).cell i5 (i6+1)=some (.pointer a7)/\
 CA en F.grace_Grace_Waits [(.pointer a7)] (H2.bump 28) λv8 H9=>
 ∃n10,v8=(.int .i64 n10)/\
 bif (n10==0) then (
 AS.asAddr (.pointer t0) λi11 i12=>
 ∃a13,H9.cell i11 i12=some (.pointer a13)/\
 CA en F.smem_Mem_Live [(.pointer a13)] H9 λv14 H15=>
 ∃n16,v14=(.int .i64 n16)/\
 AS.asAddr (.pointer t0) λi17 i18=>
 ∃n19,H15.cell i17 (i18+8)=some (.int .i64 n19)/\
 AS.asAddr (.pointer t0) λi20 i21=>
 ∃a22,H15.cell i20 (i21+3)=some (.pointer a22)/\
 AS.asAddr (.pointer a22) λi23 i24=>
 ∃a25 i26,H15.cell i23 (i24+5)=some (.slice a25 i26 0)/\
 (
 K1 [(.pointer t0),(.int .i64 t1),undef,undef,(.bool (n16==(IntKind.i64.wrap (n19+((i26:Nat):Int))))),(.int .i64 t5),(.bool b4),(y1.getD 7 undef),(.int .i64 t5),(.int .i64 t1),(.bool true),(ys.getD 11 undef),(ys.getD 12 undef),(y1.getD 13 undef),(y1.getD 14 undef),(y1.getD 15 undef),(y1.getD 16 undef),(y1.getD 17 undef),(y1.getD 18 undef),(y1.getD 19 undef),(y1.getD 20 undef),(y1.getD 21 undef),(y1.getD 22 undef),(y1.getD 23 undef),(y1.getD 24 undef),(y1.getD 25 undef),(y1.getD 26 undef),(y1.getD 27 undef),(y1.getD 28 undef),(y1.getD 29 undef),(y1.getD 30 undef),(y1.getD 31 undef),(y1.getD 32 undef),(y1.getD 33 undef),(y1.getD 34 undef),(y1.getD 35 undef),(y1.getD 36 undef),(y1.getD 37 undef),(y1.getD 38 undef),(y1.getD 39 undef),(y1.getD 40 undef),(y1.getD 41 undef),(y1.getD 42 undef),(y1.getD 43 undef),(y1.getD 44 undef),(y1.getD 45 undef),(y1.getD 46 undef),(y1.getD 47 undef),(y1.getD 48 undef),(y1.getD 49 undef),(y1.getD 50 undef),(y1.getD 51 undef),(y1.getD 52 undef),(y1.getD 53 undef),(y1.getD 54 undef),(y1.getD 55 undef),(y1.getD 56 undef),(.bool true),(.pointer t0),(.pointer (some ⟨i5,i6,none⟩)),(.pointer (some ⟨i5,(i6+1),none⟩)),(.pointer a7),(.int .i64 n10),(.bool (n10==0)),(.bool true),(.pointer t0),(.pointer (some ⟨i11,i12,none⟩)),(.pointer (some ⟨i11,i12,none⟩)),(.pointer a13),(.int .i64 n16),(.pointer t0),(.pointer (some ⟨i17,i18,none⟩)),(.pointer (some ⟨i17,(i18+8),none⟩)),(.int .i64 n19),(.pointer t0),(.pointer (some ⟨i20,i21,none⟩)),(.pointer (some ⟨i20,(i21+3),none⟩)),(.pointer a22),(.pointer (some ⟨i23,i24,none⟩)),(.pointer (some ⟨i23,(i24+5),none⟩)),(.slice a25 i26 0),(.int .i64 ((i26:Nat):Int)),(.int .i64 (IntKind.i64.wrap (n19+((i26:Nat):Int)))),(.bool (n16==(IntKind.i64.wrap (n19+((i26:Nat):Int))))),(.bool (n16==(IntKind.i64.wrap (n19+((i26:Nat):Int)))))] H15)/\
 (((IntKind.i64.wrap (n19+((i26:Nat):Int)))=(IntKind.i64.wrap (n19+((i26:Nat):Int))))/\((IntKind.i64.wrap (n19+((i26:Nat):Int)))=(IntKind.i64.wrap (n19+((i26:Nat):Int))))/\True)/\
 ((((i26:Nat):Int)=((i26:Nat):Int))/\(((i26:Nat):Int)=((i26:Nat):Int))/\True)/\
 ((∃a29 i30,H9.cell i23 (i24+5)=some (.slice a29 i30 0)/\
 (a25=a29/\i26=i30/\0=0))/\(∃a27 i28,H15.cell i23 (i24+5)=some (.slice a27 i28 0)/\
 (a25=a27/\i26=i28/\0=0))/\True)/\
 ((∃a32,H9.cell i20 (i21+3)=some (.pointer a32)/\
 a22=a32)/\(∃a31,H15.cell i20 (i21+3)=some (.pointer a31)/\
 a22=a31)/\True)/\
 ((∃n34,H9.cell i17 (i18+8)=some (.int .i64 n34)/\
 n19=n34)/\(∃n33,H15.cell i17 (i18+8)=some (.int .i64 n33)/\
 n19=n33)/\True)/\
 True)
 else (
 (
 K1 [(.pointer t0),(.int .i64 t1),undef,undef,(.bool false),(.int .i64 t5),(.bool b4),(y1.getD 7 undef),(.int .i64 t5),(.int .i64 t1),(.bool true),(ys.getD 11 undef),(ys.getD 12 undef),(y1.getD 13 undef),(y1.getD 14 undef),(y1.getD 15 undef),(y1.getD 16 undef),(y1.getD 17 undef),(y1.getD 18 undef),(y1.getD 19 undef),(y1.getD 20 undef),(y1.getD 21 undef),(y1.getD 22 undef),(y1.getD 23 undef),(y1.getD 24 undef),(y1.getD 25 undef),(y1.getD 26 undef),(y1.getD 27 undef),(y1.getD 28 undef),(y1.getD 29 undef),(y1.getD 30 undef),(y1.getD 31 undef),(y1.getD 32 undef),(y1.getD 33 undef),(y1.getD 34 undef),(y1.getD 35 undef),(y1.getD 36 undef),(y1.getD 37 undef),(y1.getD 38 undef),(y1.getD 39 undef),(y1.getD 40 undef),(y1.getD 41 undef),(y1.getD 42 undef),(y1.getD 43 undef),(y1.getD 44 undef),(y1.getD 45 undef),(y1.getD 46 undef),(y1.getD 47 undef),(y1.getD 48 undef),(y1.getD 49 undef),(y1.getD 50 undef),(y1.getD 51 undef),(y1.getD 52 undef),(y1.getD 53 undef),(y1.getD 54 undef),(y1.getD 55 undef),(y1.getD 56 undef),(.bool true),(.pointer t0),(.pointer (some ⟨i5,i6,none⟩)),(.pointer (some ⟨i5,(i6+1),none⟩)),(.pointer a7),(.int .i64 n10),(.bool (n10==0)),(.bool false),undef,undef,undef,undef,undef,undef,undef,undef,undef,undef,undef,undef,undef,undef,undef,undef,undef,undef,undef,(.bool false)] H9)/\
 True))
 else (
 ∃k35,k35<n/\
 I k35 b3 (IntKind.i64.wrap (t5+1)) H2)),
 (X.ret,λ(y36:Fr)(H37:Heap)=>
 AS.asBool (y36.getD 4 undef) λb38=>
 AS.asBool (y36.getD 6 undef) λb39=>
 K1 [(.pointer t0),(.int .i64 t1),undef,undef,(.bool b38),(.int .i64 t5),(.bool b39),(y36.getD 7 undef),(.int .i64 t5),(.int .i64 t1),(.bool true),(ys.getD 11 undef),(ys.getD 12 undef),(y36.getD 13 undef),(y36.getD 14 undef),(y36.getD 15 undef),(y36.getD 16 undef),(y36.getD 17 undef),(y36.getD 18 undef),(y36.getD 19 undef),(y36.getD 20 undef),(y36.getD 21 undef),(y36.getD 22 undef),(y36.getD 23 undef),(y36.getD 24 undef),(y36.getD 25 undef),(y36.getD 26 undef),(y36.getD 27 undef),(y36.getD 28 undef),(y36.getD 29 undef),(y36.getD 30 undef),(y36.getD 31 undef),(y36.getD 32 undef),(y36.getD 33 undef),(y36.getD 34 undef),(y36.getD 35 undef),(y36.getD 36 undef),(y36.getD 37 undef),(y36.getD 38 undef),(y36.getD 39 undef),(y36.getD 40 undef),(y36.getD 41 undef),(y36.getD 42 undef),(y36.getD 43 undef),(y36.getD 44 undef),(y36.getD 45 undef),(y36.getD 46 undef),(y36.getD 47 undef),(y36.getD 48 undef),(y36.getD 49 undef),(y36.getD 50 undef),(y36.getD 51 undef),(y36.getD 52 undef),(y36.getD 53 undef),(y36.getD 54 undef),(y36.getD 55 undef),(y36.getD 56 undef),(ys.getD 57 undef),(ys.getD 58 undef),(ys.getD 59 undef),(ys.getD 60 undef),(ys.getD 61 undef),(ys.getD 62 undef),(ys.getD 63 undef),(ys.getD 64 undef),(ys.getD 65 undef),(ys.getD 66 undef),(ys.getD 67 undef),(ys.getD 68 undef),(ys.getD 69 undef),(ys.getD 70 undef),(ys.getD 71 undef),(ys.getD 72 undef),(ys.getD 73 undef),(ys.getD 74 undef),(ys.getD 75 undef),(ys.getD 76 undef),(ys.getD 77 undef),(ys.getD 78 undef),(ys.getD 79 undef),(ys.getD 80 undef),(ys.getD 81 undef),(ys.getD 82 undef),(ys.getD 83 undef),(ys.getD 84 undef)] H37)])
 else (
 K0 [(.pointer t0),(.int .i64 t1),undef,undef,(.bool t4),(.int .i64 t5),(ys.getD 6 undef),(ys.getD 7 undef),(.int .i64 t5),(.int .i64 t1),(.bool false),(ys.getD 11 undef),(ys.getD 12 undef),(ys.getD 13 undef),(ys.getD 14 undef),(ys.getD 15 undef),(ys.getD 16 undef),(ys.getD 17 undef),(ys.getD 18 undef),(ys.getD 19 undef),(ys.getD 20 undef),(ys.getD 21 undef),(ys.getD 22 undef),(ys.getD 23 undef),(ys.getD 24 undef),(ys.getD 25 undef),(ys.getD 26 undef),(ys.getD 27 undef),(ys.getD 28 undef),(ys.getD 29 undef),(ys.getD 30 undef),(ys.getD 31 undef),(ys.getD 32 undef),(ys.getD 33 undef),(ys.getD 34 undef),(ys.getD 35 undef),(ys.getD 36 undef),(ys.getD 37 undef),(ys.getD 38 undef),(ys.getD 39 undef),(ys.getD 40 undef),(ys.getD 41 undef),(ys.getD 42 undef),(ys.getD 43 undef),(ys.getD 44 undef),(ys.getD 45 undef),(ys.getD 46 undef),(ys.getD 47 undef),(ys.getD 48 undef),(ys.getD 49 undef),(ys.getD 50 undef),(ys.getD 51 undef),(ys.getD 52 undef),(ys.getD 53 undef),(ys.getD 54 undef),(ys.getD 55 undef),(ys.getD 56 undef),(ys.getD 57 undef),(ys.getD 58 undef),(ys.getD 59 undef),(ys.getD 60 undef),(ys.getD 61 undef),(ys.getD 62 undef),(ys.getD 63 undef),(ys.getD 64 undef),(ys.getD 65 undef),(ys.getD 66 undef),(ys.getD 67 undef),(ys.getD 68 undef),(ys.getD 69 undef),(ys.getD 70 undef),(ys.getD 71 undef),(ys.getD 72 undef),(ys.getD 73 undef),(ys.getD 74 undef),(ys.getD 75 undef),(ys.getD 76 undef),(ys.getD 77 undef),(ys.getD 78 undef),(ys.getD 79 undef),(ys.getD 80 undef),(ys.getD 81 undef),(ys.getD 82 undef),(ys.getD 83 undef),(ys.getD 84 undef)] H))) :
  LA en L_crossbarlaw16_side_rest_0 [(.pointer t0),(.int .i64 t1),undef,undef,(.bool t4),(.int .i64 t5),t6,t7,t8,t9,t10,t11,t12,t13,t14,t15,t16,t17,t18,t19,t20,t21,t22,t23,t24,t25,t26,t27,t28,t29,t30,t31,t32,t33,t34,t35,t36,t37,t38,t39,t40,t41,t42,t43,t44,t45,t46,t47,t48,t49,t50,t51,t52,t53,t54,t55,t56,t57,t58,t59,t60,t61,t62,t63,t64,t65,t66,t67,t68,t69,t70,t71,t72,t73,t74,t75,t76,t77,t78,t79,t80,t81,t82,t83,t84] H [(X.exit 0,K0),(X.ret,K1)]:=by
 refine LA_rule (Z:=[[(4,(.bool false)),(6,(.bool false))]]) (λm xs H'=>AS.asBool (xs.getD 4 undef) λt4=>AS.asInt .i64 (xs.getD 5 undef) λt5=>I m t4 t5 H') ?_ n H ?_
 ·intro n H
  suffices hs:∀s8:Value,∀s9:Value,∀s10:Value,∀s6:Value,∀s7:Value,∀s13:Value,∀s14:Value,∀s15:Value,∀s16:Value,∀s17:Value,∀s18:Value,∀s19:Value,∀s22:Value,∀s23:Value,∀s24:Value,∀s25:Value,∀s4:Value,∀s26:Value,∀s27:Value,∀s28:Value,∀s29:Value,∀s30:Value,∀s31:Value,∀s32:Value,∀s33:Value,∀s34:Value,∀s35:Value,∀s36:Value,∀s37:Value,∀s38:Value,∀s39:Value,∀s40:Value,∀s41:Value,∀s42:Value,∀s43:Value,∀s44:Value,∀s45:Value,∀s46:Value,∀s47:Value,∀s48:Value,∀s49:Value,∀s50:Value,∀s51:Value,∀s52:Value,∀s53:Value,∀s54:Value,∀s55:Value,∀s56:Value,∀s20:Value,∀s21:Value,∀s57:Value,∀s58:Value,∀s59:Value,∀s60:Value,∀s61:Value,∀s62:Value,∀s63:Value,∀s64:Value,∀s65:Value,∀s66:Value,∀s67:Value,∀s68:Value,∀s69:Value,∀s70:Value,∀s71:Value,∀s72:Value,∀s73:Value,∀s74:Value,∀s75:Value,∀s76:Value,∀s77:Value,∀s78:Value,∀s79:Value,∀s80:Value,∀s81:Value,∀s82:Value,∀s83:Value,∀s84:Value,∀s11:Value,∀s12:Value,∀s5:Value,((AS.asBool s4 λt4=>AS.asInt .i64 s5 λt5=>I n t4 t5 H)->wpCode en L_crossbarlaw16_side_rest_0 [[(4,(.bool false)),(6,(.bool false))]] [(.pointer t0),(.int .i64 t1),undef,undef,s4,s5,s6,s7,s8,s9,s10,s11,s12,s13,s14,s15,s16,s17,s18,s19,s20,s21,s22,s23,s24,s25,s26,s27,s28,s29,s30,s31,s32,s33,s34,s35,s36,s37,s38,s39,s40,s41,s42,s43,s44,s45,s46,s47,s48,s49,s50,s51,s52,s53,s54,s55,s56,s57,s58,s59,s60,s61,s62,s63,s64,s65,s66,s67,s68,s69,s70,s71,s72,s73,s74,s75,s76,s77,s78,s79,s80,s81,s82,s83,s84] H (loopQ (λm xs H'=>AS.asBool (xs.getD 4 undef) λt4=>AS.asInt .i64 (xs.getD 5 undef) λt5=>I m t4 t5 H') n [(X.exit 0,K0),(X.ret,K1)])) by
   apply turnInto hs
   kernel_rfl
  intro s8 s9 s10 s6 s7 s13 s14 s15 s16 s17 s18 s19 s22 s23 s24 s25 s4 s26 s27 s28 s29 s30 s31 s32 s33 s34 s35 s36 s37 s38 s39 s40 s41 s42 s43 s44 s45 s46 s47 s48 s49 s50 s51 s52 s53 s54 s55 s56 s20 s21 s57 s58 s59 s60 s61 s62 s63 s64 s65 s66 s67 s68 s69 s70 s71 s72 s73 s74 s75 s76 s77 s78 s79 s80 s81 s82 s83 s84 s11 s12 s5 hP;replace hP:=asBool_elim hP;obtain ⟨t4,rfl,hP⟩:=hP;replace hP:=asInt_elim hP;obtain ⟨t5,rfl,hP⟩:=hP;apply turnInto (hstep n t4 t5 [(.pointer t0),(.int .i64 t1),undef,undef,(.bool t4),(.int .i64 t5),s6,s7,s8,s9,s10,s11,s12,s13,s14,s15,s16,s17,s18,s19,s20,s21,s22,s23,s24,s25,s26,s27,s28,s29,s30,s31,s32,s33,s34,s35,s36,s37,s38,s39,s40,s41,s42,s43,s44,s45,s46,s47,s48,s49,s50,s51,s52,s53,s54,s55,s56,s57,s58,s59,s60,s61,s62,s63,s64,s65,s66,s67,s68,s69,s70,s71,s72,s73,s74,s75,s76,s77,s78,s79,s80,s81,s82,s83,s84] H hP);kernel_rfl
 ·apply turnInto h0
  kernel_rfl
theorem use_crossbarlaw16_side_rest_1 {t0:Option Addr}{t1:Int}{t5:Int}{t8:Int}{t9:Int}{t11:Value}{t12:Value}{t57:Value}{t58:Value}{t59:Value}{t60:Value}{t61:Value}{t62:Value}{t63:Value}{t64:Value}{t65:Value}{t66:Value}{t67:Value}{t68:Value}{t69:Value}{t70:Value}{t71:Value}{t72:Value}{t73:Value}{t74:Value}{t75:Value}{t76:Value}{t77:Value}{t78:Value}{t79:Value}{t80:Value}{t81:Value}{t82:Value}{t83:Value}{t84:Value}{K0:Fr->Heap->Prop}{K1:Fr->Heap->Prop}{t4:Bool}{t6:Bool}{t7:Int}{t13:Value}{t14:Value}{t15:Value}{t16:Value}{t17:Value}{t18:Value}{t19:Value}{t20:Value}{t21:Value}{t22:Value}{t23:Value}{t24:Value}{t25:Value}{t26:Value}{t27:Value}{t28:Value}{t29:Value}{t30:Value}{t31:Value}{t32:Value}{t33:Value}{t34:Value}{t35:Value}{t36:Value}{t37:Value}{t38:Value}{t39:Value}{t40:Value}{t41:Value}{t42:Value}{t43:Value}{t44:Value}{t45:Value}{t46:Value}{t47:Value}{t48:Value}{t49:Value}{t50:Value}{t51:Value}{t52:Value}{t53:Value}{t54:Value}{t55:Value}{t56:Value}{H:Heap}(I:Nat->Bool->Bool->Int->Heap->Prop)(n:Nat)(h0:I n t4 t6 t7 H)
  (hstep:∀(n:Nat)(t4:Bool)(t6:Bool)(t7:Int)(ys:Fr)(H:Heap),I n t4 t6 t7 H->
  (
 AS.asAddr (.pointer t0) λi1 i2=>
 ∃a3 i4,H.cell i1 (i2+4)=some (.slice a3 i4 0)/\
 bif (decide (t7<((i4:Nat):Int))) then (
 CA en F.crossbarlaw16_side_step [(.pointer t0),(.int .i64 t7)] H λv5 H6=>
 ∃b7,v5=(.bool b7)/\
 bif (!b7) then (
 K1 [(.pointer t0),(.int .i64 t1),undef,undef,(.bool false),(.int .i64 t5),(.bool t6),(.int .i64 t7),(.int .i64 t8),(.int .i64 t9),(.bool true),t11,t12,(.int .i64 t7),(.pointer t0),(.pointer (some ⟨i1,i2,none⟩)),(.pointer (some ⟨i1,(i2+4),none⟩)),(.slice a3 i4 0),(.int .i64 ((i4:Nat):Int)),(.bool true),(ys.getD 20 undef),(ys.getD 21 undef),(.pointer t0),(.int .i64 t7),(.bool b7),(.bool true),(ys.getD 26 undef),(ys.getD 27 undef),(ys.getD 28 undef),(ys.getD 29 undef),(ys.getD 30 undef),(ys.getD 31 undef),(ys.getD 32 undef),(ys.getD 33 undef),(ys.getD 34 undef),(ys.getD 35 undef),(ys.getD 36 undef),(ys.getD 37 undef),(ys.getD 38 undef),(ys.getD 39 undef),(ys.getD 40 undef),(ys.getD 41 undef),(ys.getD 42 undef),(ys.getD 43 undef),(ys.getD 44 undef),(ys.getD 45 undef),(ys.getD 46 undef),(ys.getD 47 undef),(ys.getD 48 undef),(ys.getD 49 undef),(ys.getD 50 undef),(ys.getD 51 undef),(ys.getD 52 undef),(ys.getD 53 undef),(ys.getD 54 undef),(ys.getD 55 undef),(ys.getD 56 undef),t57,t58,t59,t60,t61,t62,t63,t64,t65,t66,t67,t68,t69,t70,t71,t72,t73,t74,t75,t76,t77,t78,t79,t80,t81,t82,t83,t84] H6)
 else (
 bif t6 then (
 AS.asAddr (.pointer t0) λi8 i9=>
 ∃a10 i11,(H6.bump 32).cell i8 (i9+5)=some (.slice a10 i11 0)/\
 inB t7 i11/\
 asRow a10 λi12 i13=>
 ∃n14,(H6.bump 32).cell i12 ((i13+(t7.toNat*24))+1)=some (.int .i64 n14)/\
 bif (n14==0) then (
 AS.asAddr (.pointer t0) λi15 i16=>
 ∃a17 i18,(H6.bump 32).cell i15 (i16+5)=some (.slice a17 i18 0)/\
 inB t7 i18/\
 asRow a17 λi19 i20=>
 ∃n21,(H6.bump 32).cell i19 (i20+(t7.toNat*24))=some (.int .i64 n21)/\
 AS.asAddr (.pointer t0) λi22 i23=>
 ∃a24 i25,(H6.bump 32).cell i22 (i23+4)=some (.slice a24 i25 0)/\
 inB t7 i25/\
 asRow a24 λi26 i27=>
 ∃a28 i29,(H6.bump 32).cell i26 (i27+(t7.toNat*1))=some (.slice a28 i29 0)/\
 (
 ∃k30,k30<n/\
 I k30 t4 (n21==((i29:Nat):Int)) (IntKind.i64.wrap (t7+1)) (H6.bump 32))/\
 True)
 else (
 (
 ∃k31,k31<n/\
 I k31 t4 false (IntKind.i64.wrap (t7+1)) (H6.bump 32))/\
 True))
 else (
 (
 ∃k32,k32<n/\
 I k32 t4 false (IntKind.i64.wrap (t7+1)) (H6.bump 32))/\
 True)))
 else (
 K0 [(.pointer t0),(.int .i64 t1),undef,undef,(.bool t4),(.int .i64 t5),(.bool t6),(.int .i64 t7),(.int .i64 t8),(.int .i64 t9),(.bool true),t11,t12,(.int .i64 t7),(.pointer t0),(.pointer (some ⟨i1,i2,none⟩)),(.pointer (some ⟨i1,(i2+4),none⟩)),(.slice a3 i4 0),(.int .i64 ((i4:Nat):Int)),(.bool false),(ys.getD 20 undef),(ys.getD 21 undef),(ys.getD 22 undef),(ys.getD 23 undef),(ys.getD 24 undef),(ys.getD 25 undef),(ys.getD 26 undef),(ys.getD 27 undef),(ys.getD 28 undef),(ys.getD 29 undef),(ys.getD 30 undef),(ys.getD 31 undef),(ys.getD 32 undef),(ys.getD 33 undef),(ys.getD 34 undef),(ys.getD 35 undef),(ys.getD 36 undef),(ys.getD 37 undef),(ys.getD 38 undef),(ys.getD 39 undef),(ys.getD 40 undef),(ys.getD 41 undef),(ys.getD 42 undef),(ys.getD 43 undef),(ys.getD 44 undef),(ys.getD 45 undef),(ys.getD 46 undef),(ys.getD 47 undef),(ys.getD 48 undef),(ys.getD 49 undef),(ys.getD 50 undef),(ys.getD 51 undef),(ys.getD 52 undef),(ys.getD 53 undef),(ys.getD 54 undef),(ys.getD 55 undef),(ys.getD 56 undef),t57,t58,t59,t60,t61,t62,t63,t64,t65,t66,t67,t68,t69,t70,t71,t72,t73,t74,t75,t76,t77,t78,t79,t80,t81,t82,t83,t84] H))) :
  LA en L_crossbarlaw16_side_rest_1 [(.pointer t0),(.int .i64 t1),undef,undef,(.bool t4),(.int .i64 t5),(.bool t6),(.int .i64 t7),(.int .i64 t8),(.int .i64 t9),(.bool true),t11,t12,t13,t14,t15,t16,t17,t18,t19,t20,t21,t22,t23,t24,t25,t26,t27,t28,t29,t30,t31,t32,t33,t34,t35,t36,t37,t38,t39,t40,t41,t42,t43,t44,t45,t46,t47,t48,t49,t50,t51,t52,t53,t54,t55,t56,t57,t58,t59,t60,t61,t62,t63,t64,t65,t66,t67,t68,t69,t70,t71,t72,t73,t74,t75,t76,t77,t78,t79,t80,t81,t82,t83,t84] H [(X.exit 2,K0),(X.ret,K1)]:=by
 refine LA_rule (Z:=[]) (λm xs H'=>AS.asBool (xs.getD 4 undef) λt4=>AS.asBool (xs.getD 6 undef) λt6=>AS.asInt .i64 (xs.getD 7 undef) λt7=>I m t4 t6 t7 H') ?_ n H ?_
 ·intro n H
  suffices hs:∀s13:Value,∀s14:Value,∀s15:Value,∀s16:Value,∀s17:Value,∀s18:Value,∀s19:Value,∀s22:Value,∀s23:Value,∀s24:Value,∀s25:Value,∀s4:Value,∀s26:Value,∀s27:Value,∀s28:Value,∀s29:Value,∀s30:Value,∀s31:Value,∀s32:Value,∀s33:Value,∀s34:Value,∀s35:Value,∀s36:Value,∀s37:Value,∀s38:Value,∀s39:Value,∀s40:Value,∀s41:Value,∀s42:Value,∀s43:Value,∀s44:Value,∀s45:Value,∀s46:Value,∀s47:Value,∀s48:Value,∀s49:Value,∀s50:Value,∀s51:Value,∀s52:Value,∀s53:Value,∀s54:Value,∀s55:Value,∀s56:Value,∀s6:Value,∀s20:Value,∀s21:Value,∀s7:Value,((AS.asBool s4 λt4=>AS.asBool s6 λt6=>AS.asInt .i64 s7 λt7=>I n t4 t6 t7 H)->wpCode en L_crossbarlaw16_side_rest_1 [] [(.pointer t0),(.int .i64 t1),undef,undef,s4,(.int .i64 t5),s6,s7,(.int .i64 t8),(.int .i64 t9),(.bool true),t11,t12,s13,s14,s15,s16,s17,s18,s19,s20,s21,s22,s23,s24,s25,s26,s27,s28,s29,s30,s31,s32,s33,s34,s35,s36,s37,s38,s39,s40,s41,s42,s43,s44,s45,s46,s47,s48,s49,s50,s51,s52,s53,s54,s55,s56,t57,t58,t59,t60,t61,t62,t63,t64,t65,t66,t67,t68,t69,t70,t71,t72,t73,t74,t75,t76,t77,t78,t79,t80,t81,t82,t83,t84] H (loopQ (λm xs H'=>AS.asBool (xs.getD 4 undef) λt4=>AS.asBool (xs.getD 6 undef) λt6=>AS.asInt .i64 (xs.getD 7 undef) λt7=>I m t4 t6 t7 H') n [(X.exit 2,K0),(X.ret,K1)])) by
   apply turnInto hs
   kernel_rfl
  intro s13 s14 s15 s16 s17 s18 s19 s22 s23 s24 s25 s4 s26 s27 s28 s29 s30 s31 s32 s33 s34 s35 s36 s37 s38 s39 s40 s41 s42 s43 s44 s45 s46 s47 s48 s49 s50 s51 s52 s53 s54 s55 s56 s6 s20 s21 s7 hP;replace hP:=asBool_elim hP;obtain ⟨t4,rfl,hP⟩:=hP;replace hP:=asBool_elim hP;obtain ⟨t6,rfl,hP⟩:=hP;replace hP:=asInt_elim hP;obtain ⟨t7,rfl,hP⟩:=hP;apply turnInto (hstep n t4 t6 t7 [(.pointer t0),(.int .i64 t1),undef,undef,(.bool t4),(.int .i64 t5),(.bool t6),(.int .i64 t7),(.int .i64 t8),(.int .i64 t9),(.bool true),t11,t12,s13,s14,s15,s16,s17,s18,s19,s20,s21,s22,s23,s24,s25,s26,s27,s28,s29,s30,s31,s32,s33,s34,s35,s36,s37,s38,s39,s40,s41,s42,s43,s44,s45,s46,s47,s48,s49,s50,s51,s52,s53,s54,s55,s56,t57,t58,t59,t60,t61,t62,t63,t64,t65,t66,t67,t68,t69,t70,t71,t72,t73,t74,t75,t76,t77,t78,t79,t80,t81,t82,t83,t84] H hP);kernel_rfl
 ·apply turnInto h0
  kernel_rfl
theorem vc_crossbarlaw16_side_start (x0:Option Addr)(x1:Int)(H:Heap)(R:Value->Heap->Prop) :
  (
 AS.asAddr (.pointer x0) λi1 i2=>
 ∃a3 i4,H.cell i1 (i2+5)=some (.slice a3 i4 0)/\
 inB x1 i4/\
 asRow a3 λi5 i6=>
 AS.asAddr (.pointer x0) λi7 i8=>
 ∃a9 i10,(H.bump 17).cell i7 (i8+4)=some (.slice a9 i10 0)/\
 inB x1 i10/\
 asRow a9 λi11 i12=>
 ∃a13 i14,(H.bump 17).cell i11 (i12+(x1.toNat*1))=some (.slice a13 i14 0)/\
 ∃n15,(H.bump 17).cell i5 (i6+(x1.toNat*24))=some (.int .i64 n15)/\
 inB n15 i14/\
 asRow a13 λi16 i17=>
 ∃n18,∃n19,∃n20,∃a21 i22,∃n23,∃n24,∃n25,(H.bump 17).cellsAt i16 (i17+(n15.toNat*7)) 7=some [(.int .i64 n18),(.int .i64 n19),(.int .u64 n20),(.slice a21 i22 0),(.int .i64 n23),(.int .i64 n24),(.int .u64 n25)]/\
 stc (H.bump 17) i5 ((i6+(x1.toNat*24))+3) [(.int .i64 n18),(.int .i64 n19),(.int .u64 n20),(.slice a21 i22 0),(.int .i64 n23),(.int .i64 n24),(.int .u64 n25)] λH26=>
 (
 ∃n27,H26.cell i5 ((i6+(x1.toNat*24))+3)=some (.int .i64 n27)/\
 CA en F.crossbarkit_Pick [(.int .i64 n27),(.int .i64 4)] H26 λv28 H29=>
 ∃n30,v28=(.int .i64 n30)/\
 stc H29 i5 ((i6+(x1.toNat*24))+3) [(.int .i64 n30)] λH31=>
 ∃n32,H31.cell i5 (i6+(x1.toNat*24))=some (.int .i64 n32)/\
 stc H31 i5 (i6+(x1.toNat*24)) [(.int .i64 (IntKind.i64.wrap (n32+1)))] λH33=>
 stc H33 i5 ((i6+(x1.toNat*24))+17) [(.bool false)] λH34=>
 stc H34 i5 ((i6+(x1.toNat*24))+2) [(.int .i64 0)] λH35=>
 stc H35 i5 ((i6+(x1.toNat*24))+10) [(.pointer none)] λH36=>
 stc H36 i5 ((i6+(x1.toNat*24))+1) [(.int .i64 1)] λH37=>
 AS.asAddr (.pointer x0) λi38 i39=>
 ∃a40,H37.cell i38 i39=some (.pointer a40)/\
 CA en F.smem_Mem_Count [(.pointer a40)] H37 λv41 H42=>
 ∃n43,v41=(.int .i64 n43)/\
 AS.asAddr (.pointer x0) λi44 i45=>
 ∃a46,H42.cell i44 (i45+1)=some (.pointer a46)/\
 CA en F.grace_Grace_Enter [(.pointer a46),(.int .i64 x1)] H42 λv47 H48=>
 ∃b49,v47=(.bool b49)/\
 bif (!b49) then (
 R (.bool false) H48)
 else (
 ∃n50,H48.cell i5 ((i6+(x1.toNat*24))+3)=some (.int .i64 n50)/\
 bif (n50==1) then (
 stc H48 i5 ((i6+(x1.toNat*24))+1) [(.int .i64 2)] λH51=>
 AS.asAddr (.pointer x0) λi52 i53=>
 ∃a54,H51.cell i52 (i53+2)=some (.pointer a54)/\
 CA en F.lru_Map_Room [(.pointer a54),(.int .i64 0)] H51 λv55 H56=>
 ∃a57,v55=(.pointer a57)/\
 stc H56 i5 ((i6+(x1.toNat*24))+11) [(.pointer a57)] λH58=>
 ∃a59,H58.cell i5 ((i6+(x1.toNat*24))+11)=some (.pointer a59)/\
 bif (!a59.isNone) then (
 AS.asAddr (.pointer x0) λi60 i61=>
 ∃a62,H58.cell i60 i61=some (.pointer a62)/\
 CA en F.smem_Mem_Count [(.pointer a62)] H58 λv63 H64=>
 ∃n65,v63=(.int .i64 n65)/\
 R (.bool (n65==n43)) H64)
 else (
 R (.bool false) H58))
 else (
 ∃n66,H48.cell i5 ((i6+(x1.toNat*24))+3)=some (.int .i64 n66)/\
 bif (n66==2) then (
 stc H48 i5 ((i6+(x1.toNat*24))+1) [(.int .i64 2)] λH67=>
 AS.asAddr (.pointer x0) λi68 i69=>
 ∃a70,H67.cell i68 (i69+2)=some (.pointer a70)/\
 CA en F.lru_Map_Room [(.pointer a70),(.int .i64 0)] H67 λv71 H72=>
 ∃a73,v71=(.pointer a73)/\
 stc H72 i5 ((i6+(x1.toNat*24))+11) [(.pointer a73)] λH74=>
 ∃a75,H74.cell i5 ((i6+(x1.toNat*24))+11)=some (.pointer a75)/\
 bif (!a75.isNone) then (
 AS.asAddr (.pointer x0) λi76 i77=>
 ∃a78,H74.cell i76 i77=some (.pointer a78)/\
 CA en F.smem_Mem_Count [(.pointer a78)] H74 λv79 H80=>
 ∃n81,v79=(.int .i64 n81)/\
 R (.bool (n81==n43)) H80)
 else (
 R (.bool false) H74))
 else (
 AS.asAddr (.pointer x0) λi82 i83=>
 ∃a84,(H48.bump 17).cell i82 (i83+3)=some (.pointer a84)/\
 AS.asAddr (.pointer a84) λi85 i86=>
 ∃n87,∃n88,∃n89,∃n90,∃n91,(H48.bump 17).cellsAt i85 i86 5=some [(.int .i64 n87),(.int .i64 n88),(.int .i64 n89),(.int .i64 n90),(.int .i64 n91)]/\
 ∃n92,∃n93,∃a94 i95,∃n96,∃n97,(H48.bump 17).cellsAt i5 (((i6+(x1.toNat*24))+3)+1) 5=some [(.int .i64 n92),(.int .u64 n93),(.slice a94 i95 0),(.int .i64 n96),(.int .i64 n97)]/\
 CA en F.crossbarkit_FitOp [(.agg #[(.int .i64 n87),(.int .i64 n88),(.int .i64 n89),(.int .i64 n90),(.int .i64 n91)]),(.agg #[(.int .i64 n92),(.int .u64 n93),(.slice a94 i95 0),(.int .i64 n96),(.int .i64 n97)]),(.int .i64 1)] (H48.bump 17) λv98 H99=>
 ∃n100,∃n101,∃a102 i103,∃n104,∃n105,v98=(.agg #[(.int .i64 n100),(.int .u64 n101),(.slice a102 i103 0),(.int .i64 n104),(.int .i64 n105)])/\
 stc H99 i5 ((i6+(x1.toNat*24))+12) [(.int .i64 n100),(.int .u64 n101),(.slice a102 i103 0),(.int .i64 n104),(.int .i64 n105)] λH106=>
 (
 ∃n107,H106.cell i5 ((i6+(x1.toNat*24))+3)=some (.int .i64 n107)/\
 bif (n107==3) then (
 ∃n108,H106.cell i5 ((((i6+(x1.toNat*24))+3)+1)+1)=some (.int .u64 n108)/\
 stc H106 i5 ((i6+(x1.toNat*24))+12) [(.int .i64 1),(.int .u64 n108),(.slice none 0 0),(.int .i64 0),(.int .i64 0)] λH109=>
 ∃n110,∃n111,∃a112 i113,∃n114,∃n115,H109.cellsAt i5 ((i6+(x1.toNat*24))+12) 5=some [(.int .i64 n110),(.int .u64 n111),(.slice a112 i113 0),(.int .i64 n114),(.int .i64 n115)]/\
 CA en F.crossbarkit_CopyOp [(.agg #[(.int .i64 n110),(.int .u64 n111),(.slice a112 i113 0),(.int .i64 n114),(.int .i64 n115)])] H109 λv116 H117=>
 ∃n118,∃n119,∃a120 i121,∃n122,∃n123,v116=(.agg #[(.int .i64 n118),(.int .u64 n119),(.slice a120 i121 0),(.int .i64 n122),(.int .i64 n123)])/\
 nwH H117 (.cells true 0 [(.int .i64 0),(.int .u64 0),(.slice none 0 0),(.int .i64 0),(.int .i64 0)]) λi124 H125=>
 stc H125 i124 0 [(.int .i64 n118),(.int .u64 n119),(.slice a120 i121 0),(.int .i64 n122),(.int .i64 n123)] λH126=>
 AS.asAddr (.pointer x0) λi127 i128=>
 ∃a129,(H126.bump 10).cell i127 (i128+2)=some (.pointer a129)/\
 ∃n130,∃n131,∃a132 i133,∃n134,∃n135,(H126.bump 10).cellsAt i124 0 5=some [(.int .i64 n130),(.int .u64 n131),(.slice a132 i133 0),(.int .i64 n134),(.int .i64 n135)]/\
 CA en F.lru_Map_Begin [(.pointer a129),(.agg #[(.int .i64 n130),(.int .u64 n131),(.slice a132 i133 0),(.int .i64 n134),(.int .i64 n135)])] (H126.bump 10) λv136 H137=>
 ∃a138,v136=(.pointer a138)/\
 stc H137 i5 ((i6+(x1.toNat*24))+10) [(.pointer a138)] λH139=>
 (
 ∃a140 i141,H139.cell i124 2=some (.slice a140 i141 0)/\
 CA en F.crossbarkit_SpoilWords [(.slice a140 i141 0)] H139 λv142 H143=>
 v142=undef/\
 ∃a144,H143.cell i5 ((i6+(x1.toNat*24))+10)=some (.pointer a144)/\
 bif (!a144.isNone) then (
 AS.asAddr (.pointer x0) λi145 i146=>
 ∃a147,H143.cell i145 i146=some (.pointer a147)/\
 CA en F.smem_Mem_Count [(.pointer a147)] H143 λv148 H149=>
 ∃n150,v148=(.int .i64 n150)/\
 R (.bool (n150==n43)) H149)
 else (
 R (.bool false) H143))/\
 True)
 else (
 ∃n151,∃n152,∃a153 i154,∃n155,∃n156,H106.cellsAt i5 ((i6+(x1.toNat*24))+12) 5=some [(.int .i64 n151),(.int .u64 n152),(.slice a153 i154 0),(.int .i64 n155),(.int .i64 n156)]/\
 CA en F.crossbarkit_CopyOp [(.agg #[(.int .i64 n151),(.int .u64 n152),(.slice a153 i154 0),(.int .i64 n155),(.int .i64 n156)])] H106 λv157 H158=>
 ∃n159,∃n160,∃a161 i162,∃n163,∃n164,v157=(.agg #[(.int .i64 n159),(.int .u64 n160),(.slice a161 i162 0),(.int .i64 n163),(.int .i64 n164)])/\
 nwH H158 (.cells true 0 [(.int .i64 0),(.int .u64 0),(.slice none 0 0),(.int .i64 0),(.int .i64 0)]) λi165 H166=>
 stc H166 i165 0 [(.int .i64 n159),(.int .u64 n160),(.slice a161 i162 0),(.int .i64 n163),(.int .i64 n164)] λH167=>
 AS.asAddr (.pointer x0) λi168 i169=>
 ∃a170,(H167.bump 10).cell i168 (i169+2)=some (.pointer a170)/\
 ∃n171,∃n172,∃a173 i174,∃n175,∃n176,(H167.bump 10).cellsAt i165 0 5=some [(.int .i64 n171),(.int .u64 n172),(.slice a173 i174 0),(.int .i64 n175),(.int .i64 n176)]/\
 CA en F.lru_Map_Begin [(.pointer a170),(.agg #[(.int .i64 n171),(.int .u64 n172),(.slice a173 i174 0),(.int .i64 n175),(.int .i64 n176)])] (H167.bump 10) λv177 H178=>
 ∃a179,v177=(.pointer a179)/\
 stc H178 i5 ((i6+(x1.toNat*24))+10) [(.pointer a179)] λH180=>
 (
 ∃a181 i182,H180.cell i165 2=some (.slice a181 i182 0)/\
 CA en F.crossbarkit_SpoilWords [(.slice a181 i182 0)] H180 λv183 H184=>
 v183=undef/\
 ∃a185,H184.cell i5 ((i6+(x1.toNat*24))+10)=some (.pointer a185)/\
 bif (!a185.isNone) then (
 AS.asAddr (.pointer x0) λi186 i187=>
 ∃a188,H184.cell i186 i187=some (.pointer a188)/\
 CA en F.smem_Mem_Count [(.pointer a188)] H184 λv189 H190=>
 ∃n191,v189=(.int .i64 n191)/\
 R (.bool (n191==n43)) H190)
 else (
 R (.bool false) H184))/\
 True))/\
 True))))/\
 True)->
  CA en F.crossbarlaw16_side_start [(.pointer x0),(.int .i64 x1)] H R:=by
 intro h;refine wpFn_ok (Z:=[]) (fn:=Go.Proofs.Tryz.f106) ?_ ?_ ?_
 ·kernel_rfl
 ·kernel_rfl
 ·apply turnInto h
  kernel_rfl
theorem vc_crossbarlaw16_side_runs (x0:Option Addr)(x1:Option Addr)(H:Heap)(R:Value->Heap->Prop) :
  (
 AS.asAddr (.pointer x0) λi1 i2=>
 ∃a3,H.cell i1 i2=some (.pointer a3)/\
 CA en F.smem_Mem_Room [(.pointer a3)] H λv4 H5=>
 ∃n6,v4=(.int .i64 n6)/\
 AS.asAddr (.pointer x1) λi7 i8=>
 ∃a9,H5.cell i7 (i8+10)=some (.pointer a9)/\
 CA en F.lru_Run_Step [(.pointer a9)] H5 λv10 H11=>
 ∃b12,∃b13,v10=(.tuple #[(.bool b12),(.bool b13)])/\
 bif b12 then (
 CA en F.crossbarlaw16_side_took [(.pointer x0),(.pointer x1),(.int .i64 n6)] H11 λv14 H15=>
 ∃b16,v14=(.bool b16)/\
 bif (!b16) then (
 R (.tuple #[(.bool b13),(.bool false)]) H15)
 else (
 bif (!b13) then (
 R (.tuple #[(.bool false),(.bool true)]) H15)
 else (
 AS.asAddr (.pointer x0) λi17 i18=>
 ∃a19,H15.cell i17 i18=some (.pointer a19)/\
 CA en F.smem_Mem_Count [(.pointer a19)] H15 λv20 H21=>
 ∃n22,v20=(.int .i64 n22)/\
 AS.asAddr (.pointer x1) λi23 i24=>
 ∃a25,H21.cell i23 (i24+10)=some (.pointer a25)/\
 CA en F.lru_Run_Step [(.pointer a25)] H21 λv26 H27=>
 ∃b28,∃b29,v26=(.tuple #[(.bool b28),(.bool b29)])/\
 AS.asAddr (.pointer x1) λi30 i31=>
 ∃b32,(H27.bump 34).cell i30 (i31+17)=some (.bool b32)/\
 bif b32 then (
 bif (!b28) then (
 bif b29 then (
 AS.asAddr (.pointer x0) λi33 i34=>
 ∃a35,(H27.bump 34).cell i33 i34=some (.pointer a35)/\
 CA en F.smem_Mem_Count [(.pointer a35)] (H27.bump 34) λv36 H37=>
 ∃n38,v36=(.int .i64 n38)/\
 bif (n38==n22) then (
 AS.asAddr (.pointer x1) λi39 i40=>
 ∃a41,H37.cell i39 (i40+10)=some (.pointer a41)/\
 CA en F.lru_Run_Result [(.pointer a41)] H37 λv42 H43=>
 ∃n44,∃a45 i46,∃n47,∃n48,v42=(.agg #[(.int .i64 n44),(.slice a45 i46 0),(.int .u64 n47),(.int .i64 n48)])/\
 AS.asAddr (.pointer x1) λi49 i50=>
 ∃n51,∃a52 i53,∃n54,∃n55,H43.cellsAt i49 (i50+18) 4=some [(.int .i64 n51),(.slice a52 i53 0),(.int .u64 n54),(.int .i64 n55)]/\
 CA en F.crossbarkit_SameRes [(.agg #[(.int .i64 n44),(.slice a45 i46 0),(.int .u64 n47),(.int .i64 n48)]),(.agg #[(.int .i64 n51),(.slice a52 i53 0),(.int .u64 n54),(.int .i64 n55)])] H43 λv56 H57=>
 ∃b58,v56=(.bool b58)/\
 (
 R (.tuple #[(.bool true),(.bool b58)]) H57)/\
 ((∃n64,∃a65 i66,∃n67,∃n68,H37.cellsAt i49 (i50+18) 4=some [(.int .i64 n64),(.slice a65 i66 0),(.int .u64 n67),(.int .i64 n68)]/\
 sameN 8 (.agg #[(.int .i64 n51),(.slice a52 i53 0),(.int .u64 n54),(.int .i64 n55)]) (.agg #[(.int .i64 n64),(.slice a65 i66 0),(.int .u64 n67),(.int .i64 n68)])=true)/\(∃n59,∃a60 i61,∃n62,∃n63,H43.cellsAt i49 (i50+18) 4=some [(.int .i64 n59),(.slice a60 i61 0),(.int .u64 n62),(.int .i64 n63)]/\
 sameN 8 (.agg #[(.int .i64 n51),(.slice a52 i53 0),(.int .u64 n54),(.int .i64 n55)]) (.agg #[(.int .i64 n59),(.slice a60 i61 0),(.int .u64 n62),(.int .i64 n63)])=true)/\True)/\
 True)
 else (
 (
 R (.tuple #[(.bool true),(.bool false)]) H37)/\
 True))
 else (
 (
 R (.tuple #[(.bool true),(.bool false)]) (H27.bump 34))/\
 True))
 else (
 (
 R (.tuple #[(.bool true),(.bool false)]) (H27.bump 34))/\
 True))
 else (
 (
 R (.tuple #[(.bool true),(.bool false)]) (H27.bump 34))/\
 True))))
 else (
 bif (!b13) then (
 R (.tuple #[(.bool false),(.bool true)]) H11)
 else (
 AS.asAddr (.pointer x0) λi69 i70=>
 ∃a71,H11.cell i69 i70=some (.pointer a71)/\
 CA en F.smem_Mem_Count [(.pointer a71)] H11 λv72 H73=>
 ∃n74,v72=(.int .i64 n74)/\
 AS.asAddr (.pointer x1) λi75 i76=>
 ∃a77,H73.cell i75 (i76+10)=some (.pointer a77)/\
 CA en F.lru_Run_Step [(.pointer a77)] H73 λv78 H79=>
 ∃b80,∃b81,v78=(.tuple #[(.bool b80),(.bool b81)])/\
 AS.asAddr (.pointer x1) λi82 i83=>
 ∃b84,(H79.bump 34).cell i82 (i83+17)=some (.bool b84)/\
 bif b84 then (
 bif (!b80) then (
 bif b81 then (
 AS.asAddr (.pointer x0) λi85 i86=>
 ∃a87,(H79.bump 34).cell i85 i86=some (.pointer a87)/\
 CA en F.smem_Mem_Count [(.pointer a87)] (H79.bump 34) λv88 H89=>
 ∃n90,v88=(.int .i64 n90)/\
 bif (n90==n74) then (
 AS.asAddr (.pointer x1) λi91 i92=>
 ∃a93,H89.cell i91 (i92+10)=some (.pointer a93)/\
 CA en F.lru_Run_Result [(.pointer a93)] H89 λv94 H95=>
 ∃n96,∃a97 i98,∃n99,∃n100,v94=(.agg #[(.int .i64 n96),(.slice a97 i98 0),(.int .u64 n99),(.int .i64 n100)])/\
 AS.asAddr (.pointer x1) λi101 i102=>
 ∃n103,∃a104 i105,∃n106,∃n107,H95.cellsAt i101 (i102+18) 4=some [(.int .i64 n103),(.slice a104 i105 0),(.int .u64 n106),(.int .i64 n107)]/\
 CA en F.crossbarkit_SameRes [(.agg #[(.int .i64 n96),(.slice a97 i98 0),(.int .u64 n99),(.int .i64 n100)]),(.agg #[(.int .i64 n103),(.slice a104 i105 0),(.int .u64 n106),(.int .i64 n107)])] H95 λv108 H109=>
 ∃b110,v108=(.bool b110)/\
 (
 R (.tuple #[(.bool true),(.bool b110)]) H109)/\
 ((∃n116,∃a117 i118,∃n119,∃n120,H89.cellsAt i101 (i102+18) 4=some [(.int .i64 n116),(.slice a117 i118 0),(.int .u64 n119),(.int .i64 n120)]/\
 sameN 8 (.agg #[(.int .i64 n103),(.slice a104 i105 0),(.int .u64 n106),(.int .i64 n107)]) (.agg #[(.int .i64 n116),(.slice a117 i118 0),(.int .u64 n119),(.int .i64 n120)])=true)/\(∃n111,∃a112 i113,∃n114,∃n115,H95.cellsAt i101 (i102+18) 4=some [(.int .i64 n111),(.slice a112 i113 0),(.int .u64 n114),(.int .i64 n115)]/\
 sameN 8 (.agg #[(.int .i64 n103),(.slice a104 i105 0),(.int .u64 n106),(.int .i64 n107)]) (.agg #[(.int .i64 n111),(.slice a112 i113 0),(.int .u64 n114),(.int .i64 n115)])=true)/\True)/\
 True)
 else (
 (
 R (.tuple #[(.bool true),(.bool false)]) H89)/\
 True))
 else (
 (
 R (.tuple #[(.bool true),(.bool false)]) (H79.bump 34))/\
 True))
 else (
 (
 R (.tuple #[(.bool true),(.bool false)]) (H79.bump 34))/\
 True))
 else (
 (
 R (.tuple #[(.bool true),(.bool false)]) (H79.bump 34))/\
 True))))->
  CA en F.crossbarlaw16_side_runs [(.pointer x0),(.pointer x1)] H R:=by
 intro h;refine wpFn_ok (Z:=[]) (fn:=Go.Proofs.Tryz.f108) ?_ ?_ ?_
 ·kernel_rfl
 ·kernel_rfl
 ·apply turnInto h
  kernel_rfl
noncomputable def L_crossbarlaw16_side_told_0:Code:=loopAt Go.Proofs.Tryz.f109 0
theorem vc_crossbarlaw16_side_told (x0:Option Addr)(x1:Int)(H:Heap)(R:Value->Heap->Prop) :
  (
 LA en L_crossbarlaw16_side_told_0 [(.pointer x0),(.int .i64 x1),undef,undef,(.int .i64 0),(.int .i64 0),undef,undef,undef,undef,undef,undef,undef,undef,undef,undef,undef,undef,undef,undef,undef,undef,undef,undef,undef,undef,undef,undef,undef,undef,undef,undef,undef,undef] H [(X.exit 0,λ(y1:Fr)(H2:Heap)=>
 AS.asInt .i64 (y1.getD 4 undef) λn3=>
 R (.int .i64 0) H2),
 (X.ret,λ(y4:Fr)(H5:Heap)=>
 AS.asInt .i64 (y4.getD 4 undef) λn6=>
 R (.int .i64 n6) H5)])->
  CA en F.crossbarlaw16_side_told [(.pointer x0),(.int .i64 x1)] H R:=by
 intro h;refine wpFn_ok (Z:=[[(4,(.int .i64 0))]]) (fn:=Go.Proofs.Tryz.f109) ?_ ?_ ?_
 ·kernel_rfl
 ·kernel_rfl
 ·apply turnInto h
  kernel_rfl
theorem use_crossbarlaw16_side_told_0 {t0:Option Addr}{t1:Int}{K0:Fr->Heap->Prop}{K1:Fr->Heap->Prop}{t4:Int}{t5:Int}{t6:Value}{t7:Value}{t8:Value}{t9:Value}{t10:Value}{t11:Value}{t12:Value}{t13:Value}{t14:Value}{t15:Value}{t16:Value}{t17:Value}{t18:Value}{t19:Value}{t20:Value}{t21:Value}{t22:Value}{t23:Value}{t24:Value}{t25:Value}{t26:Value}{t27:Value}{t28:Value}{t29:Value}{t30:Value}{t31:Value}{t32:Value}{t33:Value}{H:Heap}(I:Nat->Int->Int->Heap->Prop)(n:Nat)(h0:I n t4 t5 H)
  (hstep:∀(n:Nat)(t4:Int)(t5:Int)(ys:Fr)(H:Heap),I n t4 t5 H->
  (
 AS.asAddr (.pointer t0) λi1 i2=>
 ∃a3 i4,H.cell i1 (i2+6)=some (.slice a3 i4 0)/\
 bif (decide (t5<((i4:Nat):Int))) then (
 AS.asAddr (.pointer t0) λi5 i6=>
 ∃a7 i8,H.cell i5 (i6+6)=some (.slice a7 i8 0)/\
 inB t5 i8/\
 asRow a7 λi9 i10=>
 ∃n11,H.cell i9 (i10+(t5.toNat*1))=some (.int .i64 n11)/\
 bif (n11==t1) then (
 AS.asAddr (.pointer t0) λi12 i13=>
 ∃a14 i15,H.cell i12 ((i13+6)+1)=some (.slice a14 i15 0)/\
 inB t5 i15/\
 asRow a14 λi16 i17=>
 ∃n18,H.cell i16 (i17+(t5.toNat*1))=some (.int .i64 n18)/\
 K1 [(.pointer t0),(.int .i64 t1),undef,undef,(.int .i64 n18),(.int .i64 t5),(.int .i64 t5),(.pointer t0),(.pointer (some ⟨i1,i2,none⟩)),(.pointer (some ⟨i1,(i2+6),none⟩)),(.pointer (some ⟨i1,(i2+6),none⟩)),(.slice a3 i4 0),(.int .i64 ((i4:Nat):Int)),(.bool true),(ys.getD 14 undef),(ys.getD 15 undef),(.pointer t0),(.pointer (some ⟨i5,i6,none⟩)),(.pointer (some ⟨i5,(i6+6),none⟩)),(.pointer (some ⟨i5,(i6+6),none⟩)),(.slice a7 i8 0),(.int .i64 t5),(.pointer (some ⟨i9,(i10+(t5.toNat*1)),none⟩)),(.int .i64 n11),(.int .i64 t1),(.bool true),(.pointer t0),(.pointer (some ⟨i12,i13,none⟩)),(.pointer (some ⟨i12,(i13+6),none⟩)),(.pointer (some ⟨i12,((i13+6)+1),none⟩)),(.slice a14 i15 0),(.int .i64 t5),(.pointer (some ⟨i16,(i17+(t5.toNat*1)),none⟩)),(.int .i64 n18)] H)
 else (
 ∃k19,k19<n/\
 I k19 t4 (IntKind.i64.wrap (t5+1)) H))
 else (
 K0 [(.pointer t0),(.int .i64 t1),undef,undef,(.int .i64 t4),(.int .i64 t5),(.int .i64 t5),(.pointer t0),(.pointer (some ⟨i1,i2,none⟩)),(.pointer (some ⟨i1,(i2+6),none⟩)),(.pointer (some ⟨i1,(i2+6),none⟩)),(.slice a3 i4 0),(.int .i64 ((i4:Nat):Int)),(.bool false),(ys.getD 14 undef),(ys.getD 15 undef),(ys.getD 16 undef),(ys.getD 17 undef),(ys.getD 18 undef),(ys.getD 19 undef),(ys.getD 20 undef),(ys.getD 21 undef),(ys.getD 22 undef),(ys.getD 23 undef),(ys.getD 24 undef),(ys.getD 25 undef),(ys.getD 26 undef),(ys.getD 27 undef),(ys.getD 28 undef),(ys.getD 29 undef),(ys.getD 30 undef),(ys.getD 31 undef),(ys.getD 32 undef),(ys.getD 33 undef)] H))) :
  LA en L_crossbarlaw16_side_told_0 [(.pointer t0),(.int .i64 t1),undef,undef,(.int .i64 t4),(.int .i64 t5),t6,t7,t8,t9,t10,t11,t12,t13,t14,t15,t16,t17,t18,t19,t20,t21,t22,t23,t24,t25,t26,t27,t28,t29,t30,t31,t32,t33] H [(X.exit 0,K0),(X.ret,K1)]:=by
 refine LA_rule (Z:=[]) (λm xs H'=>AS.asInt .i64 (xs.getD 4 undef) λt4=>AS.asInt .i64 (xs.getD 5 undef) λt5=>I m t4 t5 H') ?_ n H ?_
 ·intro n H
  suffices hs:∀s6:Value,∀s7:Value,∀s8:Value,∀s9:Value,∀s10:Value,∀s11:Value,∀s12:Value,∀s13:Value,∀s16:Value,∀s17:Value,∀s18:Value,∀s19:Value,∀s20:Value,∀s21:Value,∀s22:Value,∀s23:Value,∀s24:Value,∀s25:Value,∀s26:Value,∀s27:Value,∀s28:Value,∀s29:Value,∀s30:Value,∀s31:Value,∀s32:Value,∀s33:Value,∀s4:Value,∀s14:Value,∀s15:Value,∀s5:Value,((AS.asInt .i64 s4 λt4=>AS.asInt .i64 s5 λt5=>I n t4 t5 H)->wpCode en L_crossbarlaw16_side_told_0 [] [(.pointer t0),(.int .i64 t1),undef,undef,s4,s5,s6,s7,s8,s9,s10,s11,s12,s13,s14,s15,s16,s17,s18,s19,s20,s21,s22,s23,s24,s25,s26,s27,s28,s29,s30,s31,s32,s33] H (loopQ (λm xs H'=>AS.asInt .i64 (xs.getD 4 undef) λt4=>AS.asInt .i64 (xs.getD 5 undef) λt5=>I m t4 t5 H') n [(X.exit 0,K0),(X.ret,K1)])) by
   apply turnInto hs
   kernel_rfl
  intro s6 s7 s8 s9 s10 s11 s12 s13 s16 s17 s18 s19 s20 s21 s22 s23 s24 s25 s26 s27 s28 s29 s30 s31 s32 s33 s4 s14 s15 s5 hP;replace hP:=asInt_elim hP;obtain ⟨t4,rfl,hP⟩:=hP;replace hP:=asInt_elim hP;obtain ⟨t5,rfl,hP⟩:=hP;apply turnInto (hstep n t4 t5 [(.pointer t0),(.int .i64 t1),undef,undef,(.int .i64 t4),(.int .i64 t5),s6,s7,s8,s9,s10,s11,s12,s13,s14,s15,s16,s17,s18,s19,s20,s21,s22,s23,s24,s25,s26,s27,s28,s29,s30,s31,s32,s33] H hP);kernel_rfl
 ·apply turnInto h0
  kernel_rfl
theorem vc_crossbarlaw16_side_enters (x0:Option Addr)(x1:Option Addr)(H:Heap)(R:Value->Heap->Prop) :
  (
 AS.asAddr (.pointer x1) λi1 i2=>
 ∃a3,H.cell i1 (i2+11)=some (.pointer a3)/\
 AS.asAddr (.pointer a3) λi4 i5=>
 ∃a6,H.cell i4 i5=some (.pointer a6)/\
 CA en F.lru_Run_Step [(.pointer a6)] H λv7 H8=>
 ∃b9,∃b10,v7=(.tuple #[(.bool b9),(.bool b10)])/\
 bif (!(b9==b10)) then (
 R (.bool false) H8)
 else (
 bif b9 then (
 AS.asAddr (.pointer x1) λi11 i12=>
 ∃b13,H8.cell i11 (i12+17)=some (.bool b13)/\
 bif b13 then (
 R (.bool false) H8)
 else (
 bif b10 then (
 AS.asAddr (.pointer x1) λi14 i15=>
 stc H8 i14 (i15+17) [(.bool true)] λH16=>
 AS.asAddr (.pointer x1) λi17 i18=>
 ∃a19,H16.cell i17 (i18+11)=some (.pointer a19)/\
 CA en F.lru_Visit_Keys [(.pointer a19)] H16 λv20 H21=>
 ∃a22 i23,v20=(.slice a22 i23 0)/\
 CA en F.crossbarkit_CopyWords [(.slice a22 i23 0)] H21 λv24 H25=>
 ∃a26 i27,v24=(.slice a26 i27 0)/\
 AS.asAddr (.pointer x1) λi28 i29=>
 stc H25 i28 (i29+22) [(.slice a26 i27 0)] λH30=>
 AS.asAddr (.pointer x1) λi31 i32=>
 stc H30 i31 (i32+1) [(.int .i64 3)] λH33=>
 AS.asAddr (.pointer x1) λi34 i35=>
 ∃a36 i37,(H33.bump 11).cell i34 (i35+22)=some (.slice a36 i37 0)/\
 AS.asAddr (.pointer x0) λi38 i39=>
 ∃a40,(H33.bump 11).cell i38 (i39+3)=some (.pointer a40)/\
 CA en F.crossbarref16_Map_Keys [(.pointer a40)] (H33.bump 11) λv41 H42=>
 ∃a43 i44,v41=(.slice a43 i44 0)/\
 CA en F.crossbarkit_SameWords [(.slice a36 i37 0),(.slice a43 i44 0)] H42 λv45 H46=>
 ∃b47,v45=(.bool b47)/\
 (
 R (.bool b47) H46)/\
 ((∃a50 i51,(H33.bump 11).cell i34 (i35+22)=some (.slice a50 i51 0)/\
 (a36=a50/\i37=i51/\0=0))/\(∃a48 i49,H42.cell i34 (i35+22)=some (.slice a48 i49 0)/\
 (a36=a48/\i37=i49/\0=0))/\True)/\
 True)
 else (
 R (.bool true) H8)))
 else (
 bif b10 then (
 AS.asAddr (.pointer x1) λi52 i53=>
 stc H8 i52 (i53+17) [(.bool true)] λH54=>
 AS.asAddr (.pointer x1) λi55 i56=>
 ∃a57,H54.cell i55 (i56+11)=some (.pointer a57)/\
 CA en F.lru_Visit_Keys [(.pointer a57)] H54 λv58 H59=>
 ∃a60 i61,v58=(.slice a60 i61 0)/\
 CA en F.crossbarkit_CopyWords [(.slice a60 i61 0)] H59 λv62 H63=>
 ∃a64 i65,v62=(.slice a64 i65 0)/\
 AS.asAddr (.pointer x1) λi66 i67=>
 stc H63 i66 (i67+22) [(.slice a64 i65 0)] λH68=>
 AS.asAddr (.pointer x1) λi69 i70=>
 stc H68 i69 (i70+1) [(.int .i64 3)] λH71=>
 AS.asAddr (.pointer x1) λi72 i73=>
 ∃a74 i75,(H71.bump 11).cell i72 (i73+22)=some (.slice a74 i75 0)/\
 AS.asAddr (.pointer x0) λi76 i77=>
 ∃a78,(H71.bump 11).cell i76 (i77+3)=some (.pointer a78)/\
 CA en F.crossbarref16_Map_Keys [(.pointer a78)] (H71.bump 11) λv79 H80=>
 ∃a81 i82,v79=(.slice a81 i82 0)/\
 CA en F.crossbarkit_SameWords [(.slice a74 i75 0),(.slice a81 i82 0)] H80 λv83 H84=>
 ∃b85,v83=(.bool b85)/\
 (
 R (.bool b85) H84)/\
 ((∃a88 i89,(H71.bump 11).cell i72 (i73+22)=some (.slice a88 i89 0)/\
 (a74=a88/\i75=i89/\0=0))/\(∃a86 i87,H80.cell i72 (i73+22)=some (.slice a86 i87 0)/\
 (a74=a86/\i75=i87/\0=0))/\True)/\
 True)
 else (
 R (.bool true) H8))))->
  CA en F.crossbarlaw16_side_enters [(.pointer x0),(.pointer x1)] H R:=by
 intro h;refine wpFn_ok (Z:=[]) (fn:=Go.Proofs.Tryz.f110) ?_ ?_ ?_
 ·kernel_rfl
 ·kernel_rfl
 ·apply turnInto h
  kernel_rfl
theorem vc_crossbarlaw16_side_visits (x0:Option Addr)(x1:Option Addr)(H:Heap)(R:Value->Heap->Prop) :
  (
 AS.asAddr (.pointer x1) λi1 i2=>
 ∃a3,H.cell i1 (i2+10)=some (.pointer a3)/\
 bif a3.isNone then (
 AS.asAddr (.pointer x1) λi4 i5=>
 ∃n6,(H.bump 10).cell i4 (i5+2)=some (.int .i64 n6)/\
 AS.asAddr (.pointer x1) λi7 i8=>
 ∃a9 i10,(H.bump 10).cell i7 (i8+22)=some (.slice a9 i10 0)/\
 (
 bif (n6==((i10:Nat):Int)) then (
 AS.asAddr (.pointer x1) λi11 i12=>
 ∃a13,(H.bump 10).cell i11 (i12+11)=some (.pointer a13)/\
 CA en F.lru_Visit_Leave [(.pointer a13)] (H.bump 10) λv14 H15=>
 ∃a16,v14=(.pointer a16)/\
 AS.asAddr (.pointer x1) λi17 i18=>
 stc H15 i17 (i18+10) [(.pointer a16)] λH19=>
 AS.asAddr (.pointer x1) λi20 i21=>
 stc H19 i20 (i21+1) [(.int .i64 4)] λH22=>
 AS.asAddr (.pointer x1) λi23 i24=>
 ∃a25,H22.cell i23 (i24+10)=some (.pointer a25)/\
 bif (!a25.isNone) then (
 CA en F.crossbarlaw16_side_leaves [(.pointer x0),(.pointer x1)] H22 λv26 H27=>
 ∃b28,v26=(.bool b28)/\
 R (.bool b28) H27)
 else (
 R (.bool false) H22))
 else (
 AS.asAddr (.pointer x1) λi29 i30=>
 stc (H.bump 10) i29 (i30+17) [(.bool false)] λH31=>
 AS.asAddr (.pointer x1) λi32 i33=>
 ∃a34 i35,(H31.bump 15).cell i32 (i33+22)=some (.slice a34 i35 0)/\
 AS.asAddr (.pointer x1) λi36 i37=>
 ∃n38,(H31.bump 15).cell i36 (i37+2)=some (.int .i64 n38)/\
 inB n38 i35/\
 asRow a34 λi39 i40=>
 ∃n41,(H31.bump 15).cell i39 (i40+(n38.toNat*1))=some (.int .u64 n41)/\
 AS.asAddr (.pointer x1) λi42 i43=>
 stc (H31.bump 15) i42 (i43+12) [(.int .i64 1),(.int .u64 n41),(.slice none 0 0),(.int .i64 0),(.int .i64 0)] λH44=>
 (
 AS.asAddr (.pointer x1) λi45 i46=>
 stc H44 i45 (i46+10) [(.pointer none)] λH47=>
 AS.asAddr (.pointer x1) λi48 i49=>
 ∃n50,H47.cell i48 (i49+3)=some (.int .i64 n50)/\
 bif (n50==2) then (
 AS.asAddr (.pointer x1) λi51 i52=>
 stc H47 i51 (i52+12) [(.int .i64 5)] λH53=>
 AS.asAddr (.pointer x1) λi54 i55=>
 ∃a56,(H53.bump 13).cell i54 (i55+11)=some (.pointer a56)/\
 AS.asAddr (.pointer x1) λi57 i58=>
 ∃n59,(H53.bump 13).cell i57 (i58+2)=some (.int .i64 n59)/\
 CA en F.lru_Visit_Take [(.pointer a56),(.int .i64 n59)] (H53.bump 13) λv60 H61=>
 ∃a62,v60=(.pointer a62)/\
 AS.asAddr (.pointer x1) λi63 i64=>
 stc H61 i63 (i64+10) [(.pointer a62)] λH65=>
 (
 AS.asAddr (.pointer x1) λi66 i67=>
 ∃n68,H65.cell i66 (i67+2)=some (.int .i64 n68)/\
 AS.asAddr (.pointer x1) λi69 i70=>
 stc H65 i69 (i70+2) [(.int .i64 (IntKind.i64.wrap (n68+1)))] λH71=>
 AS.asAddr (.pointer x1) λi72 i73=>
 ∃a74,H71.cell i72 (i73+10)=some (.pointer a74)/\
 bif a74.isNone then (
 R (.bool false) H71)
 else (
 CA en F.crossbarlaw16_side_runs [(.pointer x0),(.pointer x1)] H71 λv75 H76=>
 ∃b77,∃b78,v75=(.tuple #[(.bool b77),(.bool b78)])/\
 bif b77 then (
 AS.asAddr (.pointer x1) λi79 i80=>
 stc H76 i79 (i80+10) [(.pointer none)] λH81=>
 R (.bool b78) H81)
 else (
 R (.bool b78) H76)))/\
 True)
 else (
 AS.asAddr (.pointer x1) λi82 i83=>
 ∃a84,(H47.bump 13).cell i82 (i83+11)=some (.pointer a84)/\
 AS.asAddr (.pointer x1) λi85 i86=>
 ∃n87,(H47.bump 13).cell i85 (i86+2)=some (.int .i64 n87)/\
 CA en F.lru_Visit_Look [(.pointer a84),(.int .i64 n87)] (H47.bump 13) λv88 H89=>
 ∃a90,v88=(.pointer a90)/\
 AS.asAddr (.pointer x1) λi91 i92=>
 stc H89 i91 (i92+10) [(.pointer a90)] λH93=>
 (
 AS.asAddr (.pointer x1) λi94 i95=>
 ∃n96,H93.cell i94 (i95+2)=some (.int .i64 n96)/\
 AS.asAddr (.pointer x1) λi97 i98=>
 stc H93 i97 (i98+2) [(.int .i64 (IntKind.i64.wrap (n96+1)))] λH99=>
 AS.asAddr (.pointer x1) λi100 i101=>
 ∃a102,H99.cell i100 (i101+10)=some (.pointer a102)/\
 bif a102.isNone then (
 R (.bool false) H99)
 else (
 CA en F.crossbarlaw16_side_runs [(.pointer x0),(.pointer x1)] H99 λv103 H104=>
 ∃b105,∃b106,v103=(.tuple #[(.bool b105),(.bool b106)])/\
 bif b105 then (
 AS.asAddr (.pointer x1) λi107 i108=>
 stc H104 i107 (i108+10) [(.pointer none)] λH109=>
 R (.bool b106) H109)
 else (
 R (.bool b106) H104)))/\
 True))/\
 True))/\
 True)
 else (
 CA en F.crossbarlaw16_side_runs [(.pointer x0),(.pointer x1)] H λv110 H111=>
 ∃b112,∃b113,v110=(.tuple #[(.bool b112),(.bool b113)])/\
 bif b112 then (
 AS.asAddr (.pointer x1) λi114 i115=>
 stc H111 i114 (i115+10) [(.pointer none)] λH116=>
 R (.bool b113) H116)
 else (
 R (.bool b113) H111)))->
  CA en F.crossbarlaw16_side_visits [(.pointer x0),(.pointer x1)] H R:=by
 intro h;refine wpFn_ok (Z:=[]) (fn:=Go.Proofs.Tryz.f111) ?_ ?_ ?_
 ·kernel_rfl
 ·kernel_rfl
 ·apply turnInto h
  kernel_rfl
theorem vc_crossbarlaw16_side_leaves (x0:Option Addr)(x1:Option Addr)(H:Heap)(R:Value->Heap->Prop) :
  (
 AS.asAddr (.pointer x1) λi1 i2=>
 ∃a3,H.cell i1 (i2+10)=some (.pointer a3)/\
 CA en F.lru_Run_Step [(.pointer a3)] H λv4 H5=>
 ∃b6,∃b7,v4=(.tuple #[(.bool b6),(.bool b7)])/\
 bif b7 then (
 AS.asAddr (.pointer x1) λi8 i9=>
 stc H5 i8 (i9+1) [(.int .i64 6)] λH10=>
 R (.bool (!b6)) H10)
 else (
 R (.bool (!b6)) H5))->
  CA en F.crossbarlaw16_side_leaves [(.pointer x0),(.pointer x1)] H R:=by
 intro h;refine wpFn_ok (Z:=[]) (fn:=Go.Proofs.Tryz.f112) ?_ ?_ ?_
 ·kernel_rfl
 ·kernel_rfl
 ·apply turnInto h
  kernel_rfl
theorem vc_crossbarlaw16_side_cell (x0:Option Addr)(x1:Option Addr)(H:Heap)(R:Value->Heap->Prop) :
  (
 AS.asAddr (.pointer x0) λi1 i2=>
 ∃a3,(H.bump 15).cell i1 (i2+2)=some (.pointer a3)/\
 AS.asAddr (.pointer x1) λi4 i5=>
 ∃n6,(H.bump 15).cell i4 ((i5+18)+3)=some (.int .i64 n6)/\
 CA en F.lru_Map_Cell [(.pointer a3),(.int .i64 n6)] (H.bump 15) λv7 H8=>
 ∃n9,∃n10,v7=(.tuple #[(.int .i64 n9),(.int .i64 n10)])/\
 (
 AS.asAddr (.pointer x1) λi11 i12=>
 ∃n13,H8.cell i11 (i12+2)=some (.int .i64 n13)/\
 bif (n13==0) then (
 AS.asAddr (.pointer x1) λi14 i15=>
 stc H8 i14 (i15+2) [(.int .i64 1)] λH16=>
 AS.asAddr (.pointer x0) λi17 i18=>
 ∃a19,(H16.bump 19).cell i17 (i18+3)=some (.pointer a19)/\
 AS.asAddr (.pointer a19) λi20 i21=>
 ∃a22 i23,(H16.bump 19).cell i20 (i21+6)=some (.slice a22 i23 0)/\
 AS.asAddr (.pointer x1) λi24 i25=>
 ∃n26,(H16.bump 19).cell i24 (i25+23)=some (.int .i64 n26)/\
 AS.asAddr (.pointer x1) λi27 i28=>
 ∃n29,(H16.bump 19).cell i27 ((i28+3)+6)=some (.int .u64 n29)/\
 inB (IntKind.i64.wrap (n26 - 1)) i23/\
 asRow a22 λi30 i31=>
 stc (H16.bump 19) i30 (i31+((IntKind.i64.wrap (n26 - 1)).toNat*1)) [(.int .u64 n29)] λH32=>
 (
 AS.asAddr (.pointer x0) λi33 i34=>
 ∃a35,(H32.bump 13).cell i33 i34=some (.pointer a35)/\
 AS.asAddr (.pointer x1) λi36 i37=>
 ∃n38,(H32.bump 13).cell i36 ((i37+3)+6)=some (.int .u64 n38)/\
 CA en F.smem_Mem_Store [(.pointer a35),(.int .i64 n9),(.int .i64 n10),(.int .u64 n38)] (H32.bump 13) λv39 H40=>
 ∃b41,v39=(.bool b41)/\
 (
 R (.bool b41) H40)/\
 True)/\
 True)
 else (
 AS.asAddr (.pointer x1) λi42 i43=>
 stc H8 i42 (i43+1) [(.int .i64 6)] λH44=>
 AS.asAddr (.pointer x0) λi45 i46=>
 ∃a47,H44.cell i45 i46=some (.pointer a47)/\
 CA en F.smem_Mem_Load [(.pointer a47),(.int .i64 n9),(.int .i64 n10)] H44 λv48 H49=>
 ∃n50,∃b51,v48=(.tuple #[(.int .u64 n50),(.bool b51)])/\
 bif b51 then (
 AS.asAddr (.pointer x0) λi52 i53=>
 ∃a54,(H49.bump 20).cell i52 (i53+3)=some (.pointer a54)/\
 AS.asAddr (.pointer a54) λi55 i56=>
 ∃a57 i58,(H49.bump 20).cell i55 (i56+6)=some (.slice a57 i58 0)/\
 AS.asAddr (.pointer x1) λi59 i60=>
 ∃n61,(H49.bump 20).cell i59 (i60+23)=some (.int .i64 n61)/\
 inB (IntKind.i64.wrap (n61 - 1)) i58/\
 asRow a57 λi62 i63=>
 ∃n64,(H49.bump 20).cell i62 (i63+((IntKind.i64.wrap (n61 - 1)).toNat*1))=some (.int .u64 n64)/\
 (
 R (.bool (n50==n64)) (H49.bump 20))/\
 True)
 else (
 (
 R (.bool false) (H49.bump 20))/\
 True)))/\
 True)->
  CA en F.crossbarlaw16_side_cell [(.pointer x0),(.pointer x1)] H R:=by
 intro h;refine wpFn_ok (Z:=[]) (fn:=Go.Proofs.Tryz.f113) ?_ ?_ ?_
 ·kernel_rfl
 ·kernel_rfl
 ·apply turnInto h
  kernel_rfl
theorem vc_crossbarlaw16_side_finish (x0:Option Addr)(x1:Int)(H:Heap)(R:Value->Heap->Prop) :
  (
 AS.asAddr (.pointer x0) λi1 i2=>
 ∃a3 i4,H.cell i1 (i2+5)=some (.slice a3 i4 0)/\
 inB x1 i4/\
 asRow a3 λi5 i6=>
 stc H i5 ((i6+(x1.toNat*24))+1) [(.int .i64 0)] λH7=>
 AS.asAddr (.pointer x0) λi8 i9=>
 ∃a10,H7.cell i8 (i9+1)=some (.pointer a10)/\
 CA en F.grace_Grace_Leave [(.pointer a10),(.int .i64 x1)] H7 λv11 H12=>
 ∃a13 i14,v11=(.slice a13 i14 0)/\
 R undef H12)->
  CA en F.crossbarlaw16_side_finish [(.pointer x0),(.int .i64 x1)] H R:=by
 intro h;refine wpFn_ok (Z:=[]) (fn:=Go.Proofs.Tryz.f114) ?_ ?_ ?_
 ·kernel_rfl
 ·kernel_rfl
 ·apply turnInto h
  kernel_rfl
theorem vc_crossbarlaw16_side_took (x0:Option Addr)(x1:Option Addr)(x2:Int)(H:Heap)(R:Value->Heap->Prop) :
  (
 AS.asAddr (.pointer x1) λi1 i2=>
 ∃b3,H.cell i1 (i2+17)=some (.bool b3)/\
 bif b3 then (
 R (.bool false) H)
 else (
 AS.asAddr (.pointer x1) λi4 i5=>
 stc H i4 (i5+17) [(.bool true)] λH6=>
 AS.asAddr (.pointer x1) λi7 i8=>
 ∃a9,H6.cell i7 (i8+10)=some (.pointer a9)/\
 CA en F.lru_Run_Result [(.pointer a9)] H6 λv10 H11=>
 ∃n12,∃a13 i14,∃n15,∃n16,v10=(.agg #[(.int .i64 n12),(.slice a13 i14 0),(.int .u64 n15),(.int .i64 n16)])/\
 CA en F.crossbarkit_CopyRes [(.agg #[(.int .i64 n12),(.slice a13 i14 0),(.int .u64 n15),(.int .i64 n16)])] H11 λv17 H18=>
 ∃n19,∃a20 i21,∃n22,∃n23,v17=(.agg #[(.int .i64 n19),(.slice a20 i21 0),(.int .u64 n22),(.int .i64 n23)])/\
 AS.asAddr (.pointer x1) λi24 i25=>
 stc H18 i24 (i25+18) [(.int .i64 n19),(.slice a20 i21 0),(.int .u64 n22),(.int .i64 n23)] λH26=>
 AS.asAddr (.pointer x1) λi27 i28=>
 ∃n29,H26.cell i27 (i28+18)=some (.int .i64 n29)/\
 bif (n29==5) then (
 AS.asAddr (.pointer x1) λi30 i31=>
 ∃n32,H26.cell i30 (i31+12)=some (.int .i64 n32)/\
 bif (n32==2) then (
 AS.asAddr (.pointer x1) λi33 i34=>
 ∃n35,H26.cell i33 ((i34+12)+3)=some (.int .i64 n35)/\
 bif (n35 !=2) then (
 bif (decide (x2<8)) then (
 AS.asAddr (.pointer x1) λi36 i37=>
 ∃n38,∃a39 i40,∃n41,∃n42,H26.cellsAt i36 (i37+18) 4=some [(.int .i64 n38),(.slice a39 i40 0),(.int .u64 n41),(.int .i64 n42)]/\
 CA en F.crossbarkit_LikeRes [(.agg #[(.int .i64 n38),(.slice a39 i40 0),(.int .u64 n41),(.int .i64 n42)]),(.agg #[(.int .i64 5),(.slice none 0 0),(.int .u64 0),(.int .i64 0)])] H26 λv43 H44=>
 ∃b45,v43=(.bool b45)/\
 bif b45 then (
 AS.asAddr (.pointer x1) λi46 i47=>
 ∃n48,H44.cell i46 ((i47+18)+3)=some (.int .i64 n48)/\
 R (.bool (n48==0)) H44)
 else (
 R (.bool false) H44))
 else (
 R (.bool false) H26))
 else (
 R (.bool false) H26))
 else (
 R (.bool false) H26))
 else (
 AS.asAddr (.pointer x0) λi49 i50=>
 ∃a51,((H26.bump 11).set (H26.next+9) (.cells true 0 [(.int .i64 0),(.slice none 0 0),(.int .u64 0),(.int .i64 0)])).cell i49 (i50+3)=some (.pointer a51)/\
 AS.asAddr (.pointer x1) λi52 i53=>
 ∃n54,∃n55,∃a56 i57,∃n58,∃n59,((H26.bump 11).set (H26.next+9) (.cells true 0 [(.int .i64 0),(.slice none 0 0),(.int .u64 0),(.int .i64 0)])).cellsAt i52 (i53+12) 5=some [(.int .i64 n54),(.int .u64 n55),(.slice a56 i57 0),(.int .i64 n58),(.int .i64 n59)]/\
 CA en F.crossbarref16_Map_Do [(.pointer a51),(.agg #[(.int .i64 n54),(.int .u64 n55),(.slice a56 i57 0),(.int .i64 n58),(.int .i64 n59)])] ((H26.bump 11).set (H26.next+9) (.cells true 0 [(.int .i64 0),(.slice none 0 0),(.int .u64 0),(.int .i64 0)])) λv60 H61=>
 ∃n62,∃a63 i64,∃n65,∃n66,v60=(.agg #[(.int .i64 n62),(.slice a63 i64 0),(.int .u64 n65),(.int .i64 n66)])/\
 stc H61 (H26.next+9) 0 [(.int .i64 n62),(.slice a63 i64 0),(.int .u64 n65),(.int .i64 n66)] λH67=>
 (
 AS.asAddr (.pointer x1) λi70 i71=>
 ∃n72,∃a73 i74,∃n75,∃n76,(H67.bump 20).cellsAt i70 (i71+18) 4=some [(.int .i64 n72),(.slice a73 i74 0),(.int .u64 n75),(.int .i64 n76)]/\
 ∃n77,∃a78 i79,∃n80,∃n81,(H67.bump 20).cellsAt (H26.next+9) 0 4=some [(.int .i64 n77),(.slice a78 i79 0),(.int .u64 n80),(.int .i64 n81)]/\
 CA en F.crossbarkit_LikeRes [(.agg #[(.int .i64 n72),(.slice a73 i74 0),(.int .u64 n75),(.int .i64 n76)]),(.agg #[(.int .i64 n77),(.slice a78 i79 0),(.int .u64 n80),(.int .i64 n81)])] (H67.bump 20) λv82 H83=>
 ∃b84,v82=(.bool b84)/\
 bif b84 then (
 AS.asAddr (.pointer x0) λi85 i86=>
 AS.asAddr (.pointer x1) λi87 i88=>
 ∃n89,H83.cell i87 ((i88+18)+3)=some (.int .i64 n89)/\
 ∃n90,H83.cell (H26.next+9) 3=some (.int .i64 n90)/\
 CA en F.crossbarkit_Pairs_May [(.pointer (some ⟨i85,(i86+6),none⟩)),(.int .i64 n89),(.int .i64 n90)] H83 λv91 H92=>
 ∃b93,v91=(.bool b93)/\
 (
 R (.bool b93) H92)/\
 True)
 else (
 (
 R (.bool false) H83)/\
 True))/\
 ((∃c69,((H26.bump 11).set (H26.next+9) (.cells true 0 [(.int .i64 0),(.slice none 0 0),(.int .u64 0),(.int .i64 0)])).get (H26.next+9)=some (.cells true 0 c69)/\sameN.sameL 8 [(.int .i64 0),(.slice none 0 0),(.int .u64 0),(.int .i64 0)] c69=true)/\(∃c68,H61.get (H26.next+9)=some (.cells true 0 c68)/\sameN.sameL 8 [(.int .i64 0),(.slice none 0 0),(.int .u64 0),(.int .i64 0)] c68=true)/\True)/\
 True)))->
  CA en F.crossbarlaw16_side_took [(.pointer x0),(.pointer x1),(.int .i64 x2)] H R:=by
 intro h;refine wpFn_ok (Z:=[]) (fn:=Go.Proofs.Tryz.f164) ?_ ?_ ?_
 ·kernel_rfl
 ·kernel_rfl
 ·apply turnInto h
  kernel_rfl
end
end Go.Proofs.YtjggeoghlicmdaaGreat
