/-
  lruRuns.proved: part 5 of its proof. No condition.
  Written by a program out of the texts VcLr.
-/
import Derived.Test.YtjggeoghlicmdaaGreatLruRunsP4
set_option linter.unusedVariables false
namespace Go.Proofs.YtjggeoghlicmdaaGreat
open Go Go.AS Go.RowKit
section
set_option maxRecDepth 100000
set_option maxHeartbeats 2000000
theorem vc_lru_New (x0:Option Addr)(x1:Option Addr)(x2_0:Int)(x2_1:Int)(x2_2:Int)(x2_3:Int)(x2_4:Int)(x3:Int)(H:Heap)(R:Value->Heap->Prop) :
  (
 nwH H (.cells true 0 [(.int .i64 x2_0),(.int .i64 x2_1),(.int .i64 x2_2),(.int .i64 x2_3),(.int .i64 x2_4)]) λi1 H2=>
 ∃n3,∃n4,∃n5,∃n6,∃n7,H2.cellsAt i1 0 5=some [(.int .i64 n3),(.int .i64 n4),(.int .i64 n5),(.int .i64 n6),(.int .i64 n7)]/\
 nwH H2 (.cells true 5 [(.int .i64 n3),(.int .i64 n4),(.int .i64 n5),(.int .i64 n6),(.int .i64 n7)]) λi8 H9=>
 CA en F.decl_Check [(.slice (some ⟨i8,0,none⟩) 1 0)] H9 λv10 H11=>
 ∃n12,v10=(.int .i64 n12)/\
 bif (n12 !=0) then (
 R (.tuple #[(.pointer none),(.int .i64 1)]) H11)
 else (
 ∃n13,H11.cell i1 0=some (.int .i64 n13)/\
 bif (n13 !=5) then (
 R (.tuple #[(.pointer none),(.int .i64 1)]) H11)
 else (
 CA en F.smem_Mem_Make [(.pointer x0),(.int .i64 4)] H11 λv14 H15=>
 ∃n16,∃n17,v14=(.tuple #[(.int .i64 n16),(.int .i64 n17)])/\
 bif (n17 !=0) then (
 R (.tuple #[(.pointer none),(.int .i64 n17)]) H15)
 else (
 ∃n18,∃n19,∃n20,∃n21,∃n22,H15.cellsAt i1 0 5=some [(.int .i64 n18),(.int .i64 n19),(.int .i64 n20),(.int .i64 n21),(.int .i64 n22)]/\
 nwH H15 (.cells true 0 [(.pointer x0),(.pointer x1),(.int .i64 n18),(.int .i64 n19),(.int .i64 n20),(.int .i64 n21),(.int .i64 n22),(.int .i64 n16)]) λi23 H24=>
 R (.tuple #[(.pointer (some ⟨i23,0,none⟩)),(.int .i64 0)]) H24))))->
  CA en F.lru_New [(.pointer x0),(.pointer x1),(.agg #[(.int .i64 x2_0),(.int .i64 x2_1),(.int .i64 x2_2),(.int .i64 x2_3),(.int .i64 x2_4)]),(.int .i64 x3)] H R:=by
 intro h;refine wpFn_ok (Z:=[]) (fn:=Go.Proofs.Tryz.f56) ?_ ?_ ?_
 ·kernel_rfl
 ·kernel_rfl
 ·apply turnInto h
  kernel_rfl
theorem vc_lru_Map_Cell (x0:Option Addr)(x1:Int)(H:Heap)(R:Value->Heap->Prop) :
  (
 bif (decide (x1<1)) then (
 R (.tuple #[(.int .i64 0),(.int .i64 0)]) H)
 else (
 R (.tuple #[(.int .i64 x1),(.int .i64 1)]) H))->
  CA en F.lru_Map_Cell [(.pointer x0),(.int .i64 x1)] H R:=by
 intro h;refine wpFn_ok (Z:=[]) (fn:=Go.Proofs.Tryz.f20) ?_ ?_ ?_
 ·kernel_rfl
 ·kernel_rfl
 ·apply turnInto h
  kernel_rfl
theorem vc_lru_Run_Step (x0:Option Addr)(H:Heap)(R:Value->Heap->Prop) :
  (
 AS.asAddr (.pointer x0) λi1 i2=>
 ∃b3,H.cell i1 (i2+13)=some (.bool b3)/\
 bif b3 then (
 R (.tuple #[(.bool false),(.bool true)]) H)
 else (
 AS.asAddr (.pointer x0) λi4 i5=>
 stc H i4 (i5+12) [(.bool false)] λH6=>
 AS.asAddr (.pointer x0) λi7 i8=>
 ∃v9,H6.cell i7 (i8+11)=some v9/\
 AS.asFn v9 λf10 l11 l12=>
 (∃fn,en.fn f10=some fn)/\
 CA en f10 (l11++[]++l12) H6 λv13 H14=>
 v13=undef/\
 AS.asAddr (.pointer x0) λi15 i16=>
 ∃b17,(H14.bump 10).cell i15 (i16+12)=some (.bool b17)/\
 AS.asAddr (.pointer x0) λi18 i19=>
 ∃b20,(H14.bump 10).cell i18 (i19+13)=some (.bool b20)/\
 (
 R (.tuple #[(.bool b17),(.bool b20)]) (H14.bump 10))/\
 True))->
  CA en F.lru_Run_Step [(.pointer x0)] H R:=by
 intro h;refine wpFn_ok (Z:=[]) (fn:=Go.Proofs.Tryz.f50) ?_ ?_ ?_
 ·kernel_rfl
 ·kernel_rfl
 ·apply turnInto h
  kernel_rfl
theorem vc_lru_Run_Result (x0:Option Addr)(H:Heap)(R:Value->Heap->Prop) :
  (
 nwH H (.cells true 0 [(.int .i64 0),(.slice none 0 0),(.int .u64 0),(.int .i64 0)]) λi1 H2=>
 AS.asAddr (.pointer x0) λi3 i4=>
 ∃n5,∃a6 i7,∃n8,∃n9,H2.cellsAt i3 (i4+7) 4=some [(.int .i64 n5),(.slice a6 i7 0),(.int .u64 n8),(.int .i64 n9)]/\
 nwH H2 (.cells true 0 [(.int .i64 0),(.slice none 0 0),(.int .u64 0),(.int .i64 0)]) λi10 H11=>
 stc H11 i10 0 [(.int .i64 n5),(.slice a6 i7 0),(.int .u64 n8),(.int .i64 n9)] λH12=>
 ∃a13 i14,H12.cell i10 1=some (.slice a13 i14 0)/\
 CA en F.slices_Clone_uint64_uint64 [(.slice a13 i14 0)] H12 λv15 H16=>
 ∃a17 i18,v15=(.slice a17 i18 0)/\
 stc H16 i10 1 [(.slice a17 i18 0)] λH19=>
 ∃n20,∃a21 i22,∃n23,∃n24,H19.cellsAt i10 0 4=some [(.int .i64 n20),(.slice a21 i22 0),(.int .u64 n23),(.int .i64 n24)]/\
 stc H19 i1 0 [(.int .i64 n20),(.slice a21 i22 0),(.int .u64 n23),(.int .i64 n24)] λH25=>
 ∃n26,∃a27 i28,∃n29,∃n30,H25.cellsAt i1 0 4=some [(.int .i64 n26),(.slice a27 i28 0),(.int .u64 n29),(.int .i64 n30)]/\
 R (.agg #[(.int .i64 n26),(.slice a27 i28 0),(.int .u64 n29),(.int .i64 n30)]) H25)->
  CA en F.lru_Run_Result [(.pointer x0)] H R:=by
 intro h;refine wpFn_ok (Z:=[]) (fn:=Go.Proofs.Tryz.f58) ?_ ?_ ?_
 ·kernel_rfl
 ·kernel_rfl
 ·apply turnInto h
  kernel_rfl
theorem vc_lru_Run_enter (x0:Option Addr)(x1:Nat)(x1l:List Value)(x1c:List Value)(H:Heap)(R:Value->Heap->Prop) :
  (
 nwH H (.cells true 0 [(.func (.func x1) ⟨x1l⟩ ⟨x1c⟩)]) λi1 H2=>
 AS.asAddr (.pointer x0) λi3 i4=>
 ∃a5,((H2.bump 17).set (H2.next+15) (.cells true 0 [(.pointer none)])).cell i3 i4=some (.pointer a5)/\
 AS.asAddr (.pointer a5) λi6 i7=>
 ∃a8,((H2.bump 17).set (H2.next+15) (.cells true 0 [(.pointer none)])).cell i6 i7=some (.pointer a8)/\
 AS.asAddr (.pointer x0) λi9 i10=>
 ∃a11,((H2.bump 17).set (H2.next+15) (.cells true 0 [(.pointer none)])).cell i9 i10=some (.pointer a11)/\
 AS.asAddr (.pointer a11) λi12 i13=>
 ∃n14,((H2.bump 17).set (H2.next+15) (.cells true 0 [(.pointer none)])).cell i12 (i13+7)=some (.int .i64 n14)/\
 CA en F.lock_Take [(.pointer a8),(.int .i64 n14),(.int .i64 0)] ((H2.bump 17).set (H2.next+15) (.cells true 0 [(.pointer none)])) λv15 H16=>
 ∃a17,v15=(.pointer a17)/\
 stc H16 (H2.next+15) 0 [(.pointer a17)] λH18=>
 (
 AS.asAddr (.pointer x0) λi21 i22=>
 stc H18 i21 (i22+11) [(.func (.func F.lru_Run_enter_1) #[] #[(.pointer (some ⟨(H2.next+15),0,none⟩)),(.pointer (some ⟨i1,0,none⟩))])] λH23=>
 R undef H23)/\
 ((∃c20,((H2.bump 17).set (H2.next+15) (.cells true 0 [(.pointer none)])).get (H2.next+15)=some (.cells true 0 c20)/\sameN.sameL 8 [(.pointer none)] c20=true)/\(∃c19,H16.get (H2.next+15)=some (.cells true 0 c19)/\sameN.sameL 8 [(.pointer none)] c19=true)/\True)/\
 True)->
  CA en F.lru_Run_enter [(.pointer x0),(.func (.func x1) ⟨x1l⟩ ⟨x1c⟩)] H R:=by
 intro h;refine wpFn_ok (Z:=[]) (fn:=Go.Proofs.Tryz.f92) ?_ ?_ ?_
 ·kernel_rfl
 ·kernel_rfl
 ·apply turnInto h
  kernel_rfl
theorem vc_lru_Run_walk (x0:Option Addr)(x1:Nat)(x1l:List Value)(x1c:List Value)(x2:Nat)(x2l:List Value)(x2c:List Value)(H:Heap)(R:Value->Heap->Prop) :
  (
 nwH H (.cells true 0 [(.pointer x0)]) λi1 H2=>
 nwH H2 (.cells true 0 [(.func (.func x1) ⟨x1l⟩ ⟨x1c⟩)]) λi3 H4=>
 nwH H4 (.cells true 0 [(.func (.func x2) ⟨x2l⟩ ⟨x2c⟩)]) λi5 H6=>
 ∃a7,(H6.bump 6).cell i1 0=some (.pointer a7)/\
 ∃a8,(H6.bump 6).cell i1 0=some (.pointer a8)/\
 CA en F.lru_Run_head [(.pointer a8)] (H6.bump 6) λv9 H10=>
 ∃n11,∃n12,v9=(.agg #[(.int .i64 n11),(.int .i64 n12)])/\
 AS.asAddr (.pointer a7) λi13 i14=>
 stc H10 i13 (i14+15) [(.int .i64 n11),(.int .i64 n12)] λH15=>
 (
 nwH H15 (.cells true 0 [.nilFunc]) λi18 H19=>
 stc H19 i18 0 [(.func (.func F.lru_Run_walk_1) #[] #[(.pointer (some ⟨i1,0,none⟩)),(.pointer (some ⟨i5,0,none⟩)),(.pointer (some ⟨i3,0,none⟩)),(.pointer (some ⟨i18,0,none⟩))])] λH20=>
 ∃v21,H20.cell i18 0=some v21/\
 AS.asFn v21 λf22 l23 l24=>
 (∃fn,en.fn f22=some fn)/\
 CA en f22 (l23++[]++l24) H20 λv25 H26=>
 v25=undef/\
 R undef H26)/\
 ((∃a17,(H6.bump 6).cell i1 0=some (.pointer a17)/\
 a7=a17)/\(∃a16,H10.cell i1 0=some (.pointer a16)/\
 a7=a16)/\True)/\
 True)->
  CA en F.lru_Run_walk [(.pointer x0),(.func (.func x1) ⟨x1l⟩ ⟨x1c⟩),(.func (.func x2) ⟨x2l⟩ ⟨x2c⟩)] H R:=by
 intro h;refine wpFn_ok (Z:=[]) (fn:=Go.Proofs.Tryz.f94) ?_ ?_ ?_
 ·kernel_rfl
 ·kernel_rfl
 ·apply turnInto h
  kernel_rfl
theorem vc_lru_Run_give (x0:Option Addr)(x1_0:Int)(x1_1:Option Addr)(x1_1l:Nat)(x1_2:Int)(x1_3:Int)(H:Heap)(R:Value->Heap->Prop) :
  (
 nwH H (.cells true 0 [(.int .i64 x1_0),(.slice x1_1 x1_1l 0),(.int .u64 x1_2),(.int .i64 x1_3)]) λi1 H2=>
 ∃n3,∃a4 i5,∃n6,∃n7,H2.cellsAt i1 0 4=some [(.int .i64 n3),(.slice a4 i5 0),(.int .u64 n6),(.int .i64 n7)]/\
 AS.asAddr (.pointer x0) λi8 i9=>
 stc H2 i8 (i9+7) [(.int .i64 n3),(.slice a4 i5 0),(.int .u64 n6),(.int .i64 n7)] λH10=>
 AS.asAddr (.pointer x0) λi11 i12=>
 stc H10 i11 (i12+12) [(.bool true)] λH13=>
 R undef H13)->
  CA en F.lru_Run_give [(.pointer x0),(.agg #[(.int .i64 x1_0),(.slice x1_1 x1_1l 0),(.int .u64 x1_2),(.int .i64 x1_3)])] H R:=by
 intro h;refine wpFn_ok (Z:=[]) (fn:=Go.Proofs.Tryz.f99) ?_ ?_ ?_
 ·kernel_rfl
 ·kernel_rfl
 ·apply turnInto h
  kernel_rfl
theorem vc_lru_Run_begin (x0:Option Addr)(H:Heap)(R:Value->Heap->Prop) :
  (
 nwH H (.cells true 0 [(.pointer x0)]) λi1 H2=>
 ∃a3,H2.cell i1 0=some (.pointer a3)/\
 AS.asAddr (.pointer a3) λi4 i5=>
 ∃n6,H2.cell i4 (i5+1)=some (.int .i64 n6)/\
 bif (n6==4) then (
 ∃a7,H2.cell i1 0=some (.pointer a7)/\
 ∃a8,H2.cell i1 0=some (.pointer a8)/\
 ∃a9,H2.cell i1 0=some (.pointer a9)/\
 CA en F.lru_Run_walk [(.pointer a7),(.func (.func F.lru_Run_nearer) #[(.pointer a8)] #[]),(.func (.func F.lru_Run_nearest) #[(.pointer a9)] #[])] H2 λv10 H11=>
 v10=undef/\
 R undef H11)
 else (
 ∃a12,H2.cell i1 0=some (.pointer a12)/\
 ∃a13,H2.cell i1 0=some (.pointer a13)/\
 CA en F.lru_Run_walk [(.pointer a12),(.func (.func F.lru_Run_begin_1) #[] #[(.pointer (some ⟨i1,0,none⟩))]),(.func (.func F.lru_Run_absent) #[(.pointer a13)] #[])] H2 λv14 H15=>
 v14=undef/\
 R undef H15))->
  CA en F.lru_Run_begin [(.pointer x0)] H R:=by
 intro h;refine wpFn_ok (Z:=[]) (fn:=Go.Proofs.Tryz.f100) ?_ ?_ ?_
 ·kernel_rfl
 ·kernel_rfl
 ·apply turnInto h
  kernel_rfl
theorem vc_lru_Run_away (x0:Option Addr)(H:Heap)(R:Value->Heap->Prop) :
  (
 nwH H (.cells true 0 [(.pointer x0)]) λi1 H2=>
 ∃a3,H2.cell i1 0=some (.pointer a3)/\
 AS.asAddr (.pointer a3) λi4 i5=>
 ∃b6,H2.cell i4 (i5+14)=some (.bool b6)/\
 bif b6 then (
 ∃a7,H2.cell i1 0=some (.pointer a7)/\
 AS.asAddr (.pointer a7) λi8 i9=>
 stc H2 i8 (i9+13) [(.bool true)] λH10=>
 R undef H10)
 else (
 ∃a11,H2.cell i1 0=some (.pointer a11)/\
 AS.asAddr (.pointer a11) λi12 i13=>
 stc H2 i12 (i13+11) [(.func (.func F.lru_Run_away_1) #[] #[(.pointer (some ⟨i1,0,none⟩))])] λH14=>
 R undef H14))->
  CA en F.lru_Run_away [(.pointer x0)] H R:=by
 intro h;refine wpFn_ok (Z:=[]) (fn:=Go.Proofs.Tryz.f102) ?_ ?_ ?_
 ·kernel_rfl
 ·kernel_rfl
 ·apply turnInto h
  kernel_rfl
theorem vc_lru_Run_enter_1 (c0:Option Addr)(c1:Option Addr)(H:Heap)(R:Value->Heap->Prop) :
  (
 AS.asAddr (.pointer c0) λi1 i2=>
 ∃a3,H.cell i1 i2=some (.pointer a3)/\
 CA en F.lock_Taker_Step [(.pointer a3)] H λv4 H5=>
 ∃b6,v4=(.bool b6)/\
 bif b6 then (
 AS.asAddr (.pointer c1) λi7 i8=>
 ∃v9,H5.cell i7 i8=some v9/\
 AS.asFn v9 λf10 l11 l12=>
 (∃fn,en.fn f10=some fn)/\
 CA en f10 (l11++[]++l12) H5 λv13 H14=>
 v13=undef/\
 R undef H14)
 else (
 R undef H5))->
  CA en F.lru_Run_enter_1 [(.pointer c0),(.pointer c1)] H R:=by
 intro h;refine wpFn_ok (Z:=[]) (fn:=Go.Proofs.Tryz.f146) ?_ ?_ ?_
 ·kernel_rfl
 ·kernel_rfl
 ·apply turnInto h
  kernel_rfl
theorem vc_lru_Run_head (x0:Option Addr)(H:Heap)(R:Value->Heap->Prop) :
  (
 nwH H (.cells true 0 [(.int .i64 0),(.int .i64 0)]) λi1 H2=>
 AS.asAddr (.pointer x0) λi3 i4=>
 ∃a5,H2.cell i3 i4=some (.pointer a5)/\
 AS.asAddr (.pointer a5) λi6 i7=>
 ∃n8,H2.cell i6 (i7+7)=some (.int .i64 n8)/\
 stc H2 i1 0 [(.int .i64 n8),(.int .i64 2)] λH9=>
 ∃n10,∃n11,H9.cellsAt i1 0 2=some [(.int .i64 n10),(.int .i64 n11)]/\
 R (.agg #[(.int .i64 n10),(.int .i64 n11)]) H9)->
  CA en F.lru_Run_head [(.pointer x0)] H R:=by
 intro h;refine wpFn_ok (Z:=[]) (fn:=Go.Proofs.Tryz.f147) ?_ ?_ ?_
 ·kernel_rfl
 ·kernel_rfl
 ·apply turnInto h
  kernel_rfl
theorem vc_lru_Run_walk_1 (c0:Option Addr)(c1:Option Addr)(c2:Option Addr)(c3:Option Addr)(H:Heap)(R:Value->Heap->Prop) :
  (
 AS.asAddr (.pointer c0) λi1 i2=>
 ∃a3,(H.bump 7).cell i1 i2=some (.pointer a3)/\
 AS.asAddr (.pointer c0) λi4 i5=>
 ∃a6,(H.bump 7).cell i4 i5=some (.pointer a6)/\
 AS.asAddr (.pointer a6) λi7 i8=>
 ∃n9,∃n10,(H.bump 7).cellsAt i7 (i8+15) 2=some [(.int .i64 n9),(.int .i64 n10)]/\
 CA en F.lru_Run_load [(.pointer a3),(.agg #[(.int .i64 n9),(.int .i64 n10)]),(.func (.func F.lru_Run_walk_1_1) #[] #[(.pointer c0),(.pointer c1),(.pointer c2),(.pointer c3)])] (H.bump 7) λv11 H12=>
 v11=undef/\
 (
 R undef H12)/\
 True)->
  CA en F.lru_Run_walk_1 [(.pointer c0),(.pointer c1),(.pointer c2),(.pointer c3)] H R:=by
 intro h;refine wpFn_ok (Z:=[]) (fn:=Go.Proofs.Tryz.f148) ?_ ?_ ?_
 ·kernel_rfl
 ·kernel_rfl
 ·apply turnInto h
  kernel_rfl
theorem vc_lru_Run_load (x0:Option Addr)(x1_0:Int)(x1_1:Int)(x2:Nat)(x2l:List Value)(x2c:List Value)(H:Heap)(R:Value->Heap->Prop) :
  (
 nwH H (.cells true 0 [(.pointer x0)]) λi1 H2=>
 nwH H2 (.cells true 0 [(.int .i64 x1_0),(.int .i64 x1_1)]) λi3 H4=>
 nwH H4 (.cells true 0 [(.func (.func x2) ⟨x2l⟩ ⟨x2c⟩)]) λi5 H6=>
 ∃a7,H6.cell i1 0=some (.pointer a7)/\
 AS.asAddr (.pointer a7) λi8 i9=>
 stc H6 i8 (i9+11) [(.func (.func F.lru_Run_load_1) #[] #[(.pointer (some ⟨i1,0,none⟩)),(.pointer (some ⟨i3,0,none⟩)),(.pointer (some ⟨i5,0,none⟩))])] λH10=>
 R undef H10)->
  CA en F.lru_Run_load [(.pointer x0),(.agg #[(.int .i64 x1_0),(.int .i64 x1_1)]),(.func (.func x2) ⟨x2l⟩ ⟨x2c⟩)] H R:=by
 intro h;refine wpFn_ok (Z:=[]) (fn:=Go.Proofs.Tryz.f149) ?_ ?_ ?_
 ·kernel_rfl
 ·kernel_rfl
 ·apply turnInto h
  kernel_rfl
theorem vc_lru_Run_walk_1_1 (x0:Int)(c0:Option Addr)(c1:Option Addr)(c2:Option Addr)(c3:Option Addr)(H:Heap)(R:Value->Heap->Prop) :
  (
 AS.asAddr (.pointer c0) λi1 i2=>
 ∃a3,H.cell i1 i2=some (.pointer a3)/\
 AS.asAddr (.pointer a3) λi4 i5=>
 stc H i4 (i5+19) [(.int .i64 (IntKind.i64.wrap x0))] λH6=>
 bif (x0==0) then (
 AS.asAddr (.pointer c1) λi7 i8=>
 ∃v9,H6.cell i7 i8=some v9/\
 AS.asFn v9 λf10 l11 l12=>
 (∃fn,en.fn f10=some fn)/\
 CA en f10 (l11++[]++l12) H6 λv13 H14=>
 v13=undef/\
 R undef H14)
 else (
 AS.asAddr (.pointer c0) λi15 i16=>
 ∃a17,(H6.bump 8).cell i15 i16=some (.pointer a17)/\
 AS.asAddr (.pointer c0) λi18 i19=>
 ∃a20,(H6.bump 8).cell i18 i19=some (.pointer a20)/\
 AS.asAddr (.pointer a20) λi21 i22=>
 ∃n23,(H6.bump 8).cell i21 (i22+19)=some (.int .i64 n23)/\
 CA en F.lru_Run_load [(.pointer a17),(.agg #[(.int .i64 n23),(.int .i64 0)]),(.func (.func F.lru_Run_walk_1_1_1) #[] #[(.pointer c2),(.pointer c0),(.pointer c3)])] (H6.bump 8) λv24 H25=>
 v24=undef/\
 (
 R undef H25)/\
 True))->
  CA en F.lru_Run_walk_1_1 [(.int .u64 x0),(.pointer c0),(.pointer c1),(.pointer c2),(.pointer c3)] H R:=by
 intro h;refine wpFn_ok (Z:=[]) (fn:=Go.Proofs.Tryz.f150) ?_ ?_ ?_
 ·kernel_rfl
 ·kernel_rfl
 ·apply turnInto h
  kernel_rfl
theorem vc_lru_Run_walk_1_1_1 (x0:Int)(c0:Option Addr)(c1:Option Addr)(c2:Option Addr)(H:Heap)(R:Value->Heap->Prop) :
  (
 AS.asAddr (.pointer c0) λi1 i2=>
 ∃v3,H.cell i1 i2=some v3/\
 AS.asFn v3 λf4 l5 l6=>
 (∃fn,en.fn f4=some fn)/\
 CA en f4 (l5++[(.int .u64 x0)]++l6) H λv7 H8=>
 ∃b9,v7=(.bool b9)/\
 bif (!b9) then (
 AS.asAddr (.pointer c1) λi10 i11=>
 ∃a12,(H8.bump 17).cell i10 i11=some (.pointer a12)/\
 AS.asAddr (.pointer c1) λi13 i14=>
 ∃a15,(H8.bump 17).cell i13 i14=some (.pointer a15)/\
 AS.asAddr (.pointer c1) λi16 i17=>
 ∃a18,(H8.bump 17).cell i16 i17=some (.pointer a18)/\
 AS.asAddr (.pointer a18) λi19 i20=>
 ∃n21,∃n22,(H8.bump 17).cellsAt i19 (i20+15) 2=some [(.int .i64 n21),(.int .i64 n22)]/\
 AS.asAddr (.pointer c1) λi23 i24=>
 ∃a25,(H8.bump 17).cell i23 i24=some (.pointer a25)/\
 AS.asAddr (.pointer a25) λi26 i27=>
 ∃n28,(H8.bump 17).cell i26 (i27+19)=some (.int .i64 n28)/\
 AS.asAddr (.pointer a12) λi29 i30=>
 stc (H8.bump 17) i29 (i30+17) [(.int .i64 n21),(.int .i64 n22)] λH31=>
 AS.asAddr (.pointer a15) λi32 i33=>
 stc H31 i32 (i33+15) [(.int .i64 n28),(.int .i64 2)] λH34=>
 (
 AS.asAddr (.pointer c2) λi41 i42=>
 ∃v43,H34.cell i41 i42=some v43/\
 AS.asFn v43 λf44 l45 l46=>
 (∃fn,en.fn f44=some fn)/\
 CA en f44 (l45++[]++l46) H34 λv47 H48=>
 v47=undef/\
 R undef H48)/\
 ((AS.asAddr (.pointer c1) λi38 i39=>
 ∃a40,(H8.bump 17).cell i38 i39=some (.pointer a40)/\
 a15=a40)/\(AS.asAddr (.pointer c1) λi35 i36=>
 ∃a37,H31.cell i35 i36=some (.pointer a37)/\
 a15=a37)/\True)/\
 True)
 else (
 R undef H8))->
  CA en F.lru_Run_walk_1_1_1 [(.int .u64 x0),(.pointer c0),(.pointer c1),(.pointer c2)] H R:=by
 intro h;refine wpFn_ok (Z:=[]) (fn:=Go.Proofs.Tryz.f151) ?_ ?_ ?_
 ·kernel_rfl
 ·kernel_rfl
 ·apply turnInto h
  kernel_rfl
theorem vc_lru_Run_nearer (x0:Option Addr)(x1:Int)(H:Heap)(R:Value->Heap->Prop) :
  (
 AS.asAddr (.pointer x0) λi1 i2=>
 ∃n3,H.cell i1 ((i2+1)+3)=some (.int .i64 n3)/\
 bif (n3==1) then (
 AS.asAddr (.pointer x0) λi4 i5=>
 ∃b6,H.cell i4 (i5+22)=some (.bool b6)/\
 bif (!b6) then (
 AS.asAddr (.pointer x0) λi7 i8=>
 stc H i7 (i8+21) [(.int .u64 x1)] λH9=>
 AS.asAddr (.pointer x0) λi10 i11=>
 stc H9 i10 (i11+22) [(.bool true)] λH12=>
 R (.bool false) H12)
 else (
 AS.asAddr (.pointer x0) λi13 i14=>
 ∃n15,H.cell i13 (i14+21)=some (.int .u64 n15)/\
 bif (decide (x1<n15)) then (
 AS.asAddr (.pointer x0) λi16 i17=>
 stc H i16 (i17+21) [(.int .u64 x1)] λH18=>
 AS.asAddr (.pointer x0) λi19 i20=>
 stc H18 i19 (i20+22) [(.bool true)] λH21=>
 R (.bool false) H21)
 else (
 R (.bool false) H)))
 else (
 AS.asAddr (.pointer x0) λi22 i23=>
 ∃n24,H.cell i22 ((i23+1)+1)=some (.int .u64 n24)/\
 bif (decide (x1>n24)) then (
 AS.asAddr (.pointer x0) λi25 i26=>
 ∃b27,H.cell i25 (i26+22)=some (.bool b27)/\
 bif (!b27) then (
 AS.asAddr (.pointer x0) λi28 i29=>
 stc H i28 (i29+21) [(.int .u64 x1)] λH30=>
 AS.asAddr (.pointer x0) λi31 i32=>
 stc H30 i31 (i32+22) [(.bool true)] λH33=>
 R (.bool false) H33)
 else (
 AS.asAddr (.pointer x0) λi34 i35=>
 ∃n36,H.cell i34 (i35+21)=some (.int .u64 n36)/\
 bif (decide (x1<n36)) then (
 AS.asAddr (.pointer x0) λi37 i38=>
 stc H i37 (i38+21) [(.int .u64 x1)] λH39=>
 AS.asAddr (.pointer x0) λi40 i41=>
 stc H39 i40 (i41+22) [(.bool true)] λH42=>
 R (.bool false) H42)
 else (
 R (.bool false) H)))
 else (
 R (.bool false) H)))->
  CA en F.lru_Run_nearer [(.pointer x0),(.int .u64 x1)] H R:=by
 intro h;refine wpFn_ok (Z:=[]) (fn:=Go.Proofs.Tryz.f155) ?_ ?_ ?_
 ·kernel_rfl
 ·kernel_rfl
 ·apply turnInto h
  kernel_rfl
theorem vc_lru_Run_nearest (x0:Option Addr)(H:Heap)(R:Value->Heap->Prop) :
  (
 AS.asAddr (.pointer x0) λi1 i2=>
 ∃b3,H.cell i1 (i2+22)=some (.bool b3)/\
 bif (!b3) then (
 CA en F.lru_Run_none [(.pointer x0),(.int .i64 2)] H λv4 H5=>
 v4=undef/\
 R undef H5)
 else (
 AS.asAddr (.pointer x0) λi6 i7=>
 ∃n8,H.cell i6 (i7+21)=some (.int .u64 n8)/\
 CA en F.lru_Run_give [(.pointer x0),(.agg #[(.int .i64 0),(.slice none 0 0),(.int .u64 n8),(.int .i64 0)])] H λv9 H10=>
 v9=undef/\
 CA en F.lru_Run_away [(.pointer x0)] H10 λv11 H12=>
 v11=undef/\
 R undef H12))->
  CA en F.lru_Run_nearest [(.pointer x0)] H R:=by
 intro h;refine wpFn_ok (Z:=[]) (fn:=Go.Proofs.Tryz.f156) ?_ ?_ ?_
 ·kernel_rfl
 ·kernel_rfl
 ·apply turnInto h
  kernel_rfl
theorem vc_lru_Run_begin_1 (x0:Int)(c0:Option Addr)(H:Heap)(R:Value->Heap->Prop) :
  (
 AS.asAddr (.pointer c0) λi1 i2=>
 ∃a3,H.cell i1 i2=some (.pointer a3)/\
 AS.asAddr (.pointer a3) λi4 i5=>
 ∃n6,H.cell i4 ((i5+1)+1)=some (.int .u64 n6)/\
 bif (x0==n6) then (
 AS.asAddr (.pointer c0) λi7 i8=>
 ∃a9,H.cell i7 i8=some (.pointer a9)/\
 CA en F.lru_Run_found [(.pointer a9)] H λv10 H11=>
 v10=undef/\
 AS.asAddr (.pointer c0) λi12 i13=>
 ∃a14,H11.cell i12 i13=some (.pointer a14)/\
 AS.asAddr (.pointer a14) λi15 i16=>
 ∃n17,H11.cell i15 ((i16+1)+1)=some (.int .u64 n17)/\
 R (.bool (x0==n17)) H11)
 else (
 AS.asAddr (.pointer c0) λi18 i19=>
 ∃a20,H.cell i18 i19=some (.pointer a20)/\
 AS.asAddr (.pointer a20) λi21 i22=>
 ∃n23,H.cell i21 ((i22+1)+1)=some (.int .u64 n23)/\
 R (.bool (x0==n23)) H))->
  CA en F.lru_Run_begin_1 [(.int .u64 x0),(.pointer c0)] H R:=by
 intro h;refine wpFn_ok (Z:=[]) (fn:=Go.Proofs.Tryz.f157) ?_ ?_ ?_
 ·kernel_rfl
 ·kernel_rfl
 ·apply turnInto h
  kernel_rfl
theorem vc_lru_Run_found (x0:Option Addr)(H:Heap)(R:Value->Heap->Prop) :
  (
 nwH H (.cells true 0 [(.pointer x0)]) λi1 H2=>
 ∃a3,H2.cell i1 0=some (.pointer a3)/\
 AS.asAddr (.pointer a3) λi4 i5=>
 ∃n6,H2.cell i4 (i5+19)=some (.int .i64 n6)/\
 nwH H2 (.cells true 0 [(.int .i64 0),(.int .i64 0)]) λi7 H8=>
 stc H8 i7 0 [(.int .i64 n6),(.int .i64 1)] λH9=>
 ∃a10,H9.cell i1 0=some (.pointer a10)/\
 AS.asAddr (.pointer a10) λi11 i12=>
 ∃n13,H9.cell i11 (i12+1)=some (.int .i64 n13)/\
 bif (n13==2) then (
 ∃a14,H9.cell i1 0=some (.pointer a14)/\
 AS.asAddr (.pointer a14) λi15 i16=>
 ∃n17,H9.cell i15 ((i16+1)+3)=some (.int .i64 n17)/\
 bif (n17==1) then (
 ∃a18,H9.cell i1 0=some (.pointer a18)/\
 CA en F.lru_Run_none [(.pointer a18),(.int .i64 3)] H9 λv19 H20=>
 v19=undef/\
 R undef H20)
 else (
 ∃a21,H9.cell i1 0=some (.pointer a21)/\
 AS.asAddr (.pointer a21) λi22 i23=>
 ∃n24,H9.cell i22 (i23+1)=some (.int .i64 n24)/\
 bif (n24==2) then (
 ∃a25,(H9.bump 8).cell i1 0=some (.pointer a25)/\
 ∃n26,∃n27,(H9.bump 8).cellsAt i7 0 2=some [(.int .i64 n26),(.int .i64 n27)]/\
 ∃a28,(H9.bump 8).cell i1 0=some (.pointer a28)/\
 AS.asAddr (.pointer a28) λi29 i30=>
 ∃n31,(H9.bump 8).cell i29 (i30+6)=some (.int .u64 n31)/\
 CA en F.lru_Run_store [(.pointer a25),(.agg #[(.int .i64 n26),(.int .i64 n27)]),(.int .u64 n31),(.func (.func F.lru_Run_found_1) #[] #[(.pointer (some ⟨i1,0,none⟩))])] (H9.bump 8) λv32 H33=>
 v32=undef/\
 (
 R undef H33)/\
 True)
 else (
 ∃a34,H9.cell i1 0=some (.pointer a34)/\
 AS.asAddr (.pointer a34) λi35 i36=>
 ∃n37,H9.cell i35 (i36+1)=some (.int .i64 n37)/\
 bif (n37==1) then (
 ∃a38,H9.cell i1 0=some (.pointer a38)/\
 ∃n39,∃n40,H9.cellsAt i7 0 2=some [(.int .i64 n39),(.int .i64 n40)]/\
 CA en F.lru_Run_load [(.pointer a38),(.agg #[(.int .i64 n39),(.int .i64 n40)]),(.func (.func F.lru_Run_found_2) #[] #[(.pointer (some ⟨i1,0,none⟩))])] H9 λv41 H42=>
 v41=undef/\
 R undef H42)
 else (
 ∃a43,H9.cell i1 0=some (.pointer a43)/\
 AS.asAddr (.pointer a43) λi44 i45=>
 ∃n46,H9.cell i44 (i45+1)=some (.int .i64 n46)/\
 bif (n46==5) then (
 ∃a47,H9.cell i1 0=some (.pointer a47)/\
 ∃n48,∃n49,H9.cellsAt i7 0 2=some [(.int .i64 n48),(.int .i64 n49)]/\
 CA en F.lru_Run_load [(.pointer a47),(.agg #[(.int .i64 n48),(.int .i64 n49)]),(.func (.func F.lru_Run_found_3) #[] #[(.pointer (some ⟨i1,0,none⟩))])] H9 λv50 H51=>
 v50=undef/\
 R undef H51)
 else (
 ∃a52,H9.cell i1 0=some (.pointer a52)/\
 CA en F.lru_Run_unlink [(.pointer a52),(.func (.func F.lru_Run_found_4) #[] #[(.pointer (some ⟨i1,0,none⟩))])] H9 λv53 H54=>
 v53=undef/\
 R undef H54)))))
 else (
 ∃a55,H9.cell i1 0=some (.pointer a55)/\
 AS.asAddr (.pointer a55) λi56 i57=>
 ∃n58,H9.cell i56 (i57+1)=some (.int .i64 n58)/\
 bif (n58==2) then (
 ∃a59,(H9.bump 8).cell i1 0=some (.pointer a59)/\
 ∃n60,∃n61,(H9.bump 8).cellsAt i7 0 2=some [(.int .i64 n60),(.int .i64 n61)]/\
 ∃a62,(H9.bump 8).cell i1 0=some (.pointer a62)/\
 AS.asAddr (.pointer a62) λi63 i64=>
 ∃n65,(H9.bump 8).cell i63 (i64+6)=some (.int .u64 n65)/\
 CA en F.lru_Run_store [(.pointer a59),(.agg #[(.int .i64 n60),(.int .i64 n61)]),(.int .u64 n65),(.func (.func F.lru_Run_found_1) #[] #[(.pointer (some ⟨i1,0,none⟩))])] (H9.bump 8) λv66 H67=>
 v66=undef/\
 (
 R undef H67)/\
 True)
 else (
 ∃a68,H9.cell i1 0=some (.pointer a68)/\
 AS.asAddr (.pointer a68) λi69 i70=>
 ∃n71,H9.cell i69 (i70+1)=some (.int .i64 n71)/\
 bif (n71==1) then (
 ∃a72,H9.cell i1 0=some (.pointer a72)/\
 ∃n73,∃n74,H9.cellsAt i7 0 2=some [(.int .i64 n73),(.int .i64 n74)]/\
 CA en F.lru_Run_load [(.pointer a72),(.agg #[(.int .i64 n73),(.int .i64 n74)]),(.func (.func F.lru_Run_found_2) #[] #[(.pointer (some ⟨i1,0,none⟩))])] H9 λv75 H76=>
 v75=undef/\
 R undef H76)
 else (
 ∃a77,H9.cell i1 0=some (.pointer a77)/\
 AS.asAddr (.pointer a77) λi78 i79=>
 ∃n80,H9.cell i78 (i79+1)=some (.int .i64 n80)/\
 bif (n80==5) then (
 ∃a81,H9.cell i1 0=some (.pointer a81)/\
 ∃n82,∃n83,H9.cellsAt i7 0 2=some [(.int .i64 n82),(.int .i64 n83)]/\
 CA en F.lru_Run_load [(.pointer a81),(.agg #[(.int .i64 n82),(.int .i64 n83)]),(.func (.func F.lru_Run_found_3) #[] #[(.pointer (some ⟨i1,0,none⟩))])] H9 λv84 H85=>
 v84=undef/\
 R undef H85)
 else (
 ∃a86,H9.cell i1 0=some (.pointer a86)/\
 CA en F.lru_Run_unlink [(.pointer a86),(.func (.func F.lru_Run_found_4) #[] #[(.pointer (some ⟨i1,0,none⟩))])] H9 λv87 H88=>
 v87=undef/\
 R undef H88)))))->
  CA en F.lru_Run_found [(.pointer x0)] H R:=by
 intro h;refine wpFn_ok (Z:=[]) (fn:=Go.Proofs.Tryz.f158) ?_ ?_ ?_
 ·kernel_rfl
 ·kernel_rfl
 ·apply turnInto h
  kernel_rfl
theorem vc_lru_Run_absent (x0:Option Addr)(H:Heap)(R:Value->Heap->Prop) :
  (
 nwH H (.cells true 0 [(.pointer x0)]) λi1 H2=>
 ∃a3,H2.cell i1 0=some (.pointer a3)/\
 AS.asAddr (.pointer a3) λi4 i5=>
 ∃n6,H2.cell i4 (i5+1)=some (.int .i64 n6)/\
 bif (n6 !=2) then (
 ∃a7,H2.cell i1 0=some (.pointer a7)/\
 CA en F.lru_Run_none [(.pointer a7),(.int .i64 2)] H2 λv8 H9=>
 v8=undef/\
 R undef H9)
 else (
 ∃a10,H2.cell i1 0=some (.pointer a10)/\
 AS.asAddr (.pointer a10) λi11 i12=>
 ∃n13,H2.cell i11 ((i12+1)+3)=some (.int .i64 n13)/\
 bif (n13==2) then (
 ∃a14,H2.cell i1 0=some (.pointer a14)/\
 CA en F.lru_Run_none [(.pointer a14),(.int .i64 2)] H2 λv15 H16=>
 v15=undef/\
 R undef H16)
 else (
 ∃a17,(H2.bump 11).cell i1 0=some (.pointer a17)/\
 ∃a18,(H2.bump 11).cell i1 0=some (.pointer a18)/\
 AS.asAddr (.pointer a18) λi19 i20=>
 ∃a21,(H2.bump 11).cell i19 i20=some (.pointer a21)/\
 AS.asAddr (.pointer a21) λi22 i23=>
 ∃n24,(H2.bump 11).cell i22 (i23+7)=some (.int .i64 n24)/\
 CA en F.lru_Run_load [(.pointer a17),(.agg #[(.int .i64 n24),(.int .i64 3)]),(.func (.func F.lru_Run_absent_1) #[] #[(.pointer (some ⟨i1,0,none⟩))])] (H2.bump 11) λv25 H26=>
 v25=undef/\
 (
 R undef H26)/\
 True)))->
  CA en F.lru_Run_absent [(.pointer x0)] H R:=by
 intro h;refine wpFn_ok (Z:=[]) (fn:=Go.Proofs.Tryz.f159) ?_ ?_ ?_
 ·kernel_rfl
 ·kernel_rfl
 ·apply turnInto h
  kernel_rfl
theorem vc_lru_Run_away_1 (c0:Option Addr)(H:Heap)(R:Value->Heap->Prop) :
  (
 AS.asAddr (.pointer c0) λi1 i2=>
 ∃a3,(H.bump 15).cell i1 i2=some (.pointer a3)/\
 AS.asAddr (.pointer a3) λi4 i5=>
 ∃a6,(H.bump 15).cell i4 i5=some (.pointer a6)/\
 AS.asAddr (.pointer a6) λi7 i8=>
 ∃a9,(H.bump 15).cell i7 i8=some (.pointer a9)/\
 AS.asAddr (.pointer c0) λi10 i11=>
 ∃a12,(H.bump 15).cell i10 i11=some (.pointer a12)/\
 AS.asAddr (.pointer a12) λi13 i14=>
 ∃a15,(H.bump 15).cell i13 i14=some (.pointer a15)/\
 AS.asAddr (.pointer a15) λi16 i17=>
 ∃n18,(H.bump 15).cell i16 (i17+7)=some (.int .i64 n18)/\
 CA en F.lock_Drop [(.pointer a9),(.int .i64 n18),(.int .i64 0)] (H.bump 15) λv19 H20=>
 ∃b21,v19=(.bool b21)/\
 (
 AS.asAddr (.pointer c0) λi22 i23=>
 ∃a24,H20.cell i22 i23=some (.pointer a24)/\
 AS.asAddr (.pointer a24) λi25 i26=>
 stc H20 i25 (i26+13) [(.bool true)] λH27=>
 R undef H27)/\
 True)->
  CA en F.lru_Run_away_1 [(.pointer c0)] H R:=by
 intro h;refine wpFn_ok (Z:=[]) (fn:=Go.Proofs.Tryz.f160) ?_ ?_ ?_
 ·kernel_rfl
 ·kernel_rfl
 ·apply turnInto h
  kernel_rfl
theorem vc_lru_Run_load_1 (c0:Option Addr)(c1:Option Addr)(c2:Option Addr)(H:Heap)(R:Value->Heap->Prop) :
  (
 AS.asAddr (.pointer c0) λi1 i2=>
 ∃a3,(H.bump 17).cell i1 i2=some (.pointer a3)/\
 AS.asAddr (.pointer a3) λi4 i5=>
 ∃a6,(H.bump 17).cell i4 i5=some (.pointer a6)/\
 AS.asAddr (.pointer a6) λi7 i8=>
 ∃a9,(H.bump 17).cell i7 i8=some (.pointer a9)/\
 AS.asAddr (.pointer c1) λi10 i11=>
 ∃n12,(H.bump 17).cell i10 i11=some (.int .i64 n12)/\
 AS.asAddr (.pointer c1) λi13 i14=>
 ∃n15,(H.bump 17).cell i13 (i14+1)=some (.int .i64 n15)/\
 CA en F.smem_Mem_Load [(.pointer a9),(.int .i64 n12),(.int .i64 n15)] (H.bump 17) λv16 H17=>
 ∃n18,∃b19,v16=(.tuple #[(.int .u64 n18),(.bool b19)])/\
 (
 AS.asAddr (.pointer c2) λi20 i21=>
 ∃v22,H17.cell i20 i21=some v22/\
 AS.asFn v22 λf23 l24 l25=>
 (∃fn,en.fn f23=some fn)/\
 CA en f23 (l24++[(.int .u64 n18)]++l25) H17 λv26 H27=>
 v26=undef/\
 R undef H27)/\
 True)->
  CA en F.lru_Run_load_1 [(.pointer c0),(.pointer c1),(.pointer c2)] H R:=by
 intro h;refine wpFn_ok (Z:=[]) (fn:=Go.Proofs.Tryz.f202) ?_ ?_ ?_
 ·kernel_rfl
 ·kernel_rfl
 ·apply turnInto h
  kernel_rfl
theorem vc_lru_Run_none (x0:Option Addr)(x1:Int)(H:Heap)(R:Value->Heap->Prop) :
  (
 CA en F.lru_Run_give [(.pointer x0),(.agg #[(.int .i64 x1),(.slice none 0 0),(.int .u64 0),(.int .i64 0)])] H λv1 H2=>
 v1=undef/\
 CA en F.lru_Run_away [(.pointer x0)] H2 λv3 H4=>
 v3=undef/\
 R undef H4)->
  CA en F.lru_Run_none [(.pointer x0),(.int .i64 x1)] H R:=by
 intro h;refine wpFn_ok (Z:=[]) (fn:=Go.Proofs.Tryz.f213) ?_ ?_ ?_
 ·kernel_rfl
 ·kernel_rfl
 ·apply turnInto h
  kernel_rfl
theorem vc_lru_Run_store (x0:Option Addr)(x1_0:Int)(x1_1:Int)(x2:Int)(x3:Nat)(x3l:List Value)(x3c:List Value)(H:Heap)(R:Value->Heap->Prop) :
  (
 nwH H (.cells true 0 [(.pointer x0)]) λi1 H2=>
 nwH H2 (.cells true 0 [(.int .i64 x1_0),(.int .i64 x1_1)]) λi3 H4=>
 nwH H4 (.cells true 0 [(.int .u64 x2)]) λi5 H6=>
 nwH H6 (.cells true 0 [(.func (.func x3) ⟨x3l⟩ ⟨x3c⟩)]) λi7 H8=>
 ∃a9,H8.cell i1 0=some (.pointer a9)/\
 AS.asAddr (.pointer a9) λi10 i11=>
 stc H8 i10 (i11+11) [(.func (.func F.lru_Run_store_1) #[] #[(.pointer (some ⟨i1,0,none⟩)),(.pointer (some ⟨i3,0,none⟩)),(.pointer (some ⟨i5,0,none⟩)),(.pointer (some ⟨i7,0,none⟩))])] λH12=>
 R undef H12)->
  CA en F.lru_Run_store [(.pointer x0),(.agg #[(.int .i64 x1_0),(.int .i64 x1_1)]),(.int .u64 x2),(.func (.func x3) ⟨x3l⟩ ⟨x3c⟩)] H R:=by
 intro h;refine wpFn_ok (Z:=[]) (fn:=Go.Proofs.Tryz.f214) ?_ ?_ ?_
 ·kernel_rfl
 ·kernel_rfl
 ·apply turnInto h
  kernel_rfl
theorem vc_lru_Run_found_1 (c0:Option Addr)(H:Heap)(R:Value->Heap->Prop) :
  (
 AS.asAddr (.pointer c0) λi1 i2=>
 ∃a3,H.cell i1 i2=some (.pointer a3)/\
 CA en F.lru_Run_give [(.pointer a3),(.agg #[(.int .i64 0),(.slice none 0 0),(.int .u64 0),(.int .i64 0)])] H λv4 H5=>
 v4=undef/\
 AS.asAddr (.pointer c0) λi6 i7=>
 ∃a8,H5.cell i6 i7=some (.pointer a8)/\
 CA en F.lru_Run_used [(.pointer a8)] H5 λv9 H10=>
 v9=undef/\
 R undef H10)->
  CA en F.lru_Run_found_1 [(.pointer c0)] H R:=by
 intro h;refine wpFn_ok (Z:=[]) (fn:=Go.Proofs.Tryz.f215) ?_ ?_ ?_
 ·kernel_rfl
 ·kernel_rfl
 ·apply turnInto h
  kernel_rfl
theorem vc_lru_Run_used (x0:Option Addr)(H:Heap)(R:Value->Heap->Prop) :
  (
 nwH H (.cells true 0 [(.pointer x0)]) λi1 H2=>
 ∃a3,(H2.bump 7).cell i1 0=some (.pointer a3)/\
 AS.asAddr (.pointer a3) λi4 i5=>
 ∃n6,∃n7,(H2.bump 7).cellsAt i4 (i5+15) 2=some [(.int .i64 n6),(.int .i64 n7)]/\
 ∃a8,(H2.bump 7).cell i1 0=some (.pointer a8)/\
 CA en F.lru_Run_head [(.pointer a8)] (H2.bump 7) λv9 H10=>
 ∃n11,∃n12,v9=(.agg #[(.int .i64 n11),(.int .i64 n12)])/\
 (
 bif ((n6==n11)&&(n7==n12)) then (
 ∃a19,H10.cell i1 0=some (.pointer a19)/\
 CA en F.lru_Run_away [(.pointer a19)] H10 λv20 H21=>
 v20=undef/\
 R undef H21)
 else (
 ∃a22,H10.cell i1 0=some (.pointer a22)/\
 CA en F.lru_Run_unlink [(.pointer a22),(.func (.func F.lru_Run_used_1) #[] #[(.pointer (some ⟨i1,0,none⟩))])] H10 λv23 H24=>
 v23=undef/\
 R undef H24))/\
 ((∃n15,∃n16,(H2.bump 7).cellsAt i4 (i5+15) 2=some [(.int .i64 n15),(.int .i64 n16)]/\
 sameN 8 (.agg #[(.int .i64 n6),(.int .i64 n7)]) (.agg #[(.int .i64 n15),(.int .i64 n16)])=true)/\(∃n13,∃n14,H10.cellsAt i4 (i5+15) 2=some [(.int .i64 n13),(.int .i64 n14)]/\
 sameN 8 (.agg #[(.int .i64 n6),(.int .i64 n7)]) (.agg #[(.int .i64 n13),(.int .i64 n14)])=true)/\True)/\
 ((∃a18,(H2.bump 7).cell i1 0=some (.pointer a18)/\
 a3=a18)/\(∃a17,H10.cell i1 0=some (.pointer a17)/\
 a3=a17)/\True)/\
 True)->
  CA en F.lru_Run_used [(.pointer x0)] H R:=by
 intro h;refine wpFn_ok (Z:=[]) (fn:=Go.Proofs.Tryz.f216) ?_ ?_ ?_
 ·kernel_rfl
 ·kernel_rfl
 ·apply turnInto h
  kernel_rfl
theorem vc_lru_Run_found_2 (x0:Int)(c0:Option Addr)(H:Heap)(R:Value->Heap->Prop) :
  (
 AS.asAddr (.pointer c0) λi1 i2=>
 ∃a3,(H.bump 9).cell i1 i2=some (.pointer a3)/\
 nwH (H.bump 9) (.cells true 1 [(.int .u64 x0)]) λi4 H5=>
 AS.asAddr (.pointer c0) λi6 i7=>
 ∃a8,H5.cell i6 i7=some (.pointer a8)/\
 AS.asAddr (.pointer a8) λi9 i10=>
 ∃n11,H5.cell i9 (i10+19)=some (.int .i64 n11)/\
 CA en F.lru_Run_give [(.pointer a3),(.agg #[(.int .i64 0),(.slice (some ⟨i4,0,none⟩) 1 0),(.int .u64 0),(.int .i64 n11)])] H5 λv12 H13=>
 v12=undef/\
 (
 AS.asAddr (.pointer c0) λi28 i29=>
 ∃a30,H13.cell i28 i29=some (.pointer a30)/\
 CA en F.lru_Run_used [(.pointer a30)] H13 λv31 H32=>
 v31=undef/\
 R undef H32)/\
 ((∃n15,(H.bump 9).cell i9 (i10+19)=some (.int .i64 n15)/\
 n11=n15)/\(∃n14,H5.cell i9 (i10+19)=some (.int .i64 n14)/\
 n11=n14)/\True)/\
 ((AS.asAddr (.pointer c0) λi19 i20=>
 ∃a21,(H.bump 9).cell i19 i20=some (.pointer a21)/\
 a8=a21)/\(AS.asAddr (.pointer c0) λi16 i17=>
 ∃a18,H5.cell i16 i17=some (.pointer a18)/\
 a8=a18)/\True)/\
 ((AS.asAddr (.pointer c0) λi25 i26=>
 ∃a27,(H.bump 9).cell i25 i26=some (.pointer a27)/\
 a3=a27)/\(AS.asAddr (.pointer c0) λi22 i23=>
 ∃a24,H5.cell i22 i23=some (.pointer a24)/\
 a3=a24)/\True)/\
 True)->
  CA en F.lru_Run_found_2 [(.int .u64 x0),(.pointer c0)] H R:=by
 intro h;refine wpFn_ok (Z:=[]) (fn:=Go.Proofs.Tryz.f217) ?_ ?_ ?_
 ·kernel_rfl
 ·kernel_rfl
 ·apply turnInto h
  kernel_rfl
theorem vc_lru_Run_found_3 (x0:Int)(c0:Option Addr)(H:Heap)(R:Value->Heap->Prop) :
  (
 AS.asAddr (.pointer c0) λi1 i2=>
 ∃a3,H.cell i1 i2=some (.pointer a3)/\
 nwH H (.cells true 1 [(.int .u64 x0)]) λi4 H5=>
 CA en F.lru_Run_give [(.pointer a3),(.agg #[(.int .i64 0),(.slice (some ⟨i4,0,none⟩) 1 0),(.int .u64 0),(.int .i64 0)])] H5 λv6 H7=>
 v6=undef/\
 AS.asAddr (.pointer c0) λi8 i9=>
 ∃a10,H7.cell i8 i9=some (.pointer a10)/\
 CA en F.lru_Run_unlink [(.pointer a10),(.func (.func F.lru_Run_found_3_1) #[] #[(.pointer c0)])] H7 λv11 H12=>
 v11=undef/\
 R undef H12)->
  CA en F.lru_Run_found_3 [(.int .u64 x0),(.pointer c0)] H R:=by
 intro h;refine wpFn_ok (Z:=[]) (fn:=Go.Proofs.Tryz.f218) ?_ ?_ ?_
 ·kernel_rfl
 ·kernel_rfl
 ·apply turnInto h
  kernel_rfl
theorem vc_lru_Run_unlink (x0:Option Addr)(x1:Nat)(x1l:List Value)(x1c:List Value)(H:Heap)(R:Value->Heap->Prop) :
  (
 nwH H (.cells true 0 [(.pointer x0)]) λi1 H2=>
 nwH H2 (.cells true 0 [(.func (.func x1) ⟨x1l⟩ ⟨x1c⟩)]) λi3 H4=>
 ∃a5,(H4.bump 8).cell i1 0=some (.pointer a5)/\
 ∃a6,(H4.bump 8).cell i1 0=some (.pointer a6)/\
 AS.asAddr (.pointer a6) λi7 i8=>
 ∃n9,(H4.bump 8).cell i7 (i8+19)=some (.int .i64 n9)/\
 CA en F.lru_Run_load [(.pointer a5),(.agg #[(.int .i64 n9),(.int .i64 2)]),(.func (.func F.lru_Run_unlink_1) #[] #[(.pointer (some ⟨i1,0,none⟩)),(.pointer (some ⟨i3,0,none⟩))])] (H4.bump 8) λv10 H11=>
 v10=undef/\
 (
 R undef H11)/\
 True)->
  CA en F.lru_Run_unlink [(.pointer x0),(.func (.func x1) ⟨x1l⟩ ⟨x1c⟩)] H R:=by
 intro h;refine wpFn_ok (Z:=[]) (fn:=Go.Proofs.Tryz.f219) ?_ ?_ ?_
 ·kernel_rfl
 ·kernel_rfl
 ·apply turnInto h
  kernel_rfl
theorem vc_lru_Run_found_3_1 (c0:Option Addr)(H:Heap)(R:Value->Heap->Prop) :
  (
 AS.asAddr (.pointer c0) λi1 i2=>
 ∃a3,(H.bump 12).cell i1 i2=some (.pointer a3)/\
 AS.asAddr (.pointer a3) λi4 i5=>
 ∃a6,(H.bump 12).cell i4 i5=some (.pointer a6)/\
 AS.asAddr (.pointer a6) λi7 i8=>
 ∃a9,(H.bump 12).cell i7 (i8+1)=some (.pointer a9)/\
 AS.asAddr (.pointer c0) λi10 i11=>
 ∃a12,(H.bump 12).cell i10 i11=some (.pointer a12)/\
 AS.asAddr (.pointer a12) λi13 i14=>
 ∃n15,(H.bump 12).cell i13 (i14+19)=some (.int .i64 n15)/\
 CA en F.grace_Grace_Defer [(.pointer a9),(.int .i64 n15)] (H.bump 12) λv16 H17=>
 ∃a18 i19,v16=(.slice a18 i19 0)/\
 (
 AS.asAddr (.pointer c0) λi20 i21=>
 ∃a22,H17.cell i20 i21=some (.pointer a22)/\
 CA en F.lru_Run_more [(.pointer a22),(.int .u64 18446744073709551615)] H17 λv23 H24=>
 v23=undef/\
 R undef H24)/\
 True)->
  CA en F.lru_Run_found_3_1 [(.pointer c0)] H R:=by
 intro h;refine wpFn_ok (Z:=[]) (fn:=Go.Proofs.Tryz.f220) ?_ ?_ ?_
 ·kernel_rfl
 ·kernel_rfl
 ·apply turnInto h
  kernel_rfl
theorem vc_lru_Run_more (x0:Option Addr)(x1:Int)(H:Heap)(R:Value->Heap->Prop) :
  (
 nwH H (.cells true 0 [(.pointer x0)]) λi1 H2=>
 nwH H2 (.cells true 0 [(.int .u64 x1)]) λi3 H4=>
 ∃a5,H4.cell i1 0=some (.pointer a5)/\
 AS.asAddr (.pointer a5) λi6 i7=>
 stc H4 i6 (i7+11) [(.func (.func F.lru_Run_more_1) #[] #[(.pointer (some ⟨i1,0,none⟩)),(.pointer (some ⟨i3,0,none⟩))])] λH8=>
 R undef H8)->
  CA en F.lru_Run_more [(.pointer x0),(.int .u64 x1)] H R:=by
 intro h;refine wpFn_ok (Z:=[]) (fn:=Go.Proofs.Tryz.f222) ?_ ?_ ?_
 ·kernel_rfl
 ·kernel_rfl
 ·apply turnInto h
  kernel_rfl
theorem vc_lru_Run_found_4 (c0:Option Addr)(H:Heap)(R:Value->Heap->Prop) :
  (
 AS.asAddr (.pointer c0) λi1 i2=>
 ∃a3,H.cell i1 i2=some (.pointer a3)/\
 CA en F.lru_Run_give [(.pointer a3),(.agg #[(.int .i64 0),(.slice none 0 0),(.int .u64 0),(.int .i64 0)])] H λv4 H5=>
 v4=undef/\
 AS.asAddr (.pointer c0) λi6 i7=>
 ∃a8,(H5.bump 12).cell i6 i7=some (.pointer a8)/\
 AS.asAddr (.pointer a8) λi9 i10=>
 ∃a11,(H5.bump 12).cell i9 i10=some (.pointer a11)/\
 AS.asAddr (.pointer a11) λi12 i13=>
 ∃a14,(H5.bump 12).cell i12 (i13+1)=some (.pointer a14)/\
 AS.asAddr (.pointer c0) λi15 i16=>
 ∃a17,(H5.bump 12).cell i15 i16=some (.pointer a17)/\
 AS.asAddr (.pointer a17) λi18 i19=>
 ∃n20,(H5.bump 12).cell i18 (i19+19)=some (.int .i64 n20)/\
 CA en F.grace_Grace_Defer [(.pointer a14),(.int .i64 n20)] (H5.bump 12) λv21 H22=>
 ∃a23 i24,v21=(.slice a23 i24 0)/\
 (
 AS.asAddr (.pointer c0) λi25 i26=>
 ∃a27,H22.cell i25 i26=some (.pointer a27)/\
 CA en F.lru_Run_more [(.pointer a27),(.int .u64 18446744073709551615)] H22 λv28 H29=>
 v28=undef/\
 R undef H29)/\
 True)->
  CA en F.lru_Run_found_4 [(.pointer c0)] H R:=by
 intro h;refine wpFn_ok (Z:=[]) (fn:=Go.Proofs.Tryz.f223) ?_ ?_ ?_
 ·kernel_rfl
 ·kernel_rfl
 ·apply turnInto h
  kernel_rfl
theorem vc_lru_Run_absent_1 (x0:Int)(c0:Option Addr)(H:Heap)(R:Value->Heap->Prop) :
  (
 AS.asAddr (.pointer c0) λi1 i2=>
 ∃a3,H.cell i1 i2=some (.pointer a3)/\
 AS.asAddr (.pointer a3) λi4 i5=>
 ∃a6,H.cell i4 i5=some (.pointer a6)/\
 AS.asAddr (.pointer a6) λi7 i8=>
 ∃a9,H.cell i7 i8=some (.pointer a9)/\
 CA en F.smem_Mem_Make [(.pointer a9),(.int .i64 3)] H λv10 H11=>
 ∃n12,∃n13,v10=(.tuple #[(.int .i64 n12),(.int .i64 n13)])/\
 bif (n13 !=0) then (
 AS.asAddr (.pointer c0) λi14 i15=>
 ∃a16,H11.cell i14 i15=some (.pointer a16)/\
 CA en F.lru_Run_none [(.pointer a16),(.int .i64 5)] H11 λv17 H18=>
 v17=undef/\
 R undef H18)
 else (
 AS.asAddr (.pointer c0) λi19 i20=>
 ∃a21,H11.cell i19 i20=some (.pointer a21)/\
 AS.asAddr (.pointer a21) λi22 i23=>
 stc H11 i22 (i23+20) [(.int .i64 n12)] λH24=>
 AS.asAddr (.pointer c0) λi25 i26=>
 ∃a27,H24.cell i25 i26=some (.pointer a27)/\
 AS.asAddr (.pointer a27) λi28 i29=>
 ∃n30,H24.cell i28 (i29+15)=some (.int .i64 n30)/\
 nwH H24 (.cells true 0 [(.int .i64 0)]) λi31 H32=>
 stc H32 i31 0 [(.int .i64 n30)] λH33=>
 AS.asAddr (.pointer c0) λi34 i35=>
 ∃a36,H33.cell i34 i35=some (.pointer a36)/\
 AS.asAddr (.pointer a36) λi37 i38=>
 ∃a39,H33.cell i37 i38=some (.pointer a39)/\
 AS.asAddr (.pointer a39) λi40 i41=>
 ∃n42,H33.cell i40 ((i41+2)+1)=some (.int .i64 n42)/\
 bif (decide (x0<(IntKind.u64.wrap n42))) then (
 AS.asAddr (.pointer c0) λi43 i44=>
 ∃a45,H33.cell i43 i44=some (.pointer a45)/\
 CA en F.lru_Run_lay [(.pointer a45),(.func (.func F.lru_Run_absent_1_1) #[] #[(.pointer c0)])] H33 λv46 H47=>
 v46=undef/\
 R undef H47)
 else (
 AS.asAddr (.pointer c0) λi48 i49=>
 ∃a50,(H33.bump 7).cell i48 i49=some (.pointer a50)/\
 AS.asAddr (.pointer c0) λi51 i52=>
 ∃a53,(H33.bump 7).cell i51 i52=some (.pointer a53)/\
 AS.asAddr (.pointer a53) λi54 i55=>
 ∃n56,∃n57,(H33.bump 7).cellsAt i54 (i55+17) 2=some [(.int .i64 n56),(.int .i64 n57)]/\
 CA en F.lru_Run_store [(.pointer a50),(.agg #[(.int .i64 n56),(.int .i64 n57)]),(.int .u64 0),(.func (.func F.lru_Run_absent_1_2) #[] #[(.pointer c0),(.pointer (some ⟨i31,0,none⟩))])] (H33.bump 7) λv58 H59=>
 v58=undef/\
 (
 R undef H59)/\
 True)))->
  CA en F.lru_Run_absent_1 [(.int .u64 x0),(.pointer c0)] H R:=by
 intro h;refine wpFn_ok (Z:=[]) (fn:=Go.Proofs.Tryz.f224) ?_ ?_ ?_
 ·kernel_rfl
 ·kernel_rfl
 ·apply turnInto h
  kernel_rfl
theorem vc_lru_Run_lay (x0:Option Addr)(x1:Nat)(x1l:List Value)(x1c:List Value)(H:Heap)(R:Value->Heap->Prop) :
  (
 nwH H (.cells true 0 [(.pointer x0)]) λi1 H2=>
 nwH H2 (.cells true 0 [(.func (.func x1) ⟨x1l⟩ ⟨x1c⟩)]) λi3 H4=>
 ∃a5,(H4.bump 13).cell i1 0=some (.pointer a5)/\
 ∃a6,(H4.bump 13).cell i1 0=some (.pointer a6)/\
 AS.asAddr (.pointer a6) λi7 i8=>
 ∃n9,(H4.bump 13).cell i7 (i8+20)=some (.int .i64 n9)/\
 ∃a10,(H4.bump 13).cell i1 0=some (.pointer a10)/\
 AS.asAddr (.pointer a10) λi11 i12=>
 ∃n13,(H4.bump 13).cell i11 ((i12+1)+1)=some (.int .u64 n13)/\
 CA en F.lru_Run_store [(.pointer a5),(.agg #[(.int .i64 n9),(.int .i64 0)]),(.int .u64 n13),(.func (.func F.lru_Run_lay_1) #[] #[(.pointer (some ⟨i1,0,none⟩)),(.pointer (some ⟨i3,0,none⟩))])] (H4.bump 13) λv14 H15=>
 v14=undef/\
 (
 R undef H15)/\
 True)->
  CA en F.lru_Run_lay [(.pointer x0),(.func (.func x1) ⟨x1l⟩ ⟨x1c⟩)] H R:=by
 intro h;refine wpFn_ok (Z:=[]) (fn:=Go.Proofs.Tryz.f225) ?_ ?_ ?_
 ·kernel_rfl
 ·kernel_rfl
 ·apply turnInto h
  kernel_rfl
theorem vc_lru_Run_absent_1_1 (c0:Option Addr)(H:Heap)(R:Value->Heap->Prop) :
  (
 AS.asAddr (.pointer c0) λi1 i2=>
 ∃a3,H.cell i1 i2=some (.pointer a3)/\
 CA en F.lru_Run_more [(.pointer a3),(.int .u64 1)] H λv4 H5=>
 v4=undef/\
 R undef H5)->
  CA en F.lru_Run_absent_1_1 [(.pointer c0)] H R:=by
 intro h;refine wpFn_ok (Z:=[]) (fn:=Go.Proofs.Tryz.f226) ?_ ?_ ?_
 ·kernel_rfl
 ·kernel_rfl
 ·apply turnInto h
  kernel_rfl
theorem vc_lru_Run_absent_1_2 (c0:Option Addr)(c1:Option Addr)(H:Heap)(R:Value->Heap->Prop) :
  (
 AS.asAddr (.pointer c0) λi1 i2=>
 ∃a3,H.cell i1 i2=some (.pointer a3)/\
 CA en F.lru_Run_lay [(.pointer a3),(.func (.func F.lru_Run_absent_1_2_1) #[] #[(.pointer c0),(.pointer c1)])] H λv4 H5=>
 v4=undef/\
 R undef H5)->
  CA en F.lru_Run_absent_1_2 [(.pointer c0),(.pointer c1)] H R:=by
 intro h;refine wpFn_ok (Z:=[]) (fn:=Go.Proofs.Tryz.f227) ?_ ?_ ?_
 ·kernel_rfl
 ·kernel_rfl
 ·apply turnInto h
  kernel_rfl
theorem vc_lru_Run_absent_1_2_1 (c0:Option Addr)(c1:Option Addr)(H:Heap)(R:Value->Heap->Prop) :
  (
 AS.asAddr (.pointer c0) λi1 i2=>
 ∃a3,(H.bump 9).cell i1 i2=some (.pointer a3)/\
 AS.asAddr (.pointer a3) λi4 i5=>
 ∃a6,(H.bump 9).cell i4 i5=some (.pointer a6)/\
 AS.asAddr (.pointer a6) λi7 i8=>
 ∃a9,(H.bump 9).cell i7 (i8+1)=some (.pointer a9)/\
 AS.asAddr (.pointer c1) λi10 i11=>
 ∃n12,(H.bump 9).cell i10 i11=some (.int .i64 n12)/\
 CA en F.grace_Grace_Defer [(.pointer a9),(.int .i64 n12)] (H.bump 9) λv13 H14=>
 ∃a15 i16,v13=(.slice a15 i16 0)/\
 (
 AS.asAddr (.pointer c0) λi17 i18=>
 ∃a19,H14.cell i17 i18=some (.pointer a19)/\
 CA en F.lru_Run_away [(.pointer a19)] H14 λv20 H21=>
 v20=undef/\
 R undef H21)/\
 True)->
  CA en F.lru_Run_absent_1_2_1 [(.pointer c0),(.pointer c1)] H R:=by
 intro h;refine wpFn_ok (Z:=[]) (fn:=Go.Proofs.Tryz.f228) ?_ ?_ ?_
 ·kernel_rfl
 ·kernel_rfl
 ·apply turnInto h
  kernel_rfl
theorem vc_lru_Run_store_1 (c0:Option Addr)(c1:Option Addr)(c2:Option Addr)(c3:Option Addr)(H:Heap)(R:Value->Heap->Prop) :
  (
 AS.asAddr (.pointer c0) λi1 i2=>
 ∃a3,(H.bump 13).cell i1 i2=some (.pointer a3)/\
 AS.asAddr (.pointer a3) λi4 i5=>
 ∃a6,(H.bump 13).cell i4 i5=some (.pointer a6)/\
 AS.asAddr (.pointer a6) λi7 i8=>
 ∃a9,(H.bump 13).cell i7 i8=some (.pointer a9)/\
 AS.asAddr (.pointer c1) λi10 i11=>
 ∃n12,(H.bump 13).cell i10 i11=some (.int .i64 n12)/\
 AS.asAddr (.pointer c1) λi13 i14=>
 ∃n15,(H.bump 13).cell i13 (i14+1)=some (.int .i64 n15)/\
 AS.asAddr (.pointer c2) λi16 i17=>
 ∃n18,(H.bump 13).cell i16 i17=some (.int .u64 n18)/\
 CA en F.smem_Mem_Store [(.pointer a9),(.int .i64 n12),(.int .i64 n15),(.int .u64 n18)] (H.bump 13) λv19 H20=>
 ∃b21,v19=(.bool b21)/\
 (
 AS.asAddr (.pointer c3) λi22 i23=>
 ∃v24,H20.cell i22 i23=some v24/\
 AS.asFn v24 λf25 l26 l27=>
 (∃fn,en.fn f25=some fn)/\
 CA en f25 (l26++[]++l27) H20 λv28 H29=>
 v28=undef/\
 R undef H29)/\
 True)->
  CA en F.lru_Run_store_1 [(.pointer c0),(.pointer c1),(.pointer c2),(.pointer c3)] H R:=by
 intro h;refine wpFn_ok (Z:=[]) (fn:=Go.Proofs.Tryz.f271) ?_ ?_ ?_
 ·kernel_rfl
 ·kernel_rfl
 ·apply turnInto h
  kernel_rfl
theorem vc_lru_Run_used_1 (c0:Option Addr)(H:Heap)(R:Value->Heap->Prop) :
  (
 AS.asAddr (.pointer c0) λi1 i2=>
 ∃a3,(H.bump 8).cell i1 i2=some (.pointer a3)/\
 AS.asAddr (.pointer c0) λi4 i5=>
 ∃a6,(H.bump 8).cell i4 i5=some (.pointer a6)/\
 AS.asAddr (.pointer a6) λi7 i8=>
 ∃n9,(H.bump 8).cell i7 (i8+19)=some (.int .i64 n9)/\
 AS.asAddr (.pointer c0) λi10 i11=>
 ∃a12,(H.bump 8).cell i10 i11=some (.pointer a12)/\
 CA en F.lru_Run_youngest [(.pointer a3),(.int .i64 n9),(.func (.func F.lru_Run_away) #[(.pointer a12)] #[])] (H.bump 8) λv13 H14=>
 v13=undef/\
 (
 R undef H14)/\
 True)->
  CA en F.lru_Run_used_1 [(.pointer c0)] H R:=by
 intro h;refine wpFn_ok (Z:=[]) (fn:=Go.Proofs.Tryz.f272) ?_ ?_ ?_
 ·kernel_rfl
 ·kernel_rfl
 ·apply turnInto h
  kernel_rfl
theorem vc_lru_Run_youngest (x0:Option Addr)(x1:Int)(x2:Nat)(x2l:List Value)(x2c:List Value)(H:Heap)(R:Value->Heap->Prop) :
  (
 nwH H (.cells true 0 [(.pointer x0)]) λi1 H2=>
 nwH H2 (.cells true 0 [(.int .i64 x1)]) λi3 H4=>
 nwH H4 (.cells true 0 [(.func (.func x2) ⟨x2l⟩ ⟨x2c⟩)]) λi5 H6=>
 ∃a7,(H6.bump 5).cell i1 0=some (.pointer a7)/\
 ∃a8,(H6.bump 5).cell i1 0=some (.pointer a8)/\
 CA en F.lru_Run_head [(.pointer a8)] (H6.bump 5) λv9 H10=>
 ∃n11,∃n12,v9=(.agg #[(.int .i64 n11),(.int .i64 n12)])/\
 CA en F.lru_Run_load [(.pointer a7),(.agg #[(.int .i64 n11),(.int .i64 n12)]),(.func (.func F.lru_Run_youngest_1) #[] #[(.pointer (some ⟨i1,0,none⟩)),(.pointer (some ⟨i3,0,none⟩)),(.pointer (some ⟨i5,0,none⟩))])] H10 λv13 H14=>
 v13=undef/\
 (
 R undef H14)/\
 ((∃a16,(H6.bump 5).cell i1 0=some (.pointer a16)/\
 a7=a16)/\(∃a15,H10.cell i1 0=some (.pointer a15)/\
 a7=a15)/\True)/\
 True)->
  CA en F.lru_Run_youngest [(.pointer x0),(.int .i64 x1),(.func (.func x2) ⟨x2l⟩ ⟨x2c⟩)] H R:=by
 intro h;refine wpFn_ok (Z:=[]) (fn:=Go.Proofs.Tryz.f273) ?_ ?_ ?_
 ·kernel_rfl
 ·kernel_rfl
 ·apply turnInto h
  kernel_rfl
theorem vc_lru_Run_unlink_1 (x0:Int)(c0:Option Addr)(c1:Option Addr)(H:Heap)(R:Value->Heap->Prop) :
  (
 AS.asAddr (.pointer c0) λi1 i2=>
 ∃a3,(H.bump 8).cell i1 i2=some (.pointer a3)/\
 AS.asAddr (.pointer c0) λi4 i5=>
 ∃a6,(H.bump 8).cell i4 i5=some (.pointer a6)/\
 AS.asAddr (.pointer a6) λi7 i8=>
 ∃n9,∃n10,(H.bump 8).cellsAt i7 (i8+15) 2=some [(.int .i64 n9),(.int .i64 n10)]/\
 AS.asAddr (.pointer c1) λi11 i12=>
 ∃v13,(H.bump 8).cell i11 i12=some v13/\
 CA en F.lru_Run_store [(.pointer a3),(.agg #[(.int .i64 n9),(.int .i64 n10)]),(.int .u64 x0),v13] (H.bump 8) λv14 H15=>
 v14=undef/\
 (
 R undef H15)/\
 True)->
  CA en F.lru_Run_unlink_1 [(.int .u64 x0),(.pointer c0),(.pointer c1)] H R:=by
 intro h;refine wpFn_ok (Z:=[]) (fn:=Go.Proofs.Tryz.f274) ?_ ?_ ?_
 ·kernel_rfl
 ·kernel_rfl
 ·apply turnInto h
  kernel_rfl
theorem vc_lru_Run_more_1 (c0:Option Addr)(c1:Option Addr)(H:Heap)(R:Value->Heap->Prop) :
  (
 AS.asAddr (.pointer c0) λi1 i2=>
 ∃a3,(H.bump 16).cell i1 i2=some (.pointer a3)/\
 AS.asAddr (.pointer a3) λi4 i5=>
 ∃a6,(H.bump 16).cell i4 i5=some (.pointer a6)/\
 AS.asAddr (.pointer a6) λi7 i8=>
 ∃a9,(H.bump 16).cell i7 i8=some (.pointer a9)/\
 AS.asAddr (.pointer c0) λi10 i11=>
 ∃a12,(H.bump 16).cell i10 i11=some (.pointer a12)/\
 AS.asAddr (.pointer a12) λi13 i14=>
 ∃a15,(H.bump 16).cell i13 i14=some (.pointer a15)/\
 AS.asAddr (.pointer a15) λi16 i17=>
 ∃n18,(H.bump 16).cell i16 (i17+7)=some (.int .i64 n18)/\
 AS.asAddr (.pointer c1) λi19 i20=>
 ∃n21,(H.bump 16).cell i19 i20=some (.int .u64 n21)/\
 CA en F.smem_Mem_Fetch [(.pointer a9),(.int .i64 n18),(.int .i64 3),(.int .i64 0),(.int .u64 18446744073709551615),(.int .u64 n21)] (H.bump 16) λv22 H23=>
 ∃n24,∃b25,v22=(.tuple #[(.int .u64 n24),(.bool b25)])/\
 (
 AS.asAddr (.pointer c0) λi26 i27=>
 ∃a28,H23.cell i26 i27=some (.pointer a28)/\
 CA en F.lru_Run_away [(.pointer a28)] H23 λv29 H30=>
 v29=undef/\
 R undef H30)/\
 True)->
  CA en F.lru_Run_more_1 [(.pointer c0),(.pointer c1)] H R:=by
 intro h;refine wpFn_ok (Z:=[]) (fn:=Go.Proofs.Tryz.f279) ?_ ?_ ?_
 ·kernel_rfl
 ·kernel_rfl
 ·apply turnInto h
  kernel_rfl
theorem vc_lru_Run_lay_1 (c0:Option Addr)(c1:Option Addr)(H:Heap)(R:Value->Heap->Prop) :
  (
 AS.asAddr (.pointer c0) λi1 i2=>
 ∃a3,(H.bump 12).cell i1 i2=some (.pointer a3)/\
 AS.asAddr (.pointer c0) λi4 i5=>
 ∃a6,(H.bump 12).cell i4 i5=some (.pointer a6)/\
 AS.asAddr (.pointer a6) λi7 i8=>
 ∃n9,(H.bump 12).cell i7 (i8+20)=some (.int .i64 n9)/\
 AS.asAddr (.pointer c0) λi10 i11=>
 ∃a12,(H.bump 12).cell i10 i11=some (.pointer a12)/\
 AS.asAddr (.pointer a12) λi13 i14=>
 ∃n15,(H.bump 12).cell i13 (i14+6)=some (.int .u64 n15)/\
 CA en F.lru_Run_store [(.pointer a3),(.agg #[(.int .i64 n9),(.int .i64 1)]),(.int .u64 n15),(.func (.func F.lru_Run_lay_1_1) #[] #[(.pointer c0),(.pointer c1)])] (H.bump 12) λv16 H17=>
 v16=undef/\
 (
 R undef H17)/\
 True)->
  CA en F.lru_Run_lay_1 [(.pointer c0),(.pointer c1)] H R:=by
 intro h;refine wpFn_ok (Z:=[]) (fn:=Go.Proofs.Tryz.f280) ?_ ?_ ?_
 ·kernel_rfl
 ·kernel_rfl
 ·apply turnInto h
  kernel_rfl
theorem vc_lru_Run_lay_1_1 (c0:Option Addr)(c1:Option Addr)(H:Heap)(R:Value->Heap->Prop) :
  (
 AS.asAddr (.pointer c0) λi1 i2=>
 ∃a3,(H.bump 7).cell i1 i2=some (.pointer a3)/\
 AS.asAddr (.pointer c0) λi4 i5=>
 ∃a6,(H.bump 7).cell i4 i5=some (.pointer a6)/\
 AS.asAddr (.pointer a6) λi7 i8=>
 ∃n9,(H.bump 7).cell i7 (i8+20)=some (.int .i64 n9)/\
 CA en F.lru_Run_youngest [(.pointer a3),(.int .i64 n9),(.func (.func F.lru_Run_lay_1_1_1) #[] #[(.pointer c0),(.pointer c1)])] (H.bump 7) λv10 H11=>
 v10=undef/\
 (
 R undef H11)/\
 True)->
  CA en F.lru_Run_lay_1_1 [(.pointer c0),(.pointer c1)] H R:=by
 intro h;refine wpFn_ok (Z:=[]) (fn:=Go.Proofs.Tryz.f281) ?_ ?_ ?_
 ·kernel_rfl
 ·kernel_rfl
 ·apply turnInto h
  kernel_rfl
theorem vc_lru_Run_lay_1_1_1 (c0:Option Addr)(c1:Option Addr)(H:Heap)(R:Value->Heap->Prop) :
  (
 AS.asAddr (.pointer c0) λi1 i2=>
 ∃a3,H.cell i1 i2=some (.pointer a3)/\
 CA en F.lru_Run_give [(.pointer a3),(.agg #[(.int .i64 0),(.slice none 0 0),(.int .u64 0),(.int .i64 0)])] H λv4 H5=>
 v4=undef/\
 AS.asAddr (.pointer c1) λi6 i7=>
 ∃v8,H5.cell i6 i7=some v8/\
 AS.asFn v8 λf9 l10 l11=>
 (∃fn,en.fn f9=some fn)/\
 CA en f9 (l10++[]++l11) H5 λv12 H13=>
 v12=undef/\
 R undef H13)->
  CA en F.lru_Run_lay_1_1_1 [(.pointer c0),(.pointer c1)] H R:=by
 intro h;refine wpFn_ok (Z:=[]) (fn:=Go.Proofs.Tryz.f282) ?_ ?_ ?_
 ·kernel_rfl
 ·kernel_rfl
 ·apply turnInto h
  kernel_rfl
theorem vc_lru_Run_youngest_1 (x0:Int)(c0:Option Addr)(c1:Option Addr)(c2:Option Addr)(H:Heap)(R:Value->Heap->Prop) :
  (
 AS.asAddr (.pointer c0) λi1 i2=>
 ∃a3,H.cell i1 i2=some (.pointer a3)/\
 AS.asAddr (.pointer c1) λi4 i5=>
 ∃n6,H.cell i4 i5=some (.int .i64 n6)/\
 CA en F.lru_Run_store [(.pointer a3),(.agg #[(.int .i64 n6),(.int .i64 2)]),(.int .u64 x0),(.func (.func F.lru_Run_youngest_1_1) #[] #[(.pointer c0),(.pointer c1),(.pointer c2)])] H λv7 H8=>
 v7=undef/\
 R undef H8)->
  CA en F.lru_Run_youngest_1 [(.int .u64 x0),(.pointer c0),(.pointer c1),(.pointer c2)] H R:=by
 intro h;refine wpFn_ok (Z:=[]) (fn:=Go.Proofs.Tryz.f295) ?_ ?_ ?_
 ·kernel_rfl
 ·kernel_rfl
 ·apply turnInto h
  kernel_rfl
theorem vc_lru_Run_youngest_1_1 (c0:Option Addr)(c1:Option Addr)(c2:Option Addr)(H:Heap)(R:Value->Heap->Prop) :
  (
 AS.asAddr (.pointer c0) λi1 i2=>
 ∃a3,(H.bump 7).cell i1 i2=some (.pointer a3)/\
 AS.asAddr (.pointer c0) λi4 i5=>
 ∃a6,(H.bump 7).cell i4 i5=some (.pointer a6)/\
 CA en F.lru_Run_head [(.pointer a6)] (H.bump 7) λv7 H8=>
 ∃n9,∃n10,v7=(.agg #[(.int .i64 n9),(.int .i64 n10)])/\
 AS.asAddr (.pointer c1) λi11 i12=>
 ∃n13,H8.cell i11 i12=some (.int .i64 n13)/\
 AS.asAddr (.pointer c2) λi14 i15=>
 ∃v16,H8.cell i14 i15=some v16/\
 CA en F.lru_Run_store [(.pointer a3),(.agg #[(.int .i64 n9),(.int .i64 n10)]),(.int .u64 (IntKind.u64.wrap n13)),v16] H8 λv17 H18=>
 v17=undef/\
 (
 R undef H18)/\
 ((AS.asAddr (.pointer c2) λi22 i23=>
 ∃v24,(H.bump 7).cell i22 i23=some v24/\
 sameP v16 v24)/\(AS.asAddr (.pointer c2) λi19 i20=>
 ∃v21,H8.cell i19 i20=some v21/\
 sameP v16 v21)/\True)/\
 ((AS.asAddr (.pointer c1) λi28 i29=>
 ∃n30,(H.bump 7).cell i28 i29=some (.int .i64 n30)/\
 n13=n30)/\(AS.asAddr (.pointer c1) λi25 i26=>
 ∃n27,H8.cell i25 i26=some (.int .i64 n27)/\
 n13=n27)/\True)/\
 ((AS.asAddr (.pointer c0) λi34 i35=>
 ∃a36,(H.bump 7).cell i34 i35=some (.pointer a36)/\
 a3=a36)/\(AS.asAddr (.pointer c0) λi31 i32=>
 ∃a33,H8.cell i31 i32=some (.pointer a33)/\
 a3=a33)/\True)/\
 True)->
  CA en F.lru_Run_youngest_1_1 [(.pointer c0),(.pointer c1),(.pointer c2)] H R:=by
 intro h;refine wpFn_ok (Z:=[]) (fn:=Go.Proofs.Tryz.f296) ?_ ?_ ?_
 ·kernel_rfl
 ·kernel_rfl
 ·apply turnInto h
  kernel_rfl
theorem vc_lru_Map_Begin (x0:Option Addr)(x1_0:Int)(x1_1:Int)(x1_2:Option Addr)(x1_2l:Nat)(x1_3:Int)(x1_4:Int)(H:Heap)(R:Value->Heap->Prop) :
  (
 nwH H (.cells true 0 [(.int .i64 x1_0),(.int .u64 x1_1),(.slice x1_2 x1_2l 0),(.int .i64 x1_3),(.int .i64 x1_4)]) λi1 H2=>
 ∃n3,∃n4,∃a5 i6,∃n7,∃n8,H2.cellsAt i1 0 5=some [(.int .i64 n3),(.int .u64 n4),(.slice a5 i6 0),(.int .i64 n7),(.int .i64 n8)]/\
 nwH H2 (.cells true 0 [(.pointer x0),(.int .i64 n3),(.int .u64 n4),(.slice a5 i6 0),(.int .i64 n7),(.int .i64 n8),(.int .u64 0),(.int .i64 0),(.slice none 0 0),(.int .u64 0),(.int .i64 0),.nilFunc,(.bool false),(.bool false),(.bool false),(.int .i64 0),(.int .i64 0),(.int .i64 0),(.int .i64 0),(.int .i64 0),(.int .i64 0),(.int .u64 0),(.bool false)]) λi9 H10=>
 ∃a11 i12,H10.cell i1 2=some (.slice a11 i12 0)/\
 bif (decide (((i12:Nat):Int)>0)) then (
 ∃a13 i14,H10.cell i1 2=some (.slice a13 i14 0)/\
 inB 0 i14/\
 asRow a13 λi15 i16=>
 ∃n17,H10.cell i15 i16=some (.int .u64 n17)/\
 stc H10 i9 6 [(.int .u64 n17)] λH18=>
 stc H18 i9 3 [(.slice none 0 0)] λH19=>
 CA en F.lru_Run_enter [(.pointer (some ⟨i9,0,none⟩)),(.func (.func F.lru_Run_begin) #[(.pointer (some ⟨i9,0,none⟩))] #[])] H19 λv20 H21=>
 v20=undef/\
 R (.pointer (some ⟨i9,0,none⟩)) H21)
 else (
 stc H10 i9 3 [(.slice none 0 0)] λH22=>
 CA en F.lru_Run_enter [(.pointer (some ⟨i9,0,none⟩)),(.func (.func F.lru_Run_begin) #[(.pointer (some ⟨i9,0,none⟩))] #[])] H22 λv23 H24=>
 v23=undef/\
 R (.pointer (some ⟨i9,0,none⟩)) H24))->
  CA en F.lru_Map_Begin [(.pointer x0),(.agg #[(.int .i64 x1_0),(.int .u64 x1_1),(.slice x1_2 x1_2l 0),(.int .i64 x1_3),(.int .i64 x1_4)])] H R:=by
 intro h;refine wpFn_ok (Z:=[]) (fn:=Go.Proofs.Tryz.f51) ?_ ?_ ?_
 ·kernel_rfl
 ·kernel_rfl
 ·apply turnInto h
  kernel_rfl
theorem vc_slices_Clone_uint64_uint64 (x0:Option Addr)(x0l:Nat)(H:Heap)(R:Value->Heap->Prop) :
  (
 bif x0.isNone then (
 R (.slice none 0 0) H)
 else (
 nwH H (.cells true 1 []) λi1 H2=>
 ∃l3,rowOf H2 1 x0 x0l=some l3/\
 apd H2 8 1 (some ⟨i1,0,none⟩) 0 x0l l3 λa4 i5 H6=>
 R (.slice a4 i5 0) H6))->
  CA en F.slices_Clone_uint64_uint64 [(.slice x0 x0l 0)] H R:=by
 intro h;refine wpFn_ok (Z:=[]) (fn:=Go.Proofs.Tryz.f76) ?_ ?_ ?_
 ·kernel_rfl
 ·kernel_rfl
 ·apply turnInto h
  kernel_rfl
end
end Go.Proofs.YtjggeoghlicmdaaGreat
