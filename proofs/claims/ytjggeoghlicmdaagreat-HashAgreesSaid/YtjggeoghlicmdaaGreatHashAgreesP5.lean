/-
  hashAgrees.proved: part 5 of its proof. No condition.
  Written by a program out of the texts VcHv VcLr HashM.
-/
import Derived.Test.YtjggeoghlicmdaaGreatHashAgreesP4
set_option linter.unusedVariables false
namespace Go.Proofs.YtjggeoghlicmdaaGreat
open Go Go.AS Go.RowKit
section
variable (H:aa)(R:VH)
set_option maxRecDepth 100000
set_option maxHeartbeats 2000000
theorem aBp (x0:Oa) :
  (aA x0 λi1 i2=>∃a3 i4,H.cell i1 (i2+1)=some (sl a3 i4)/\CA en F.Mu [(sl a3 i4)] H λv5 H6=>∃a7 i8,v5=(sl a7 i8)/\R (sl a7 i8) H6)->
  CA en F.V7 [(pt x0)] H R:=vk (by kernel_rfl)
theorem aBr (x0:Oa)(x1:Int) :
  (CA en F.PW [(pt x0),(iI x1)] H λv1 H2=>∃a3,v1=(pt a3)/\aC H2 (.cells true 0 [(pt none)]) λi4 H5=>aq H5 i4 0 [(pt a3)] λH6=>∃a7,H6.cell i4 0=some (pt a7)/\aA a7 λi8 i9=>aq H6 i8 (i9+7) [(.func (.func F.J5) #[] #[(pt (ad i4))])] λeO=>∃cu,eO.cell i4 0=some (pt cu)/\R (pt cu) eO)->
  CA en F.J4 [(pt x0),(iI x1)] H R:=vk (by kernel_rfl)
theorem aBq (x0:Oa) :
  (aA x0 λi1 i2=>∃a3,(H.ae 17).cell i1 i2=some (pt a3)/\aA a3 λi4 i5=>∃a6,(H.ae 17).cell i4 i5=some (pt a6)/\aA x0 λi7 i8=>∃a9,(H.ae 17).cell i7 i8=some (pt a9)/\aA a9 λi10 i11=>∃bH,(H.ae 17).cell i10 (i11+14)=some (iI bH)/\aC (H.ae 17) (.cells true 0 [(pt a6),(iI 0),(iU 0),s0,(iI 0),(iI 0),(iU 0),.nilFunc,(bb false),(bb false),(iI 0),s0,(iU 0),(iI 0),(iI bH),(iI 0),(iI 0),(iI 0),(iI 0),(iU 0),(iU 0)]) λi13 bt=>(aq bt i13 7 [(.func (.func F.BZ) #[(pt (ad i13))] #[])] λcz=>R (pt (ad i13)) cz)/\True)->
  CA en F.V8 [(pt x0)] H R:=vk (by kernel_rfl)
theorem aBw (x0:Oa) :
  (aC H (.cells true 0 [(pt x0)]) λi1 H2=>∃a3,((H2.ae 17).set (H2.next+15) (.cells true 0 [(iI 0),(iI 0)])).cell i1 0=some (pt a3)/\aA a3 λi4 i5=>∃a6,((H2.ae 17).set (H2.next+15) (.cells true 0 [(iI 0),(iI 0)])).cell i4 i5=some (pt a6)/\aA a6 λi7 i8=>∃a9,((H2.ae 17).set (H2.next+15) (.cells true 0 [(iI 0),(iI 0)])).cell i7 i8=some (pt a9)/\∃gx,((H2.ae 17).set (H2.next+15) (.cells true 0 [(iI 0),(iI 0)])).cell i1 0=some (pt gx)/\aA gx λi11 i12=>∃iR,((H2.ae 17).set (H2.next+15) (.cells true 0 [(iI 0),(iI 0)])).cell i11 i12=some (pt iR)/\aA iR λi14 i15=>∃dy,((H2.ae 17).set (H2.next+15) (.cells true 0 [(iI 0),(iI 0)])).cell i14 (i15+14)=some (iI dy)/\CA en F.JZ [(pt a9),(iI dy)] ((H2.ae 17).set (H2.next+15) (.cells true 0 [(iI 0),(iI 0)])) λsY gv=>∃fi cU,sY=(.agg #[(iI fi),(iI cU)])/\aq gv (H2.next+15) 0 [(iI fi),(iI cU)] λjZ=>(aC jZ (.cells true 0 [.nilFunc]) λi24 cR=>aq cR i24 0 [(.func (.func F.J6) #[] #[(pt (ad i1)),(pt (some ⟨(H2.next+15),0,none⟩)),(pt (ad i24))])] λeC=>∃jb,(eC.ae 8).cell i1 0=some (pt jb)/\aA jb λi28 i29=>∃jc,(eC.ae 8).cell i28 i29=some (pt jc)/\∃wI,(eC.ae 8).cell i24 0=some wI/\aA jc λi32 i33=>AS.pz wI λMV=>bif (Nat.beq MV.length 1) then (aq (eC.ae 8) i32 (i33+7) MV λgi=>(R undef gi)/\True) else False)/\((∃c23,((H2.ae 17).set (H2.next+15) (.cells true 0 [(iI 0),(iI 0)])).get (H2.next+15)=some (.cells true 0 c23)/\fv.jP 8 [(iI 0),(iI 0)] c23=true)/\(∃Js,gv.get (H2.next+15)=some (.cells true 0 Js)/\fv.jP 8 [(iI 0),(iI 0)] Js=true)/\True)/\True)->
  CA en F.V_ [(pt x0)] H R:=vk (by kernel_rfl)
theorem aBz (x0:Oa)(x1:Int) :
  (aA x0 λi1 i2=>∃a3,(H.ae 24).cell i1 i2=some (pt a3)/\aA a3 λi4 i5=>∃a6,(H.ae 24).cell i4 i5=some (pt a6)/\aA x0 λi7 i8=>∃a9,(H.ae 24).cell i7 i8=some (pt a9)/\aA a9 λi10 i11=>∃bH,(H.ae 24).cell i10 (i11+14)=some (iI bH)/\aA x0 λi13 i14=>∃dX i16,(H.ae 24).cell i13 (i14+2)=some (sl dX i16)/\az x1 i16/\aV dX λi17 i18=>∃fi,(H.ae 24).cell i17 (i18+(x1.toNat*1))=some (iI fi)/\aC (H.ae 24) (.cells true 0 [(pt a6),(iI 0),(iU 0),s0,(iI 0),(iI 0),(iU 0),.nilFunc,(bb false),(bb false),(iI 0),s0,(iU 0),(iI 0),(iI bH),(iI 0),(iI 0),(iI fi),(iI 0),(iU 0),(iU 0)]) λi20 jZ=>(R (pt (ad i20)) jZ)/\True)->
  CA en F.PW [(pt x0),(iI x1)] H R:=vk (by kernel_rfl)
theorem aBs (c0:Oa) :
  (aA c0 λi1 i2=>∃a3,(H.ae 17).cell i1 i2=some (pt a3)/\aA a3 λi4 i5=>∃a6,(H.ae 17).cell i4 i5=some (pt a6)/\aA a6 λi7 i8=>∃a9,(H.ae 17).cell i7 i8=some (pt a9)/\aA c0 λi10 i11=>∃bY,(H.ae 17).cell i10 i11=some (pt bY)/\aA bY λi13 i14=>∃bC,(H.ae 17).cell i13 (i14+17)=some (iI bC)/\CA en F.pV [(pt a9),(iI bC),(iI 2)] (H.ae 17) λoX aQ=>∃aY uO,oX=(.tuple #[(iU aY),(bb uO)])/\(aA c0 λi20 i21=>∃fS,(aQ.ae 12).cell i20 i21=some (pt fS)/\aA c0 λi23 i24=>∃fu,(aQ.ae 12).cell i23 i24=some (pt fu)/\aA fu λi26 i27=>∃eF,(aQ.ae 12).cell i26 i27=some (pt eF)/\aA c0 λi29 i30=>∃fz,(aQ.ae 12).cell i29 i30=some (pt fz)/\aA fz λi32 i33=>∃gn,(aQ.ae 12).cell i32 (i33+17)=some (iI gn)/\CA en F.Pw [(pt eF),(iU aY),(iI gn)] (aQ.ae 12) λZN mF=>∃iz jm i39 fD kV,ZN=(.agg #[(iI iz),(sl jm i39),(iU fD),(iI kV)])/\CA en F.z_ [(pt fS),(.agg #[(iI iz),(sl jm i39),(iU fD),(iI kV)])] mF λZO mX=>ZO=undef/\(aA c0 λi50 i51=>∃wU,mX.cell i50 i51=some (pt wU)/\aA wU λi53 i54=>aq mX i53 (i54+9) [(bb true)] λyh=>R undef yh)/\((aA c0 λi47 i48=>∃nQ,(aQ.ae 12).cell i47 i48=some (pt nQ)/\fS=nQ)/\(aA c0 λi44 i45=>∃kN,mF.cell i44 i45=some (pt kN)/\fS=kN)/\True)/\True)/\True)->
  CA en F.J5 [(pt c0)] H R:=vk (by kernel_rfl)
theorem aBx (c0 c1 c2:Oa) :
  (aA c0 λi1 i2=>∃a3,((H.ae 21).set (H.next+18) (.cells true 0 [(iU 0)])).cell i1 i2=some (pt a3)/\aA a3 λi4 i5=>∃a6,((H.ae 21).set (H.next+18) (.cells true 0 [(iU 0)])).cell i4 i5=some (pt a6)/\aA a6 λi7 i8=>∃a9,((H.ae 21).set (H.next+18) (.cells true 0 [(iU 0)])).cell i7 i8=some (pt a9)/\aA a9 λi10 i11=>∃bY,((H.ae 21).set (H.next+18) (.cells true 0 [(iU 0)])).cell i10 i11=some (pt bY)/\aA c1 λi13 i14=>∃bC,((H.ae 21).set (H.next+18) (.cells true 0 [(iU 0)])).cell i13 i14=some (iI bC)/\aA c1 λi16 i17=>∃aY,((H.ae 21).set (H.next+18) (.cells true 0 [(iU 0)])).cell i16 (i17+1)=some (iI aY)/\CA en F.pV [(pt bY),(iI bC),(iI aY)] ((H.ae 21).set (H.next+18) (.cells true 0 [(iU 0)])) λoZ bu=>∃bX q9,oZ=(.tuple #[(iU bX),(bb q9)])/\aq bu (H.next+18) 0 [(iU bX)] λaZ=>(∃dL,aZ.cell (H.next+18) 0=some (iU dL)/\bif (dL==0) then (aA c0 λi27 i28=>∃gD,aZ.cell i27 i28=some (pt gD)/\aA gD λi30 i31=>∃mg,aZ.cell i30 i31=some (pt mg)/\CA en F.z_ [(pt mg),(.agg #[(iI 0),s0,(iU 0),(iI 0)])] aZ λMO gi=>MO=undef/\aA c0 λi35 i36=>∃lq,gi.cell i35 i36=some (pt lq)/\aA lq λi38 i39=>∃rZ,gi.cell i38 i39=some (pt rZ)/\aA rZ λi41 i42=>aq gi i41 (i42+9) [(bb true)] λmX=>R undef mX) else (aA c0 λi44 i45=>∃kN,aZ.cell i44 i45=some (pt kN)/\aA kN λi47 i48=>∃nQ,aZ.cell i47 i48=some (pt nQ)/\aA nQ λi50 i51=>aq aZ i50 (i51+7) [(.func (.func F.J7) #[] #[(pt c0),(pt (some ⟨(H.next+18),0,none⟩)),(pt c1),(pt c2)])] λdW=>R undef dW))/\((∃c25,((H.ae 21).set (H.next+18) (.cells true 0 [(iU 0)])).get (H.next+18)=some (.cells true 0 c25)/\fv.jP 8 [(iU 0)] c25=true)/\(∃c24,bu.get (H.next+18)=some (.cells true 0 c24)/\fv.jP 8 [(iU 0)] c24=true)/\True)/\True)->
  CA en F.J6 [(pt c0),(pt c1),(pt c2)] H R:=vk (by kernel_rfl)
theorem aBy (c0 c1 c2 c3:Oa) :
  (aA c0 λi1 i2=>∃a3,(H.ae 18).cell i1 i2=some (pt a3)/\aA a3 λi4 i5=>∃a6,(H.ae 18).cell i4 i5=some (pt a6)/\aA a6 λi7 i8=>∃a9,(H.ae 18).cell i7 i8=some (pt a9)/\aA a9 λi10 i11=>∃bY,(H.ae 18).cell i10 i11=some (pt bY)/\aA c1 λi13 i14=>∃bC,(H.ae 18).cell i13 i14=some (iU bC)/\CA en F.pV [(pt bY),(iI (IntKind.i64.wrap bC)),(iI 1)] (H.ae 18) λoX aQ=>∃aY uO,oX=(.tuple #[(iU aY),(bb uO)])/\(aA c0 λi20 i21=>∃fS,(aQ.ae 23).cell i20 i21=some (pt fS)/\aA c0 λi23 i24=>∃fu,(aQ.ae 23).cell i23 i24=some (pt fu)/\aA c0 λi26 i27=>∃eF,(aQ.ae 23).cell i26 i27=some (pt eF)/\aA eF λi29 i30=>∃fz i32,(aQ.ae 23).cell i29 (i30+1)=some (sl fz i32)/\∃l33,rowOf ((aQ.ae 23).set (aQ.next+7) (.cells true 1 [(iU aY)])) 1 (some ⟨(aQ.next+7),0,none⟩) 1=some l33/\iT ((aQ.ae 23).set (aQ.next+7) (.cells true 1 [(iU aY)])) 8 1 fz i32 1 l33 λpw i35 mF=>aA c0 λi37 i38=>∃jn,mF.cell i37 i38=some (pt jn)/\aA jn λi40 i41=>∃mI i43,mF.cell i40 (i41+2)=some (sl mI i43)/\aA c1 λi44 i45=>∃iA,mF.cell i44 i45=some (iU iA)/\∃l47,rowOf (mF.set (aQ.next+15) (.cells true 1 [(iI (IntKind.i64.wrap iA))])) 1 (some ⟨(aQ.next+15),0,none⟩) 1=some l47/\iT (mF.set (aQ.next+15) (.cells true 1 [(iI (IntKind.i64.wrap iA))])) 8 1 mI i43 1 l47 λm7 i49 NJ=>aA fS λi51 i52=>aq NJ i51 (i52+1) [(sl pw i35)] λH53=>aA fu λi54 i55=>aq H53 i54 (i55+2) [(sl m7 i49)] λlN=>aA c0 λi57 i58=>∃lu,(((aQ.ae 23).set (aQ.next+7) (.cells true 1 [(iU aY)])).set (aQ.next+15) (.cells true 1 [(iI (IntKind.i64.wrap iA))])).cell i57 i58=some (pt lu)/\aA c0 λi60 i61=>∃kP,(((aQ.ae 23).set (aQ.next+7) (.cells true 1 [(iU aY)])).set (aQ.next+15) (.cells true 1 [(iI (IntKind.i64.wrap iA))])).cell i60 i61=some (pt kP)/\aA c0 λi63 i64=>∃r9,(((aQ.ae 23).set (aQ.next+7) (.cells true 1 [(iU aY)])).set (aQ.next+15) (.cells true 1 [(iI (IntKind.i64.wrap iA))])).cell i63 i64=some (pt r9)/\aA r9 λi66 i67=>∃wX i69,(((aQ.ae 23).set (aQ.next+7) (.cells true 1 [(iU aY)])).set (aQ.next+15) (.cells true 1 [(iI (IntKind.i64.wrap iA))])).cell i66 (i67+1)=some (sl wX i69)/\∃l70,rowOf (((aQ.ae 23).set (aQ.next+7) (.cells true 1 [(iU aY)])).set (aQ.next+15) (.cells true 1 [(iI (IntKind.i64.wrap iA))])) 1 (some ⟨(aQ.next+7),0,none⟩) 1=some l70/\iT (((aQ.ae 23).set (aQ.next+7) (.cells true 1 [(iU aY)])).set (aQ.next+15) (.cells true 1 [(iI (IntKind.i64.wrap iA))])) 8 1 wX i69 1 l70 λoI i72 kM=>aA c0 λi74 i75=>∃DE,kM.cell i74 i75=some (pt DE)/\aA DE λi77 i78=>∃DF i80,kM.cell i77 (i78+2)=some (sl DF i80)/\aA c1 λi81 i82=>∃xI,kM.cell i81 i82=some (iU xI)/\∃l84,rowOf kM 1 (some ⟨(aQ.next+15),0,none⟩) 1=some l84/\iT kM 8 1 DF i80 1 l84 λa85 i86 FN=>aA lu λi88 i89=>aq FN i88 (i89+1) [(sl oI i72)] λTd=>aA kP λi91 i92=>aq Td i91 (i92+2) [(sl a85 i86)] λnP=>(aA c1 λi134 i135=>∃Lr,nP.cell i134 i135=some (iU Lr)/\aA c2 λi137 i138=>aq nP i137 i138 [(iI (IntKind.i64.wrap Lr)),(iI 0)] λDu=>aA c0 λi140 i141=>∃abB,(Du.ae 8).cell i140 i141=some (pt abB)/\aA abB λi143 i144=>∃abC,(Du.ae 8).cell i143 i144=some (pt abC)/\aA c3 λi146 i147=>∃alB,(Du.ae 8).cell i146 i147=some alB/\aA abC λi149 i150=>AS.pz alB λalX=>bif (Nat.beq alX.length 1) then (aq (Du.ae 8) i149 (i150+7) alX λFL=>(R undef FL)/\True) else False)/\((∃c95,(((aQ.ae 23).set (aQ.next+7) (.cells true 1 [(iU aY)])).set (aQ.next+15) (.cells true 1 [(iI (IntKind.i64.wrap iA))])).get (aQ.next+15)=some c95/\AO (.cells true 1 [(iI (IntKind.i64.wrap xI))]) c95=true)/\(∃c94,kM.get (aQ.next+15)=some c94/\AO (.cells true 1 [(iI (IntKind.i64.wrap xI))]) c94=true)/\True)/\((aA c1 λi99 i100=>∃xu,(((aQ.ae 23).set (aQ.next+7) (.cells true 1 [(iU aY)])).set (aQ.next+15) (.cells true 1 [(iI (IntKind.i64.wrap iA))])).cell i99 i100=some (iU xu)/\xI=xu)/\(aA c1 λi96 i97=>∃xK,kM.cell i96 i97=some (iU xK)/\xI=xK)/\True)/\((∃IL i105,(((aQ.ae 23).set (aQ.next+7) (.cells true 1 [(iU aY)])).set (aQ.next+15) (.cells true 1 [(iI (IntKind.i64.wrap iA))])).cell i77 (i78+2)=some (sl IL i105)/\(DF=IL/\i80=i105/\0=0))/\(∃wT i103,kM.cell i77 (i78+2)=some (sl wT i103)/\(DF=wT/\i80=i103/\0=0))/\True)/\((aA c0 λi109 i110=>∃IM,(((aQ.ae 23).set (aQ.next+7) (.cells true 1 [(iU aY)])).set (aQ.next+15) (.cells true 1 [(iI (IntKind.i64.wrap iA))])).cell i109 i110=some (pt IM)/\DE=IM)/\(aA c0 λi106 i107=>∃uF,kM.cell i106 i107=some (pt uF)/\DE=uF)/\True)/\((∃ad3,(((aQ.ae 23).set (aQ.next+7) (.cells true 1 [(iU aY)])).set (aQ.next+15) (.cells true 1 [(iI (IntKind.i64.wrap iA))])).get (aQ.next+7)=some ad3/\AO (.cells true 1 [(iU aY)]) ad3=true)/\True)/\((aA c0 λi122 i123=>∃By,(((aQ.ae 23).set (aQ.next+7) (.cells true 1 [(iU aY)])).set (aQ.next+15) (.cells true 1 [(iI (IntKind.i64.wrap iA))])).cell i122 i123=some (pt By)/\kP=By)/\(aA c0 λi119 i120=>∃Bx,kM.cell i119 i120=some (pt Bx)/\kP=Bx)/\(aA c0 λi116 i117=>∃abq,FN.cell i116 i117=some (pt abq)/\kP=abq)/\(aA c0 λi113 i114=>∃Bw,Td.cell i113 i114=some (pt Bw)/\kP=Bw)/\True)/\((aA c0 λi131 i132=>∃aby,(((aQ.ae 23).set (aQ.next+7) (.cells true 1 [(iU aY)])).set (aQ.next+15) (.cells true 1 [(iI (IntKind.i64.wrap iA))])).cell i131 i132=some (pt aby)/\lu=aby)/\(aA c0 λi128 i129=>∃abx,kM.cell i128 i129=some (pt abx)/\lu=abx)/\(aA c0 λi125 i126=>∃IQ,FN.cell i125 i126=some (pt IQ)/\lu=IQ)/\True)/\True)/\True)->
  CA en F.J7 [(pt c0),(pt c1),(pt c2),(pt c3)] H R:=vk (by kernel_rfl)
noncomputable def TO:Code:=kE Go.Proofs.Tryz.f140 0
theorem aBt (x0:Oa)(x1:Int) :
  (aC H (.cells true 0 [(pt x0)]) λi1 H2=>aC H2 (.cells true 0 [(iI x1)]) λi3 H4=>∃a5,H4.cell i1 0=some (pt a5)/\∃n6,H4.cell i3 0=some (iI n6)/\CA en F.PW [(pt a5),(iI n6)] H4 λv7 H8=>∃a9,v7=(pt a9)/\aC H8 (.cells true 0 [(pt none)]) λi10 cj=>aq cj i10 0 [(pt a9)] λbO=>∃iR,(bO.ae 13).cell i10 0=some (pt iR)/\∃cI,(bO.ae 13).cell i10 0=some (pt cI)/\aA cI λi15 i16=>∃mf,(bO.ae 13).cell i15 i16=some (pt mf)/\∃de,(bO.ae 13).cell i10 0=some (pt de)/\aA de λi19 i20=>∃bX,(bO.ae 13).cell i19 (i20+14)=some (iI bX)/\CA en F.JZ [(pt mf),(iI bX)] (bO.ae 13) λqN aZ=>∃nA cc,qN=(.agg #[(iI nA),(iI cc)])/\aA iR λi26 i27=>aq aZ i26 (i27+15) [(iI nA),(iI cc)] λbN=>(∃fz,(bN.ae 8).cell i1 0=some (pt fz)/\aA fz λi32 i33=>∃pw i35,(bN.ae 8).cell i32 (i33+2)=some (sl pw i35)/\∃nC,(bN.ae 8).cell i3 0=some (iI nC)/\vc nC i35/\E6 (bN.ae 8) pw 1 0 nC.toNat λFl=>AS.asSlice Fl λjm i39=>(LA en TO [(pt x0),(iI x1),(pt (ad i1)),(pt (ad i3)),(pt none),(pt (ad i10)),ud,ud,(pt a5),(iI n6),(pt a9),(pt iR),(pt cI),(pA i15 i16),(pA i15 i16),(pt mf),(pt de),(pA i19 i20),(pA i19 (i20+14)),(iI bX),(.agg #[(iI nA),(iI cc)]),(pA i26 i27),(pA i26 (i27+15)),(pt fz),(pA i32 i33),(pA i32 (i33+2)),(sl pw i35),(iI nC),Fl,(iI (i39:Int)),(iI 0),ud,ud,ud,ud,ud,ud,ud,ud,ud,ud,ud,ud,ud,ud,ud,ud] (bN.ae 8) [(X.exit 0,λ(y40:Fr)(p8:aa)=>∃mI,p8.cell i10 0=some (pt mI)/\aA mI λi43 i44=>aq p8 i43 (i44+7) [(.func (.func F.PU) #[] #[(pt (ad i1)),(pt (ad i3)),(pt (ad i10))])] λdw=>∃kN,dw.cell i10 0=some (pt kN)/\R (pt kN) dw)])/\True)/\((∃jc,(bO.ae 13).cell i10 0=some (pt jc)/\iR=jc)/\(∃gD,aZ.cell i10 0=some (pt gD)/\iR=gD)/\True)/\True)->
  CA en F.V9 [(pt x0),(iI x1)] H R:=vz [[]] (by kernel_rfl)
theorem ayI {t0 t1 t2 t3 t4 t8 t9 t10 t11 t12 t13 t14 t15 t16 t17 t18 t19 t20 t21 t22 t23 t24 t25 t26 t27:Value}{t5:Nat}{t28:Value}{t29:Int}{K0:FH}{t30:Int}{t7 t31 t32 t33 t34 t35 t36 t37 t38 t39 t40 t41:Value}{H:aa}(I:Nat->Int->aa->Prop)(n:Nat)(h0:I n t30 H)
  (cY:∀(n:Nat)(t30:Int)(ys:Fr)(H:aa),I n t30 H->
  (bif (decide (t30<t29)) then (AS.asSlice t28 λa1 i2=>az t30 i2/\aV a1 λi3 i4=>∃n5,H.cell i3 (i4+(t30.toNat*1))=some (iI n5)/\bif (decide (n5>0)) then (∃a6,H.cell t5 0=some (pt a6)/\aA a6 λi7 i8=>aq H i7 (i8+15) [(iI n5),(iI 0)] λH9=>∃jS,jS<n/\I jS (IntKind.i64.wrap (t30+1)) H9) else (∃Ci,Ci<n/\I Ci (IntKind.i64.wrap (t30+1)) H)) else (K0 ([t0,t1,t2,t3,t4,(pt (ad t5)),ud,(gd ys 7),t8,t9,t10,t11,t12,t13,t14,t15,t16,t17,t18,t19,t20,t21,t22,t23,t24,t25,t26,t27,t28,(iI t29),(iI t30),(bb false)]++gs ys 32 10++[ud,ud,ud,ud,ud]) H))) :
  LA en TO [t0,t1,t2,t3,t4,(pt (ad t5)),ud,t7,t8,t9,t10,t11,t12,t13,t14,t15,t16,t17,t18,t19,t20,t21,t22,t23,t24,t25,t26,t27,t28,(iI t29),(iI t30),t31,t32,t33,t34,t35,t36,t37,t38,t39,t40,t41,ud,ud,ud,ud,ud] H [(X.exit 0,K0)]:=by
 refine ko (Z:=[]) (λm xs H'=>AS.asInt .i64 (xs.getD 30 undef) λt30=>I m t30 H') ?_ n H ?_
 ·intro n H
  suffices hs:∀fH fI eW s7 eY eZ fJ fK fL fM fN fO eU:Value,((AS.asInt .i64 eU λt30=>I n t30 H)->gr en TO [] [t0,t1,t2,t3,t4,(pt (ad t5)),ud,s7,t8,t9,t10,t11,t12,t13,t14,t15,t16,t17,t18,t19,t20,t21,t22,t23,t24,t25,t26,t27,t28,(iI t29),eU,fH,fI,eW,eY,eZ,fJ,fK,fL,fM,fN,fO,ud,ud,ud,ud,ud] H (kh (λm xs H'=>AS.asInt .i64 (xs.getD 30 undef) λt30=>I m t30 H') n [(X.exit 0,K0)])) by
   apply bL hs
   kernel_rfl
  intro fH fI eW s7 eY eZ fJ fK fL fM fN fO eU hP;replace hP:=gF hP;obtain ⟨t30,rfl,hP⟩:=hP;apply bL (cY n t30 [t0,t1,t2,t3,t4,(pt (ad t5)),ud,s7,t8,t9,t10,t11,t12,t13,t14,t15,t16,t17,t18,t19,t20,t21,t22,t23,t24,t25,t26,t27,t28,(iI t29),(iI t30),fH,fI,eW,eY,eZ,fJ,fK,fL,fM,fN,fO,ud,ud,ud,ud,ud] H hP);kernel_rfl
 ·apply bL h0
  kernel_rfl
theorem aBu (c0 c1 c2:Oa) :
  (aA c0 λi1 i2=>∃a3,(H.ae 7).cell i1 i2=some (pt a3)/\aA a3 λi4 i5=>∃a6 i7,(H.ae 7).cell i4 (i5+2)=some (sl a6 i7)/\aA c1 λi8 i9=>∃fC,(H.ae 7).cell i8 i9=some (iI fC)/\az fC i7/\aV a6 λi11 i12=>aq (H.ae 7) i11 (i12+(fC.toNat*1)) [(iI 0)] λcE=>(aA c2 λi14 i15=>∃jR,cE.cell i14 i15=some (pt jR)/\CA en F.PO [(pt jR),(.func (.func F.PV) #[] #[(pt c2)])] cE λsY gv=>sY=undef/\R undef gv)/\True)->
  CA en F.PU [(pt c0),(pt c1),(pt c2)] H R:=vk (by kernel_rfl)
theorem aBv (c0:Oa) :
  (aA c0 λi1 i2=>∃a3,H.cell i1 i2=some (pt a3)/\aA a3 λi4 i5=>aq H i4 (i5+9) [(bb true)] λH6=>R undef H6)->
  CA en F.PV [(pt c0)] H R:=vk (by kernel_rfl)
end
section
variable (H:aa)(R:VH)
set_option maxRecDepth 100000
set_option maxHeartbeats 2000000
theorem alP (x0:Oa)(a_:Nat) :
  (bif x0.isNone then (R s0 H) else (aC H (.cells true 1 []) λi1 H2=>∃l3,rowOf H2 1 x0 a_=some l3/\iT H2 8 1 (ad i1) 0 a_ l3 λa4 i5 H6=>R (sl a4 i5) H6))->
  CA en F.Mu [(sl x0 a_)] H R:=vk (by kernel_rfl)
end
section
variable {H H':aa} {R K:Value->aa->Prop} {L PL aT:List ax} {r:Nat}
abbrev Wd:=BitVec 64
def Ht:BitVec 64:=BitVec.allOnes 64
abbrev Gr.mem (G:Gr)(S:Sm):Gr:={G with S:=S}
def ic (w:BitVec 64):BitVec 64->BitVec 64:=lz 0 Ht w
theorem BE (w a:Wd):ic w a=a+w:=by
 unfold ic lz Ht;rw [als];show (a&&&BitVec.allOnes 64)+(w&&&BitVec.allOnes 64)=a+w;rw [aaA,aaA]
theorem Rj (As:List ax)(h:Sep H (As++many PL::L)):Sep H (many (As++PL)::L):=by
 have h1:Sep H (many PL::(As++L)):=h.perm pf;refine Sep.fX.2 ((Sep.fX.1 h1).perm ?_);rw [mC];exact Ir PL As L
theorem dI {g o z k:Nat}{w:Bool}{cs:List Value}{v:Value}(h:Sep H L)(hk:L[k]? =some (many PL))(hm:bx g (.cells w z cs)∈PL)(hv:cs[o]? =some v):H.cell g o=some v:=
 (cell_of (h.one k hk _ hm) o).trans hv
theorem awv {g o z k n:Nat}{w:Bool}{cs v:List Value}(h:Sep H L)(hk:L[k]? =some (many PL))(hm:bx g (.cells w z cs)∈PL)(hv:fm cs o n=some v):H.aM g o n=some v:=by
 have hg:H.get g=some (.cells w z cs):=h.one k hk _ hm;unfold aa.aM;rw [hg];exact hv
abbrev b1 (g:Nat)(v:Value):ax:=bx g (.cells true 0 [v])
theorem oW {A B:List ax}(h:∀x∈A,x∈B)(As:List ax):∀x∈A,x∈As++B:=λx hx=>mE _ (h x hx)
theorem zd {A B C:List ax}(h:∀x∈A,x∈B)(k:∀x∈B,x∈C):∀x∈A,x∈C:=λx hx=>k x (h x hx)
structure Gx where
 G:Gr
 b:Option Nat
 junk:List Value
 hb:b=none->G.q=[]
 hj:b=none->junk=[]
abbrev Gx.rest (g m:Nat)(X:Gx):List ax:=[bx g (.cells true 0 [P m,I X.G.n,.map (some X.G.mi),.slice (addr X.b) X.G.q.length 0]),im .i64 X.G.mi (kC X.G.ins),gl 2 X.b (rows X.G.q++X.junk),wm X.G.q]
def aR (g m:Nat)(X:Gx):ax:=many (mem m X.G.S::X.rest g m)
def Gx.to (X:Gx)(S:Sm):Gx:=⟨X.G.mem S,X.b,X.junk,X.hb,X.hj⟩
theorem qu {g m:Nat}{X:Gx}(h:Sep H (aR g m X::L)):Sep H (mem m X.G.S::(X.rest g m++L)):=Sep.fX.1 h
theorem D9 {g m:Nat}{X:Gx}{S:Sm}(h:Sep H (mem m S::(X.rest g m++L))):Sep H (aR g m (X.to S)::L):=Sep.fX.2 h
theorem Pd {g m:Nat}{X:Gx}(h:Sep H (aR g m X::L)):tw H g m X.G L:=
 ⟨X.b,X.junk,X.hb,X.hj,Sep.pick (qu h) 5 [1,2,3,4,0]⟩
theorem QJ {g m:Nat}{G:Gr}(h:tw H g m G L):∃X:Gx,X.G=G/\Sep H (aR g m X::L):=by
 have⟨b,junk,hb,hj,hs⟩:=h.ex;refine ⟨⟨G,b,junk,hb,hj⟩,rfl,Sep.fX.2 ?_⟩;exact Sep.pick hs 5 [4,0,1,2,3]
theorem Gt {g m:Nat}{X:Gx}{a i:Int}(h:Sep H (aR g m X::L))
  (hR:∀H',Sep H' (aR g m (X.to (X.G.S.acc a i true id).2)::L)->R (.tuple #[W (X.G.S.acc a i true id).1.1,.bool (X.G.S.acc a i true id).1.2]) H'):CA en F.pV [P m,I a,I i] H R:=
 avk (qu h) λH' h'=>hR H' (D9 h')
theorem Vu {g m:Nat}{X:Gx}{a i:Int}{v:BitVec 64}(h:Sep H (aR g m X::L))
  (hR:∀H',Sep H' (aR g m (X.to (X.G.S.acc a i true λ_=>v).2)::L)->R (.bool (X.G.S.acc a i true λ_=>v).1.2) H'):CA en F.y0 [P m,I a,I i,W v] H R:=
 axY (qu h) λH' h'=>hR H' (D9 h')
theorem arO {g m:Nat}{X:Gx}{a i:Int}{v:BitVec 64}(h:Sep H (aR g m X::L))
  (hR:∀H',Sep H' (aR g m (X.to (X.G.S.acc a i true (ic v)).2)::L)->R (.tuple #[W (X.G.S.acc a i true (ic v)).1.1,.bool (X.G.S.acc a i true (ic v)).1.2]) H'):CA en F.xU [P m,I a,I i,I 0,.int .u64 18446744073709551615,W v] H R:=by
 rw [ab1];exact afd (qu h) λH' h'=>hR H' (D9 h')
theorem afH {g m:Nat}{X:Gx}{a i:Int}(h:Sep H (aR g m X::L))
  (hR:∀H',Sep H' (aR g m (X.to (X.G.S.acc a i true (ic 1)).2)::L)->R (.tuple #[W (X.G.S.acc a i true (ic 1)).1.1,.bool (X.G.S.acc a i true (ic 1)).1.2]) H'):CA en F.QZ [P m,I a,I i] H R:=by
 apply aBG;exact arO (v:=1) h λH' h'=>⟨_,_,rfl,hR H' h'⟩
theorem Vl {g m:Nat}{X:Gx}{n:Int}(h:Sep H (aR g m X::L))(hf:X.G.S.find (wr (X.G.S.made+1))=none)
  (hR:∀H' b,Sep H' (aR g m (X.to (X.G.S.make b n).2)::L)->R (.tuple #[I (X.G.S.make b n).1.1,I (X.G.S.make b n).1.2]) H'):CA en F.wB [P m,I n] H R:=
 avs (qu h) (λ_ _ _=>hf) λH' b h'=>hR H' b (D9 h')
theorem arQ {g m:Nat}{X:Gx}{a:Int}(h:Sep H (aR g m X::L))(hl:X.G.q.length<10000)
  (hR:∀H' X' mb f n,X'.G=(X.G.defer a mb).2->Sep H' (aR g m X'::L)->R (.slice f n 0) H'):CA en F.JP [P g,I a] H R:=
 aqK (Pd h) hl λH' f mb _ h'=>by
  have⟨X',e,h2⟩:=QJ h'
  exact hR H' X' mb _ _ e (Sep.AL h2)
def RV (PL:List ax)(ws:List (BitVec 64))(sa:Option Addr):Prop:=
 (ws=[]/\sa=none)∨∃b w,ws=[w]/\sa=some ⟨b,0,none⟩/\bx b (.cells true 1 [W w])∈PL
theorem RV.mono (hp:∀A∈PL,A∈aT){ws:List (BitVec 64)}{sa:Option Addr}(h:RV PL ws sa):RV aT ws sa:=
 h.imp_right λ⟨b,w,h1,h2,h3⟩=>⟨b,w,h1,h2,hp _ h3⟩
theorem auF (As:List ax){A:ax}{M:List ax}(h:Sep H (As++A::many PL::M)):Sep H (A::many (As++PL)::M):=by
 have h1:Sep H (As++many PL::A::M):=h.perm ((List.Perm.swap (many PL) A M).append_left As);exact (Rj As h1).swap
theorem arV {g m:Nat}{X:Gx}{a i:Int}{mask v:BitVec 64}(h:Sep H (aR g m X::L))
  (hR:∀H',Sep H' (aR g m (X.to (X.G.S.acc a i true (lz 0 mask v)).2)::L)->R (.tuple #[W (X.G.S.acc a i true (lz 0 mask v)).1.1,.bool (X.G.S.acc a i true (lz 0 mask v)).1.2]) H'):CA en F.xU [P m,I a,I i,I 0,W mask,W v] H R:=
 afd (qu h) λH' h'=>hR H' (D9 h')
theorem arP {g m:Nat}{X:Gx}{a i:Int}{mask old v:BitVec 64}(h:Sep H (aR g m X::L))
  (hR:∀H',Sep H' (aR g m (X.to (X.G.S.acc a i true (jd mask old v)).2)::L)->R (.tuple #[W (X.G.S.acc a i true (jd mask old v)).1.1,.bool (X.G.S.acc a i true (jd mask old v)).1.2]) H'):CA en F.HQ [P m,I a,I i,W mask,W old,W v] H R:=
 aqk (qu h) λH' h'=>hR H' (D9 h')
theorem arW {g m:Nat}{X:Gx}{a:Int}(h:Sep H (aR g m X::L))(hR:∀H',Sep H' (aR g m (X.to (X.G.S.free a).2)::L)->R (.bool (X.G.S.free a).1) H'):CA en F.E9 [P m,I a] H R:=
 afw (qu h) λH' h'=>hR H' (D9 h')
abbrev Sm.fresh (S:Sm):Prop:=S.find (wr (S.made+1))=none
theorem TX (S:Sm)(a i:Int)(may:Bool)(f:BitVec 64->BitVec 64):(S.acc a i may f).2.made=S.made:=by
 unfold Sm.acc;split
 ·split<;>rfl
 ·rfl
theorem TW (S:Sm)(a i:Int)(may:Bool)(f:BitVec 64->BitVec 64):(S.acc a i may f).2.bp.map bz.h=S.bp.map bz.h:=by
 unfold Sm.acc;split
 ·split
  ·show ((S.ay.bp.map _).map bz.h)=_;rw [Il];refine M9 λx _=>?_
   show bz.h (if x.h=a then _ else x)=x.h;split<;>rfl
  ·rfl
 ·rfl
theorem U9 {S:Sm}{k:Int}:S.find k=none↔k∉S.bp.map bz.h:=by
 unfold Sm.find;rw [SH];simp only [cL,Nu,not_and,rP]
theorem aCB {w:BitVec 64}(e:(((w.toNat:Int)==0):Bool)=true):w=0:=by
 have e:w.toNat=0:=by simpa using e
 exact tf e
theorem aCs {w:BitVec 64}(e:(((w.toNat:Int)==0):Bool)=false):w≠0:=λh=>by
 subst h;simp at e
def Sm.V (S:Sm)(h:Int):Option (List Wd):=(S.find h).map bz.ws
theorem U8 (S:Sm)(a:Int)(i:Nat)(w:Wd)(h:Int):(S.dt a i w).find h=(S.find h).map λr=>if r.h=a then {r with ws:=r.ws.set i w} else r:=by
 unfold Sm.find Sm.dt;simp only;rw [List.find?_map]
 have:((λr:bz=>r.h==h)∘λr=>if r.h=a then {r with ws:=r.ws.set i w} else r)=λr=>r.h==h:=by
  funext r;simp only [Function.comp];split<;>rfl
 rw [this]
theorem DD {S:Sm}{a:Int}{ws:List Wd}{i:Nat}(hv:S.V a=some ws)(hi:i<ws.length)(f:Wd->Wd) :
  (S.acc a i true f).1=(ws.getD i 0,true)/\(∀h,(S.acc a i true f).2.V h=if h=a then some (ws.set i (f (ws.getD i 0))) else S.V h)/\(S.acc a i true f).2.dY=S.dY/\(S.acc a i true f).2.room=S.room/\(S.acc a i true f).2.count=wr (S.count+1):=by
 unfold Sm.V at hv;cases hf:S.find a with
 |none=>rw [hf] at hv;cases hv
 |some r=>
  rw [hf] at hv;have hw:r.ws=ws:=by simpa using hv
  have e:S.acc a i true f=((ws.getD i 0,true),S.ay.dt a i (f (ws.getD i 0))):=by
   unfold Sm.acc;rw [hf];simp only;rw [hw,ar ⟨trivial,by omega,by omega⟩];rfl
  rw [e];refine ⟨rfl,λh=>?_,rfl,rfl,rfl⟩;unfold Sm.V;rw [U8];show Option.map bz.ws (Option.map _ (S.find h))=_;by_cases eh:h=a
  ·subst eh;rw [hf,ar rfl];have hr:r.h=h:=(Gk hf).2;simp only [fa,hr,pc,hw]
  ·rw [an eh];cases Ep:S.find h with
   |none=>rfl
   |some r2=>
    have hr:r2.h=h:=(Gk Ep).2;simp only [fa,bc];rw [an (by rw [hr];exact eh)]
theorem TV {S:Sm}(b n:Nat)(hf:S.fresh)(h:Int):(S.mk' b n).V h=if h=wr (S.made+1) then some (List.replicate n 0) else S.V h:=by
 unfold Sm.V Sm.find Sm.mk';simp only;rw [List.find?_append];by_cases e:h=wr (S.made+1)
 ·subst e
  have:S.bp.find? (λr=>r.h==wr (S.made+1))=none:=hf
  rw [this,ar rfl];simp
 ·rw [an e]
  have:([⟨wr (S.made+1),b,S.cl,List.replicate n 0⟩]:List bz).find? (λr=>r.h==h)=none:=by
   rw [SH];intro r hr;simp only [fo] at hr;subst hr;simp only [rP];exact λh2=>e h2.symm
  cases hx:S.bp.find? (λr=>r.h==h) with
  |some r=>rfl
  |none=>
   simp only [Option.none_or,Option.map_none];simp only [Option.map_eq_none_iff]
   first|exact this|(simp only [List.find?_cons,List.find?_nil];split<;>simp_all)
theorem NW (S:Sm)(a h:Int):(S.free a).2.V h=if h=a then none else S.V h:=by
 unfold Sm.V Sm.free Sm.find;simp only;rw [List.find?_filter];by_cases e:h=a
 ·rw [ar e]
  have:S.bp.find? (λr=>decide ((r.h !=a)=true/\(r.h==h)=true))=none:=by
   rw [SH];intro r _;subst e;simp only [zi,ne_eq,rP,gf,not_and];exact λh1 h2=>h1 h2
  rw [this];rfl
 ·rw [an e]
  have:(λr:bz=>decide ((r.h !=a)=true/\(r.h==h)=true))=λr=>r.h==h:=by
   funext r
   rw [p7];simp only [zi,ne_eq,rP,gf];exact ⟨λh1=>h1.2,λh1=>⟨λh2=>e (by rw [<-h1,h2]),h1⟩⟩
  rw [this]
theorem aa_:∀(hs:List Int)(S:Sm)(h:Int),(jH S hs).V h=if h∈hs then none else S.V h
 |[],S,h=>rfl
 |a::hs,S,h=>by
  show (jH (S.free a).2 hs).V h=_
  rw [aa_ hs,NW]
  by_cases h1:h=a
  ·simp [h1]
  ·simp [h1]
theorem Zk {S:Sm}{h:Int}{ws:List Wd}(hv:S.V h=some ws):S.size h=ws.length:=by
 unfold Sm.V at hv;unfold Sm.size;cases hf:S.find h with
 |none=>rw [hf] at hv;cases hv
 |some r=>rw [hf] at hv;simp only [fa,bc] at hv;rw [<-hv]
theorem Vg:∀(hs:List Int)(S:Sm),(jH S hs).bp.map bz.h=(S.bp.map bz.h).filter λh=> !hs.contains h
 |[],S=>(Dg.2 λx _=>by simp).symm
 |a::hs,S=>by
  show (jH (S.free a).2 hs).bp.map bz.h=_;rw [Vg hs]
  have:(S.free a).2.bp.map bz.h=(S.bp.map bz.h).filter λh=>h !=a:=by
   unfold Sm.free;simp only [List.filter_map];rfl
  rw [this,List.filter_filter];refine List.filter_congr λx _=>?_
  rw [p7];simp only [jX,Dd,List.contains_eq_mem,jF,zi,ne_eq,dU,not_or];exact ⟨λh=>⟨h.2,h.1⟩,λh=>⟨h.2,h.1⟩⟩
theorem JK:∀(hs:List Int)(S:Sm),(jH S hs).made=S.made
 |[],S=>rfl
 |a::hs,S=>by show (jH (S.free a).2 hs).made=_;rw [JK hs];rfl
theorem Vf:∀(hs:List Int)(S:Sm),(jH S hs).dY=S.dY
 |[],S=>rfl
 |a::hs,S=>by show (jH (S.free a).2 hs).dY=_;rw [Vf hs];rfl
theorem afx:∀(hs:List Int)(S:Sm),hs.Nodup->(∀h∈hs,S.size h=3)->0<=S.room->S.room+3*hs.length<4611686018427387904->(jH S hs).room=S.room+3*hs.length
 |[],S,_,_,_,_=>by simp [jH]
 |a::hs,S,nd,hz,h0,h1=>by
  rw [l_] at nd;have hl:((a::hs).length:Int)=hs.length+1:=by simp
  rw [hl] at h1⊢;have e:(S.free a).2.room=S.room+3:=by
   show wr (S.room+S.size a)=_;rw [hz a (by simp),o_ (by omega)];rfl
  show (jH (S.free a).2 hs).room=_;rw [afx hs (S.free a).2 nd.2 (λh hh=>?_) (by rw [e];omega) (by rw [e];omega),e]
  ·omega
  ·have aW:h≠a:=λe=>nd.1 (e▸hh)
   have:=hz h (by simp [hh])
   unfold Sm.size Sm.free Sm.find at *;simp only at *;rw [List.find?_filter];have e2:(λr:bz=>decide ((r.h !=a)=true/\(r.h==h)=true))=λr=>r.h==h:=by
    funext r
    rw [p7];simp only [zi,ne_eq,rP,gf];exact ⟨λh1=>h1.2,λh1=>⟨λh2=>aW (by rw [<-h1,h2]),h1⟩⟩
   rw [e2];exact this
theorem afe {q:List Wt}(nd:(q.map Wt.h).Nodup):((q.map Wt.h).filter λh=> !(gone q).contains h)=(kept q).map Wt.h:=by
 rw [List.filter_map]
 have:q.filter ((λh=> !(gone q).contains h)∘Wt.h)=kept q:=by
  refine List.filter_congr λw hw=>?_
  simp only [Function.comp];rw [p7];simp only [Dd,List.contains_eq_mem,jF];rw [ne_iff];constructor
  ·intro h e;exact h (Vm.2 ⟨w,hw,e,rfl⟩)
  ·intro h e;exact afI nd e (W7.2 ⟨w,hw,h,rfl⟩)
 rw [this]
end
section
inductive Cb where
 |find|next (room:Int)
inductive Th where
 |op|search (k:Wd)(bh:Bool)(room:Int)
inductive Aw where
 |gZ|done
inductive Fb where
 |add|drop|take (a:Aw)
structure Tk where
 b:Nat
 t:Wd
 ph:Nat
 i:Int
inductive Nx where
 |none|enter (t:Tk)(k:Th)|th (k:Th)|load (k:Wd)(bh:Bool)(cb:Cb)|ask (k:Wd)(bh:Bool)(cb:Cb)
 |set|look|space|make|words (gw bw:Nat)(h:Int)(all:List Wd)(n:Nat)|change (f:Fb)|after (f:Fb)|link|drop|take
 |gp (a:Aw)|iD (v:Wd)(a:Aw)|off (a:Aw)|leave|begin|free (room:Int)|k9|kZ|mn|ot
structure Lc where
 x:Nat
 m:Nat
 g:Nat
 d0:Int
 d1:Int
 d2:Int
 d3:Int
 d4:Int
 h:Int
structure Qr where
 kd:Int
 ky:Wd
 fl:Int
 bW:Int
 val:Wd
 no:Int
 rv:List Wd
 rk:Wd
 el:Int
 nx:Nx
 aj:Bool
 dn:Bool
 room:Int
 ah:Int
 ai:Int
 cur:Int
 made:Int
 key:Wd
 bg:Wd
def bD:Wd:=4294967295
def tick:Wd:=4294967296
def zg:Wd:=Ht - tick
def lk (room:Int):Int:=wr (2+wr (3*room))
def hd (room:Int):Int:=wr (wr (2+wr (3*room))+2)
abbrev Bs:=Nat×Nat×Nat
def Qr.dH (q:Qr)(no:Int)(rv:List Wd)(rk:Wd)(el:Int):Qr:={q with no:=no,rv:=rv,rk:=rk,el:=el,aj:=true}
def Qr.to (q:Qr)(n:Nx):Qr:={q with nx:=n}
def Qr.fail (q:Qr)(e:Int):Qr:=(q.dH e [] 0 0).to .leave
def Qr.found (q:Qr)(there:Bool):Qr:=
 if q.kd=2/\there/\q.fl=1 then q.fail 3
 else if q.kd=2/\there then q.to .set
 else if q.kd=2/\q.fl≠2 then q.to .space
 else if there=false then q.fail 2
 else if q.kd=1 then q.to .look
 else if q.kd=3 then q.to .drop
 else q.to .take
def Qr.cb (q:Qr):Cb->Bool->Qr
 |.find,there=>q.found (there&&decide (q.key=q.ky))
 |.next room,there=>if there then q.to .kZ else q.to (.free room)
def Qr.di (q:Qr)(w:Wd)(k:Wd)(bh:Bool)(cb:Cb):Qr:=
 if IntKind.i64.wrap w.toNat=0 then ({q with cur:=IntKind.i64.wrap w.toNat}.to (.ask k bh cb)).cb cb false else {q with cur:=IntKind.i64.wrap w.toNat}.to (.ask k bh cb)
def Qr.asked (q:Qr)(w:Wd)(k:Wd)(bh:Bool)(cb:Cb):Qr:=
 if k.toNat<w.toNat∨(w=k/\bh=false) then {q with key:=w}.cb cb true
 else {q with key:=w,ah:=q.cur,ai:=0}.to (.load k bh cb)
def Qr.elem (c:Lc)(q:Qr)(w:Wd):Int:=if c.d0=10 then IntKind.i64.wrap w.toNat else q.cur
def Qr.enter (q:Qr)(room:Int)(k:Th)(b:Nat):Qr:={q with room:=room,nx:=.enter ⟨b,0,0,lk room⟩ k}
def Qr.search (c:Lc)(q:Qr)(room:Int)(bh:Bool)(b:Nat):Qr:=
 if c.d3<=room then q.to .k9 else q.enter room (.search (if bh then q.ky else 0) bh room) b
def Tk.step (c:Lc)(t:Tk)(S:Sm):Bool×Tk×Sm:=
 if t.ph=0 then (false,if (S.acc c.h t.i true (ic 1)).1.2 then {t with t:=(S.acc c.h t.i true (ic 1)).1.1,ph:=1} else t,(S.acc c.h t.i true (ic 1)).2)
 else if t.ph=1 then
  if (S.acc c.h (wr (t.i+1)) true id).1.2=true/\(S.acc c.h (wr (t.i+1)) true id).1.1=t.t then (true,{t with ph:=2},(S.acc c.h (wr (t.i+1)) true id).2) else (false,t,(S.acc c.h (wr (t.i+1)) true id).2)
 else (true,t,S)
def Qr.aw (q:Qr):Aw->Qr
 |.gZ=>q.to .leave
 |.done=>{q with dn:=true}
def pF (c:Lc)(q:Qr)(S:Sm):Sm:=(S.acc c.h (wr (lk q.room+1)) true (ic 1)).2
def BQ (q:Qr)(S:Sm)(k:Wd)(bh:Bool)(cb:Cb):Qr×Sm:=(q.di (S.acc q.ah q.ai true id).1.1 k bh cb,(S.acc q.ah q.ai true id).2)
def Th.key (q:Qr):Th->Wd×Bool×Cb
 |.op=>(q.ky,false,.find)
 |.search k bh room=>(k,bh,.next room)
def vS (c:Lc)(k:Th)(q:Qr)(S:Sm):Qr×Sm:=
 BQ ({q with ah:=c.h,ai:=hd q.room}.to (.load (k.key q).1 (k.key q).2.1 (k.key q).2.2)) S (k.key q).1 (k.key q).2.1 (k.key q).2.2
def Qr.space (c:Lc)(q:Qr)(w:Wd)(G:Gr):Qr×Gr:=
 if (w&&&bD).toNat<(BitVec.ofInt 64 c.d1).toNat then ({q with bg:=w&&&bD}.to (if q.made=0 then .make else .after .add),G)
 else if w>>>32=0 then ({q with bg:=w&&&bD}.fail 4,if 0<q.made then G.mem (G.S.free q.made).2 else G)
 else ({q with bg:=w&&&bD},G)
def kR (c:Lc)(f:Fb)(q:Qr)(S:Sm):Qr×Sm:=
 match f with
 |.add=>
  if (S.acc c.h 0 true (jd bD q.bg (q.bg+1))).1.1&&&bD=q.bg then ((q.dH 0 [] 0 0).to .link,(S.acc c.h 0 true (jd bD q.bg (q.bg+1))).2)
  else (q.to .space,(S.acc c.h 0 true (jd bD q.bg (q.bg+1))).2)
 |.drop=>((q.dH 0 [] 0 0).to (.gp .gZ),(S.acc c.h 0 true (lz 0 bD bD)).2)
 |.take a=>((q.dH 0 [(S.acc q.cur 2 true id).1.1] 0 0).to (.off a),(S.acc q.cur 2 true id).2)
def OP (c:Lc)(f:Fb)(q:Qr)(S:Sm):Qr×Sm:=(q.to (.after f),(S.acc c.h 1 true (ic 1)).2)
def Qr.still (c:Lc)(q:Qr)(S:Sm):Bool×Sm:=(decide ((S.acc c.h 1 true id).1.1=q.bg),(S.acc c.h 1 true id).2)
def cd (c:Lc):Nx->Qr->Gr->Bs->Qr×Gr
 |.none,q,G,_=>(q,G)
 |.enter t k,q,G,_=>(q.to (if (t.step c G.S).1 then .th k else .enter (t.step c G.S).2.1 k),G.mem (t.step c G.S).2.2)
 |.th k,q,G,_=>((vS c k q G.S).1,G.mem (vS c k q G.S).2)
 |.load k bh cb,q,G,_=>((BQ q G.S k bh cb).1,G.mem (BQ q G.S k bh cb).2)
 |.ask k bh cb,q,G,_=>(q.asked (G.S.acc q.cur 1 true id).1.1 k bh cb,G.mem (G.S.acc q.cur 1 true id).2)
 |.set,q,G,_=>((q.dH 0 [] 0 0).to .leave,G.mem (G.S.acc q.cur 2 true λ_=>q.val).2)
 |.look,q,G,_=>((q.dH 0 [(G.S.acc q.cur 2 true id).1.1] 0 (q.elem c (G.S.acc q.cur 2 true id).1.1)).to .leave,G.mem (G.S.acc q.cur 2 true id).2)
 |.space,q,G,_=>q.space c (G.S.acc c.h 0 true id).1.1 (G.mem (G.S.acc c.h 0 true id).2)
 |.make,q,G,b=>if (G.S.make b.1 3).1.2≠0 then (q.fail 5,G.mem (G.S.make b.1 3).2) else ({q with made:=(G.S.make b.1 3).1.1}.to (.words b.2.1 b.2.2 (G.S.make b.1 3).1.1 [BitVec.ofInt 64 q.cur,q.ky,q.val] 3),G.mem (G.S.make b.1 3).2)
 |.words gw bw h all n,q,G,_=>(q.to (if n=1 then .change .add else .words gw bw h all (n - 1)),G.mem (G.S.acc h ((n - 1:Nat):Int) true λ_=>all.getD (n - 1) 0).2)
 |.change f,q,G,_=>((OP c f q G.S).1,G.mem (OP c f q G.S).2)
 |.after f,q,G,_=>((kR c f q G.S).1,G.mem (kR c f q G.S).2)
 |.link,q,G,_=>(q.to .leave,G.mem (G.S.acc q.ah q.ai true λ_=>BitVec.ofInt 64 q.made).2)
 |.drop,q,G,_=>((OP c .drop q G.S).1,G.mem (OP c .drop q G.S).2)
 |.take,q,G,_=>(q.to (.change (.take .gZ)),G.mem (G.S.acc c.h 0 true (ic tick)).2)
 |.gp a,q,G,_=>(q.to (.iD (G.S.acc q.cur 0 true id).1.1 a),G.mem (G.S.acc q.cur 0 true id).2)
 |.iD v a,q,G,b=>(q.aw a,((G.mem (G.S.acc q.ah q.ai true λ_=>v).2).defer q.cur b.1).2)
 |.off a,q,G,_=>(q.to (.gp a),G.mem (G.S.acc c.h 0 true (ic zg)).2)
 |.leave,q,G,_=>({q with dn:=true},G.mem (pF c q G.S))
 |.begin,q,G,b=>({q with bg:=(G.S.acc c.h 1 true id).1.1}.search c (if q.fl=1 then 0 else bZ q.ky c.d3) (decide (q.fl≠1)) b.1,G.mem (G.S.acc c.h 1 true id).2)
 |.free room,q,G,b=>(q.search c (wr (room+1)) false b.1,G.mem (pF c q G.S))
 |.k9,q,G,_=>(if (q.still c G.S).1 then {q.dH 2 [] 0 0 with dn:=true} else q.to .begin,G.mem (q.still c G.S).2)
 |.kZ,q,G,_=>(if (q.still c G.S).1 then (q.dH 0 [] q.key 0).to .leave else q.to .mn,G.mem (q.still c G.S).2)
 |.mn,q,G,_=>(q.to .begin,G.mem (pF c q G.S))
 |.ot,q,G,_=>({q.dH 0 [(G.S.acc q.cur 2 true id).1.1] 0 (q.elem c (G.S.acc q.cur 2 true id).1.1) with dn:=true},G.mem (G.S.acc q.cur 2 true id).2)
def Qr.step (c:Lc)(q:Qr)(G:Gr)(b:Bs):Qr×Gr:=if q.dn then (q,G) else cd c q.nx {q with aj:=false} G b
def Qr.pX (q:Qr)(q':Qr):Bool×Bool:=if q.dn then (false,true) else (q'.aj,q'.dn)
def Qr.zero:Qr:=⟨0,0,0,0,0,0,[],0,0,.none,false,false,0,0,0,0,0,0,0⟩
def Qr.new (c:Lc)(kd:Int)(ky:Wd)(fl bW:Int)(val:Wd)(b:Nat):Qr:=
 if kd=4 then {Qr.zero with kd:=kd,ky:=ky,fl:=fl,bW:=bW,val:=val,nx:=.begin} else {Qr.zero with kd:=kd,ky:=ky,fl:=fl,bW:=bW,val:=val}.enter (bZ ky c.d3) .op b
end
section
variable {H H':aa} {R K:Value->aa->Prop} {L M PL aT:List ax} {r:Nat} {c:Lc} {ky:Wd}
inductive pg (PL:List ax)(r:Nat):Aw->Value->Prop where
 |gZ:pg PL r .gZ (.func (.func F.BX) #[P r] #[])
 |done {g:Nat}(h:b1 g (P r)∈PL):pg PL r .done (.func (.func F.PV) #[] #[P g])
def OB (PL:List ax)(g:Nat)(ky:Wd):Prop:=∃kd sl fl bW,bx g (.cells true 0 [I kd,W ky,sl,I fl,I bW])∈PL
inductive yb (PL:List ax)(r:Nat)(ky:Wd):Cb->Value->Prop where
 |find {g g2:Nat}(h:b1 g (P r)∈PL)(h2:OB PL g2 ky):yb PL r ky .find (.func (.func F.Pv) #[] #[P g,P g2])
 |next {g g3:Nat}{room:Int}(h:b1 g (P r)∈PL)(h3:b1 g3 (I room)∈PL):yb PL r ky (.next room) (.func (.func F.PF) #[] #[P g,P g3])
inductive vK (PL:List ax)(r:Nat)(ky:Wd):Th->Value->Prop where
 |op {g g2:Nat}(h:b1 g (P r)∈PL)(h2:OB PL g2 ky):vK PL r ky .op (.func (.func F.GB) #[] #[P g,P g2])
 |search {g g1 g2 g3:Nat}{k:Wd}{bh:Bool}{room:Int}(h:b1 g (P r)∈PL)(h1:b1 g1 (W k)∈PL)(h2:b1 g2 (.bool bh)∈PL)(h3:b1 g3 (I room)∈PL):vK PL r ky (.search k bh room) (.func (.func F.GC) #[] #[P g,P g1,P g2,P g3])
abbrev I6 (i1 i3 i5 i7 i27:Nat):Value:=.func (.func F.PJ) #[] #[P i1,P i3,P i5,P i7,P i27]
abbrev KZ (i1 i29 i7:Nat):Value:=.func (.func F.PK) #[] #[P i1,P i29,P i7]
structure Sk (PL:List ax)(r:Nat)(ky k:Wd)(bh:Bool)(cb:Cb)(i1 i3 i5 i7 i27 i29:Nat):Prop where
 run:b1 i1 (P r)∈PL
 k:b1 i3 (W k)∈PL
 bh:b1 i5 (.bool bh)∈PL
 cb:∃v,b1 i7 v∈PL/\yb PL r ky cb v
 ld:b1 i27 (KZ i1 i29 i7)∈PL
 ak:b1 i29 (I6 i1 i3 i5 i7 i27)∈PL
inductive FV (PL:List ax)(r:Nat):Fb->Value->Prop where
 |add:FV PL r .add (.func (.func F.z9) #[P r] #[])
 |drop {g:Nat}(h:b1 g (P r)∈PL):FV PL r .drop (.func (.func F.Ej) #[] #[P g])
 |take {g g2:Nat}{a:Aw}{va:Value}(h:b1 g (P r)∈PL)(h2:b1 g2 va∈PL)(ha:pg PL r a va):FV PL r (.take a) (.func (.func F.Em) #[] #[P g,P g2])
abbrev bound (f r:Nat):Value:=.func (.func f) #[P r] #[]
inductive NV (PL:List ax)(r:Nat)(ky:Wd):Nx->Value->Prop where
 |none {v:Value}:NV PL r ky .none v
 |enter {gt g2 g:Nat}{t:Tk}{k:Th}{v:Value}(h:b1 gt (P t.b)∈PL)(h2:b1 g2 v∈PL)(hk:vK PL r ky k v)(h3:b1 g (P r)∈PL):NV PL r ky (.enter t k) (.func (.func F.uV) #[] #[P gt,P g2,P g])
 |th {k:Th}{v:Value}(hk:vK PL r ky k v):NV PL r ky (.th k) v
 |load {k:Wd}{bh:Bool}{cb:Cb}{i1 i3 i5 i7 i27 i29:Nat}(hs:Sk PL r ky k bh cb i1 i3 i5 i7 i27 i29):NV PL r ky (.load k bh cb) (KZ i1 i29 i7)
 |ask {k:Wd}{bh:Bool}{cb:Cb}{i1 i3 i5 i7 i27 i29:Nat}(hs:Sk PL r ky k bh cb i1 i3 i5 i7 i27 i29):NV PL r ky (.ask k bh cb) (I6 i1 i3 i5 i7 i27)
 |set:NV PL r ky .set (bound F.Ek r)
 |look:NV PL r ky .look (bound F.ru r)
 |space:NV PL r ky .space (bound F.xi r)
 |make:NV PL r ky .make (bound F.PC r)
 |words {gw bw g gh n:Nat}{h:Int}{all:List Wd}(h1:b1 g (P r)∈PL)(h2:b1 gh (I h)∈PL)(hn:1<=n/\n<=all.length/\all.length<=3):NV PL r ky (.words gw bw h all n) (.func (.func F.B1) #[] #[P gw,P g,P gh])
 |change {g g2:Nat}{f:Fb}{v:Value}(h:b1 g (P r)∈PL)(h2:b1 g2 v∈PL)(hf:FV PL r f v):NV PL r ky (.change f) (.func (.func F.J1) #[] #[P g,P g2])
 |after {f:Fb}{v:Value}(hf:FV PL r f v):NV PL r ky (.after f) v
 |link {g:Nat}(h:b1 g (P r)∈PL):NV PL r ky .link (.func (.func F.Px) #[] #[P g])
 |drop:NV PL r ky .drop (bound F.rq r)
 |take:NV PL r ky .take (bound F.ry r)
 |gp {g g2:Nat}{a:Aw}{va:Value}(h:b1 g (P r)∈PL)(h2:b1 g2 va∈PL)(ha:pg PL r a va):NV PL r ky (.gp a) (.func (.func F.PS) #[] #[P g,P g2])
 |iD {g g2 g3:Nat}{a:Aw}{va:Value}{v:Wd}(h:b1 g (P r)∈PL)(h3:b1 g3 (W v)∈PL)(h2:b1 g2 va∈PL)(ha:pg PL r a va):NV PL r ky (.iD v a) (.func (.func F.PT) #[] #[P g,P g3,P g2])
 |off {g g2:Nat}{a:Aw}{va:Value}(h:b1 g (P r)∈PL)(h2:b1 g2 va∈PL)(ha:pg PL r a va):NV PL r ky (.off a) (.func (.func F.PQ) #[] #[P g,P g2])
 |leave:NV PL r ky .leave (bound F.BZ r)
 |begin:NV PL r ky .begin (bound F.BY r)
 |free {g g3:Nat}{room:Int}(h:b1 g (P r)∈PL)(h3:b1 g3 (I room)∈PL):NV PL r ky (.free room) (.func (.func F.PG) #[] #[P g,P g3])
 |k9 {g:Nat}(h:b1 g (P r)∈PL):NV PL r ky .k9 (.func (.func F.PD) #[] #[P g])
 |kZ {g:Nat}(h:b1 g (P r)∈PL):NV PL r ky .kZ (.func (.func F.PH) #[] #[P g])
 |ot {g:Nat}(h:b1 g (P r)∈PL):NV PL r ky .ot (.func (.func F.J5) #[] #[P g])
 |mn {g:Nat}(h:b1 g (P r)∈PL):NV PL r ky .mn (.func (.func F.PN) #[] #[P g])
theorem pg.mono (hp:∀A∈PL,A∈aT){a:Aw}{v:Value}(h:pg PL r a v):pg aT r a v:=by
 cases h with
 |gZ=>exact .gZ
 |done h=>exact .done (hp _ h)
theorem OB.mono {g:Nat}(hp:∀A∈PL,A∈aT)(h:OB PL g ky):OB aT g ky:=by
 have⟨a,b,d,e,h⟩:=h;exact ⟨a,b,d,e,hp _ h⟩
theorem yb.mono (hp:∀A∈PL,A∈aT){a:Cb}{v:Value}(h:yb PL r ky a v):yb aT r ky a v:=by
 cases h with
 |find h h2=>exact .find (hp _ h) (h2.mono hp)
 |next h h3=>exact .next (hp _ h) (hp _ h3)
theorem vK.mono (hp:∀A∈PL,A∈aT){a:Th}{v:Value}(h:vK PL r ky a v):vK aT r ky a v:=by
 cases h with
 |op h h2=>exact .op (hp _ h) (h2.mono hp)
 |search h h1 h2 h3=>exact .search (hp _ h) (hp _ h1) (hp _ h2) (hp _ h3)
theorem Sk.mono (hp:∀A∈PL,A∈aT){k:Wd}{bh:Bool}{cb:Cb}{i1 i3 i5 i7 i27 i29:Nat}(h:Sk PL r ky k bh cb i1 i3 i5 i7 i27 i29):Sk aT r ky k bh cb i1 i3 i5 i7 i27 i29:=by
 have⟨v,h1,h2⟩:=h.cb;exact ⟨hp _ h.run,hp _ h.k,hp _ h.bh,⟨v,hp _ h1,h2.mono hp⟩,hp _ h.ld,hp _ h.ak⟩
theorem FV.mono (hp:∀A∈PL,A∈aT){a:Fb}{v:Value}(h:FV PL r a v):FV aT r a v:=by
 cases h with
 |add=>exact .add
 |drop h=>exact .drop (hp _ h)
 |take h h2 ha=>exact .take (hp _ h) (hp _ h2) (ha.mono hp)
theorem NV.mono (hp:∀A∈PL,A∈aT){n:Nx}{v:Value}(h:NV PL r ky n v):NV aT r ky n v:=by
 cases h with
 |none=>exact .none
 |enter h h2 hk h3=>exact .enter (hp _ h) (hp _ h2) (hk.mono hp) (hp _ h3)
 |th hk=>exact .th (hk.mono hp)
 |load hs=>exact .load (hs.mono hp)
 |ask hs=>exact .ask (hs.mono hp)
 |set=>exact .set
 |look=>exact .look
 |space=>exact .space
 |make=>exact .make
 |words h1 h2 hn=>exact .words (hp _ h1) (hp _ h2) hn
 |change h h2 hf=>exact .change (hp _ h) (hp _ h2) (hf.mono hp)
 |after hf=>exact .after (hf.mono hp)
 |link h=>exact .link (hp _ h)
 |drop=>exact .drop
 |take=>exact .take
 |gp h h2 ha=>exact .gp (hp _ h) (hp _ h2) (ha.mono hp)
 |iD h h3 h2 ha=>exact .iD (hp _ h) (hp _ h3) (hp _ h2) (ha.mono hp)
 |off h h2 ha=>exact .off (hp _ h) (hp _ h2) (ha.mono hp)
 |leave=>exact .leave
 |begin=>exact .begin
 |free h h3=>exact .free (hp _ h) (hp _ h3)
 |k9 h=>exact .k9 (hp _ h)
 |kZ h=>exact .kZ (hp _ h)
 |ot h=>exact .ot (hp _ h)
 |mn h=>exact .mn (hp _ h)
theorem pg.fn {k:Aw}{v:Value}(h:pg PL r k v):∃f l cs,v=.func (.func f) ⟨l⟩ ⟨cs⟩:=by cases h<;>exact ⟨_,_,_,rfl⟩
theorem yb.fn {k:Cb}{v:Value}(h:yb PL r ky k v):∃f l cs,v=.func (.func f) ⟨l⟩ ⟨cs⟩:=by cases h<;>exact ⟨_,_,_,rfl⟩
theorem vK.fn {k:Th}{v:Value}(h:vK PL r ky k v):∃f l cs,v=.func (.func f) ⟨l⟩ ⟨cs⟩:=by cases h<;>exact ⟨_,_,_,rfl⟩
theorem FV.fn {k:Fb}{v:Value}(h:FV PL r k v):∃f l cs,v=.func (.func f) ⟨l⟩ ⟨cs⟩:=by cases h<;>exact ⟨_,_,_,rfl⟩
theorem apo {f:Nat}{fs cs:Array Value}{K:List Value->Prop}(h:K [.func (.func f) fs cs]):AS.pz (.func (.func f) fs cs) K:=h
theorem yn {f i o:Nat}{fs cs:Array Value}{K:aa->Prop}(h:aq H i o [.func (.func f) fs cs] K):AS.pz (.func (.func f) fs cs) λvs=>bif Nat.beq vs.length 1 then aq H i o vs K else False:=h
abbrev rA (r:Nat)(c:Lc)(q:Qr)(sa:Option Addr)(v:Value):ax:=
 bx r (.cells true 0 [P c.x,I q.kd,W q.ky,.slice none 0 0,I q.fl,I q.bW,W q.val,v,.bool q.aj,.bool q.dn,I q.no,.slice sa q.rv.length 0,W q.rk,I q.el,I q.room,I q.ah,I q.ai,I q.cur,I q.made,W q.key,W q.bg])
abbrev xA (c:Lc):ax:=bx c.x (.cells true 0 [P c.m,P c.g,I c.d0,I c.d1,I c.d2,I c.d3,I c.d4,I c.h])
def tkF (ph:Nat):Nat:=if ph=0 then F.QW else if ph=1 then F.QY else F.QX
abbrev qK (c:Lc)(t:Tk):ax:=bx t.b (.cells true 0 [P c.m,I c.h,I t.i,W t.t,.func (.func (tkF t.ph)) #[P t.b] #[]])
def wD (c:Lc):Nx->List ax
 |.enter t _=>[qK c t]
 |.words gw bw _ all n=>[bx gw (.cells true 0 [.slice (some ⟨bw,0,none⟩) n 0]),bx bw (.cells true 1 (all.map W))]
 |_=>[]
structure Rk (H:aa)(PL:List ax)(r:Nat)(c:Lc)(q:Qr)(X:Gx)(L:List ax):Prop where
 ex:∃sa v,RV PL q.rv sa/\NV PL r q.ky q.nx v/\Sep H (rA r c q sa v::many PL::xA c::aR c.g c.m X::many (wD c q.nx)::L)
variable {q:Qr} {X X':Gx}
theorem aeP {T:List ax}{A B C D:ax}(h:Sep H (A::B::C::D::many T::L)):Sep H (A::B::C::D::many []::L):=by
 have h1:Sep H (many []::A::B::C::D::L):=Sep.vh (Sep.rm4 h);exact Sep.pick h1 5 [1,2,3,4,0]
theorem Rk.ae (h:Rk H PL r c q X L)(n:Nat):Rk (H.ae n) PL r c q X L:=by
 have⟨sa,nv,cv,b_,hs⟩:=h.ex;exact ⟨sa,nv,cv,b_,hs.ae n⟩
theorem Rk.box (h:Rk H PL r c q X L){g:Nat}{v:Value}(hm:b1 g v∈PL):H.cell g 0=some v:=by
 have⟨sa,nv,cv,b_,hs⟩:=h.ex;exact dI (k:=1) hs rfl hm rfl
theorem Rk.ins (As:List ax){sa:Option Addr}{nv:Value}(cv:RV PL q.rv sa)(b_:NV PL r q.ky q.nx nv)(h:Sep H (As++rA r c q sa nv::many PL::xA c::aR c.g c.m X::many (wD c q.nx)::L)):Rk H (As++PL) r c q X L:=
 have hp:=oW (A:=PL) (λ_ h=>h) As
 ⟨sa,nv,cv.mono hp,b_.mono hp,auF As h⟩
theorem Rk.br (h:Rk H PL r c q X L)(j:Nat){v:Value}(hv:∀sa nv,[P c.x,I q.kd,W q.ky,.slice none 0 0,I q.fl,I q.bW,W q.val,nv,.bool q.aj,.bool q.dn,I q.no,.slice sa q.rv.length 0,W q.rk,I q.el,I q.room,I q.ah,I q.ai,I q.cur,I q.made,W q.key,W q.bg][j]? =some v):H.cell r j=some v:=by
 have⟨sa,nv,cv,b_,hs⟩:=h.ex;exact Sep.aG hs (hv sa nv)
theorem Rk.xf (h:Rk H PL r c q X L)(j:Nat){v:Value}(hv:[P c.m,P c.g,I c.d0,I c.d1,I c.d2,I c.d3,I c.d4,I c.h][j]? =some v):H.cell c.x j=some v:=by
 have⟨sa,nv,cv,b_,hs⟩:=h.ex;exact Sep.eK hs hv
theorem jO {n:Nx}{f:Nat}{l cs:List Value}{K:aa->Prop}(h:Rk H PL r c q X L)(hn:NV PL r q.ky n (.func (.func f) ⟨l⟩ ⟨cs⟩))(ht:wD c n=[])(hK:∀H',Rk H' PL r c (q.to n) X L->K H'):aq H r 7 [.func (.func f) ⟨l⟩ ⟨cs⟩] K:=by
 have⟨sa,nv,cv,b_,hs⟩:=h.ex;refine Sep.dp hs (aS rfl) λeO eI=>hK eO ⟨sa,_,cv,hn,?_⟩
 rw [show wD c (q.to n).nx=[] from ht];exact aeP eI
theorem vt {K:aa->Prop}{vs:List Value}{q':Qr}{j:Nat}(h:Rk H PL r c q X L)(hj:j+vs.length<=21)(e1:q'.rv=q.rv)(e2:q'.nx=q.nx)(e3:q'.ky=q.ky)
  (hv:∀sa nv,setAt [P c.x,I q.kd,W q.ky,.slice none 0 0,I q.fl,I q.bW,W q.val,nv,.bool q.aj,.bool q.dn,I q.no,.slice sa q.rv.length 0,W q.rk,I q.el,I q.room,I q.ah,I q.ai,I q.cur,I q.made,W q.key,W q.bg] j vs=
   [P c.x,I q'.kd,W q'.ky,.slice none 0 0,I q'.fl,I q'.bW,W q'.val,nv,.bool q'.aj,.bool q'.dn,I q'.no,.slice sa q'.rv.length 0,W q'.rk,I q'.el,I q'.room,I q'.ah,I q'.ai,I q'.cur,I q'.made,W q'.key,W q'.bg])(hK:∀H',Rk H' PL r c q' X L->K H'):aq H r j vs K:=by
 have⟨sa,nv,cv,b_,hs⟩:=h.ex;refine Sep.dp hs hj λeO eI=>hK eO ⟨sa,nv,by rw [e1];exact cv,by rw [e2,e3];exact b_,?_⟩
 have jo:Sep eO (bx r (.cells true 0 (setAt [P c.x,I q.kd,W q.ky,.slice none 0 0,I q.fl,I q.bW,W q.val,nv,.bool q.aj,.bool q.dn,I q.no,.slice sa q.rv.length 0,W q.rk,I q.el,I q.room,I q.ah,I q.ai,I q.cur,I q.made,W q.key,W q.bg] j vs))::many PL::xA c::aR c.g c.m X::many (wD c q.nx)::L):=eI;rw [hv sa nv] at jo;rw [e2];exact jo
theorem HI {no el:Int}{rv:List Wd}{rk:Wd}{sa:Option Addr}(h:Rk H PL r c q X L)(hv:RV PL rv sa)
  (hR:∀H',Rk H' PL r c (q.dH no rv rk el) X L->R undef H'):CA en F.z_ [P r,.agg #[I no,.slice sa rv.length 0,W rk,I el]] H R:=by
 have⟨Mj,nv,cv,b_,hs⟩:=h.ex;apply alO;refine Sep.nw hs λi1 H2 h2=>⟨_,_,_,_,_,Sep.jK h2 rfl,af (Sep.lK h2 (aS rfl) λeO eI=>af (Sep.lK eI (aS rfl) λcE gP=>?_))⟩
 exact hR cE ⟨sa,nv,hv,b_,gP.tail⟩
theorem Yg {no el:Int}{rv:List Wd}{rk:Wd}{sa:Option Addr}(h:Rk H PL r c q X L)(hv:RV PL rv sa)
  (hR:∀H',Rk H' PL r c ((q.dH no rv rk el).to .leave) X L->R undef H'):CA en F.J2 [P r,.agg #[I no,.slice sa rv.length 0,W rk,I el]] H R:=by
 have⟨Mj,nv,cv,b_,hs⟩:=h.ex;apply aAV;refine Sep.nw hs λi1 H2 h2=>⟨_,_,_,_,_,Sep.jK h2 rfl,?_⟩
 refine HI ⟨Mj,nv,cv,b_,h2.tail⟩ hv λH9 o9=>⟨rfl,af (jO o9 .leave rfl λbO XI=>hR bO XI)⟩
theorem Md {e:Int}(h:Rk H PL r c q X L)
  (hR:∀H',Rk H' PL r c (q.fail e) X L->R undef H'):CA en F.mK [P r,I e] H R:=by
 apply aA2;exact Yg (rv:=[]) (rk:=0) (sa:=none) h (.inl ⟨rfl,rfl⟩) λH2 h2=>⟨rfl,hR H2 h2⟩
theorem akx (h:Rk H PL r c q X L)(hR:∀H',Rk H' PL r c (q.to .leave) X L->R undef H'):CA en F.BX [P r] H R:=by
 apply aAQ;exact af (jO h .leave rfl λbO XI=>hR bO XI)
theorem QU {room:Int}{a:Option Addr}(hR:R (I (lk room)) H):CA en F.J0 [.pointer a,I room] H R:=aAL _ _ _ _ hR
theorem asQ {room:Int}(h:Rk H PL r c q X L)(hR:∀H',Rk H' PL r c q X L->R (.agg #[I c.h,I (hd room)]) H'):CA en F.JZ [P c.x,I room] H R:=by
 have⟨sa,nv,cv,b_,hs⟩:=h.ex;apply ZW;refine Sep.nw hs λi1 H2 h2=>af ⟨_,Sep.iV h2 rfl,Sep.dp h2 (aS rfl) λH6 h6=>⟨_,_,Sep.jK h6 rfl,?_⟩⟩
 exact hR H6 ⟨sa,nv,cv,b_,h6.tail⟩
theorem CR {a i:Int}(h:Rk H PL r c q X L)
  (hR:∀H',Rk H' PL r c q (X.to (X.G.S.acc a i true id).2) L->R (.tuple #[W (X.G.S.acc a i true id).1.1,.bool (X.G.S.acc a i true id).1.2]) H'):CA en F.pV [P c.m,I a,I i] H R:=by
 have⟨sa,nv,cv,b_,hs⟩:=h.ex;exact Gt (Sep.k_ hs) λH' h'=>hR H' ⟨sa,nv,cv,b_,Sep.pick h' 5 [1,2,3,0,4]⟩
theorem Yp {a i:Int}{v:Wd}(h:Rk H PL r c q X L)
  (hR:∀H',Rk H' PL r c q (X.to (X.G.S.acc a i true λ_=>v).2) L->R (.bool (X.G.S.acc a i true λ_=>v).1.2) H'):CA en F.y0 [P c.m,I a,I i,W v] H R:=by
 have⟨sa,nv,cv,b_,hs⟩:=h.ex;exact Vu (Sep.k_ hs) λH' h'=>hR H' ⟨sa,nv,cv,b_,Sep.pick h' 5 [1,2,3,0,4]⟩
theorem RB {a i:Int}{mask v:Wd}(h:Rk H PL r c q X L)
  (hR:∀H',Rk H' PL r c q (X.to (X.G.S.acc a i true (lz 0 mask v)).2) L->R (.tuple #[W (X.G.S.acc a i true (lz 0 mask v)).1.1,.bool (X.G.S.acc a i true (lz 0 mask v)).1.2]) H'):CA en F.xU [P c.m,I a,I i,I 0,W mask,W v] H R:=by
 have⟨sa,nv,cv,b_,hs⟩:=h.ex;exact arV (Sep.k_ hs) λH' h'=>hR H' ⟨sa,nv,cv,b_,Sep.pick h' 5 [1,2,3,0,4]⟩
theorem awJ {a i:Int}{mask old v:Wd}(h:Rk H PL r c q X L)
  (hR:∀H',Rk H' PL r c q (X.to (X.G.S.acc a i true (jd mask old v)).2) L->R (.tuple #[W (X.G.S.acc a i true (jd mask old v)).1.1,.bool (X.G.S.acc a i true (jd mask old v)).1.2]) H'):CA en F.HQ [P c.m,I a,I i,W mask,W old,W v] H R:=by
 have⟨sa,nv,cv,b_,hs⟩:=h.ex;exact arP (Sep.k_ hs) λH' h'=>hR H' ⟨sa,nv,cv,b_,Sep.pick h' 5 [1,2,3,0,4]⟩
theorem awT {a:Int}(h:Rk H PL r c q X L)(hR:∀H',Rk H' PL r c q (X.to (X.G.S.free a).2) L->R (.bool (X.G.S.free a).1) H'):CA en F.E9 [P c.m,I a] H R:=by
 have⟨sa,nv,cv,b_,hs⟩:=h.ex;exact arW (Sep.k_ hs) λH' h'=>hR H' ⟨sa,nv,cv,b_,Sep.pick h' 5 [1,2,3,0,4]⟩
theorem awX {n:Int}(h:Rk H PL r c q X L)(hf:X.G.S.fresh)
  (hR:∀H' b,Rk H' PL r c q (X.to (X.G.S.make b n).2) L->R (.tuple #[I (X.G.S.make b n).1.1,I (X.G.S.make b n).1.2]) H'):CA en F.wB [P c.m,I n] H R:=by
 have⟨sa,nv,cv,b_,hs⟩:=h.ex;exact Vl (Sep.k_ hs) hf λH' b h'=>hR H' b ⟨sa,nv,cv,b_,Sep.pick h' 5 [1,2,3,0,4]⟩
theorem awL {a:Int}(h:Rk H PL r c q X L)(hl:X.G.q.length<10000)
  (hR:∀H' X' mb f n,X'.G=(X.G.defer a mb).2->Rk H' PL r c q X' L->R (.slice f n 0) H'):CA en F.JP [P c.g,I a] H R:=by
 have⟨sa,nv,cv,b_,hs⟩:=h.ex;exact arQ (Sep.k_ hs) hl λaQ X' mb f n e g_=>hR aQ X' mb f n e ⟨sa,nv,cv,b_,Sep.pick g_ 5 [1,2,3,0,4]⟩
theorem aky {i:Int}(h:Rk H PL r c q X L)
  (hR:∀H' b,Rk H' PL r c q (X.to (X.G.S.acc c.h (wr (i+1)) true (ic 1)).2) L->R (.bool b) H'):CA en F.QV [P c.m,I c.h,I i] H R:=by
 have⟨sa,nv,cv,b_,hs⟩:=h.ex;apply aBA;exact afH (Sep.k_ hs) λH' h'=>⟨_,_,rfl,hR H' _ ⟨sa,nv,cv,b_,Sep.pick h' 5 [1,2,3,0,4]⟩⟩
end
section
variable {H H':aa} {R K:Value->aa->Prop} {L M PL aT:List ax} {r:Nat} {c:Lc} {q:Qr} {X X':Gx}
def Go (R:Value->aa->Prop)(PL:List ax)(r:Nat)(c:Lc)(L:List ax)(p:Bs->Qr×Gr):Prop:=
 ∀H' aT X' b,(∀A∈PL,A∈aT)->X'.G=(p b).2->Rk H' aT r c (p b).1 X' L->R undef H'
theorem aln {t:Tk}{S:Sm}:(t.step c S).2.1.b=t.b:=by
 unfold Tk.step;split
 ·simp only;split<;>rfl
 ·split
  ·split<;>rfl
  ·rfl
theorem alo {t:Tk}(h:Sep H (qK c t::aR c.g c.m X::M))
  (hR:∀H',Sep H' (qK c (t.step c X.G.S).2.1::aR c.g c.m (X.to (t.step c X.G.S).2.2)::M)->R (.bool (t.step c X.G.S).1) H'):CA en F.Xp [P t.b] H R:=by
 have⟨tb,tt,ph,ti⟩:=t;apply aBC;rcases ph with _|_|n
 ·refine af ⟨_,Sep.aG h rfl,eQ ⟨dG.1 (by kernel_rfl),?_⟩⟩;show CA en F.QW [P tb] H _;apply aBD;have hB:=h.ae 18;refine af ⟨_,Sep.aG hB rfl,af ⟨_,Sep.aG hB rfl,af ⟨_,Sep.aG hB rfl,?_⟩⟩⟩;refine afH (Sep.iE hB) λH' h'=>⟨_,_,rfl,⟨aI (λe=>af (Sep.lK h' (aS rfl) λH2 h2=>af (Sep.lK h2 (aS rfl) λH3 h3=>⟨_,rfl,?_⟩))) λe=>⟨_,rfl,?_⟩,trivial⟩⟩
  ·have:=hR H3
   unfold Tk.step at this;rw [ar rfl] at this;simp only at this;rw [ar e] at this;exact this (Sep.iE h3)
  ·have:=hR H'
   unfold Tk.step at this;rw [ar rfl] at this;simp only at this;rw [an (by rw [e];exact jY)] at this;exact this (Sep.iE h')
 ·refine af ⟨_,Sep.aG h rfl,eQ ⟨dG.1 (by kernel_rfl),?_⟩⟩;show CA en F.QY [P tb] H _;apply aBF;have hB:=h.ae 19;refine af ⟨_,Sep.aG hB rfl,af ⟨_,Sep.aG hB rfl,af ⟨_,Sep.aG hB rfl,?_⟩⟩⟩;have e01:IntKind.i64.wrap (ti+1)=wr (ti+1):=rfl;rw [e01];have no:∀H',¬((X.G.S.acc c.h (wr (ti+1)) true id).1.2=true/\(X.G.S.acc c.h (wr (ti+1)) true id).1.1=tt)->Sep H' (aR c.g c.m (X.to (X.G.S.acc c.h (wr (ti+1)) true id).2)::qK c ⟨tb,tt,1,ti⟩::M)->R (.bool false) H':=λH' e h'=>by
   have:=hR H'
   unfold Tk.step at this;rw [an (by simp),ar rfl,an e] at this;exact this (Sep.iE h')
  refine Gt (Sep.iE hB) λH' h'=>⟨_,_,rfl,⟨aI (λe=>⟨_,rfl,no H' (λh=>?_) h'⟩) λe=>af ⟨_,Sep.bn h' rfl,?_⟩,trivial⟩⟩
  ·have e:(X.G.S.acc c.h (wr (ti+1)) true id).1.2=false:=by simpa using e
   rw [e] at h;cases h.1
  ·have e:(X.G.S.acc c.h (wr (ti+1)) true id).1.2=true:=by simpa using e
   rw [Ud];refine aI (λd=>⟨_,rfl,no H' (λh=>?_) h'⟩) λd=>af (Sep.lK h' (aS rfl) λH3 h3=>⟨_,rfl,?_⟩)
   ·rw [h.2] at d;simp at d
   ·have d:(X.G.S.acc c.h (wr (ti+1)) true id).1.1=tt:=by simpa using d
    have:=hR H3
    unfold Tk.step at this;rw [an (by simp),ar rfl,ar ⟨e,d⟩] at this;exact this (Sep.iE h3)
 ·refine af ⟨_,Sep.aG h rfl,eQ ⟨dG.1 (by kernel_rfl),?_⟩⟩;show CA en F.QX [P tb] H _;refine aBE _ _ _ ⟨_,rfl,?_⟩
  have:=hR H
  unfold Tk.step at this;rw [an (by simp),an (by simp)] at this;exact this h
theorem afO {i:Int}(h:Sep H M)(hR:∀H' b,Sep H' (qK c ⟨b,0,0,i⟩::M)->R (P b) H'):CA en F.Xo [P c.m,I c.h,I i] H R:=by
 apply aBB;exact Sep.nw h λb H2 h2=>Sep.dp h2 (aS rfl) λH3 h3=>hR H3 b h3
theorem akB {room:Int}{k:Th}{v:Value}(h:Rk H PL r c q X L)(hk:vK PL r q.ky k v)
  (hR:∀H' aT b,(∀A∈PL,A∈aT)->Rk H' aT r c (q.enter room k b) X L->R undef H'):CA en F.yJ [P r,I room,v] H R:=by
 have⟨sa,nv,cv,b_,hs⟩:=h.ex;obtain ⟨f,l,cs,rfl⟩:=hk.fn;apply alM;refine Sep.nw hs λi1 H2 h2=>Sep.nw h2 λi3 H4 h4=>?_
 have hp:=h4.yA (n:=23) (a:=21) (.cells true 0 [.pointer none]) (by decide);generalize H4.next+21=tb at hp⊢;refine ⟨_,Sep.eK hp rfl,af ⟨_,Sep.iV hp rfl,af ⟨_,Sep.iL hp rfl,_,Sep.eK hp rfl,af ⟨_,Sep.iV hp rfl,af ⟨_,Sep.iL hp rfl,_,Sep.eK hp rfl,af ⟨_,Sep.iV hp rfl,?_⟩⟩⟩⟩⟩⟩;refine QU ⟨_,rfl,afO hp λgC b iJ=>⟨_,rfl,Sep.lK iJ (aS rfl) λgv pJ=>?_⟩⟩;refine ⟨⟨_,Sep.iV pJ rfl,af (Sep.y_ pJ (aS rfl) λgg j_=>⟨_,Sep.iV j_ rfl,af (Sep.y_ j_ (aS rfl) λaZ rl=>?_)⟩)⟩,
  ⟨⟨_,Sep.gL hp,rfl⟩,⟨_,Sep.gL hp,rfl⟩,⟨_,Sep.yB iJ,rfl⟩,trivial⟩,⟨⟨_,Sep.iL hp rfl,rfl⟩,⟨_,Sep.iL hp rfl,rfl⟩,trivial⟩,⟨⟨_,Sep.iV hp rfl,rfl⟩,⟨_,Sep.iV hp rfl,rfl⟩,trivial⟩,⟨⟨_,Sep.eK hp rfl,rfl⟩,⟨_,Sep.eK hp rfl,rfl⟩,trivial⟩,
  ⟨⟨_,Sep.iL hp rfl,rfl⟩,⟨_,Sep.iL hp rfl,rfl⟩,trivial⟩,⟨⟨_,Sep.iV hp rfl,rfl⟩,⟨_,Sep.iV hp rfl,rfl⟩,trivial⟩,⟨⟨_,Sep.eK hp rfl,rfl⟩,⟨_,Sep.eK hp rfl,rfl⟩,trivial⟩,trivial⟩
 have hq:=oW (A:=PL) (λ_ h=>h) [b1 tb (P b),b1 i3 (.func (.func f) ⟨l⟩ ⟨cs⟩),b1 i1 (P r)];refine hR aZ ([b1 tb (P b),b1 i3 (.func (.func f) ⟨l⟩ ⟨cs⟩),b1 i1 (P r)]++PL) b hq ⟨sa,_,cv.mono hq,.enter (gt:=tb) (g2:=i3) (g:=i1) (.head _) (.tail _ (.head _)) (hk.mono hq) (.tail _ (.tail _ (.head _))),?_⟩;have kA:=Rj [_,_,_] (Sep.pick rl 9 [1,2,3,5,4,6,7,0]);have ij:Sep aZ (qK c ⟨b,0,0,lk room⟩::many _::_::_::_::L):=Sep.pick kA 5 [4,0,1,2,3];have tK:=(Sep.fX (L:=[qK c ⟨b,0,0,lk room⟩])).2 ij;exact Sep.pick tK 5 [2,1,3,4,0]
theorem akW {k:Wd}{bh:Bool}{cb:Cb}{v:Value}(h:Rk H PL r c q X L)(hk:yb PL r q.ky cb v)
  (hR:∀H' aT,(∀A∈PL,A∈aT)->Rk H' aT r c ({q with ah:=c.h,ai:=hd q.room}.to (.load k bh cb)) X L->R undef H'):CA en F.PI [P r,W k,.bool bh,v] H R:=by
 have⟨sa,nv,cv,b_,hs⟩:=h.ex;obtain ⟨f,l,cs,rfl⟩:=hk.fn;apply aBa;refine Sep.nw hs λi1 H2 h2=>Sep.nw h2 λi3 H4 h4=>Sep.nw h4 λi5 H6 h6=>Sep.nw h6 λi7 H8 h8=>?_
 have hp:=oW (A:=PL) (λ_ h=>h) [b1 i7 (.func (.func f) ⟨l⟩ ⟨cs⟩),b1 i5 (.bool bh),b1 i3 (W k),b1 i1 (P r)];have o8:=(Rk.ins [_,_,_,_] cv b_ h8).ae 13;have m1:b1 i1 (P r)∈[b1 i7 (.func (.func f) ⟨l⟩ ⟨cs⟩),b1 i5 (.bool bh),b1 i3 (W k),b1 i1 (P r)]++PL:=by simp
 refine ⟨_,o8.box m1,_,o8.box m1,af ⟨_,o8.br 0 (λ_ _=>rfl),_,o8.box m1,af ⟨_,o8.br 14 (λ_ _=>rfl),?_⟩⟩⟩;refine asQ o8 λbf xM=>⟨_,_,rfl,af (vt (q':={q with ah:=c.h,ai:=hd q.room}) xM (aS rfl) rfl rfl rfl (λ_ _=>rfl) λbM xN=>⟨?_,⟨⟨_,o8.box m1,rfl⟩,⟨_,xM.box m1,rfl⟩,trivial⟩,trivial⟩)⟩
 have⟨Mj,nv',WR,WG,kf⟩:=xN.ex;refine Sep.nw kf λi27 bN tL=>Sep.nw tL λi29 gI nV=>Sep.dp nV (aS rfl) λft zW=>Sep.lK zW (aS rfl) λbU pK=>?_
 have LY:=Rk.ins (q:={q with ah:=c.h,ai:=hd q.room}) [b1 i29 (I6 i1 i3 i5 i7 i27),b1 i27 (KZ i1 i29 i7)] WR WG pK;have hq:=oW (A:=[b1 i7 (.func (.func f) ⟨l⟩ ⟨cs⟩),b1 i5 (.bool bh),b1 i3 (W k),b1 i1 (P r)]++PL) (λ_ h=>h) [b1 i29 (I6 i1 i3 i5 i7 i27),b1 i27 (KZ i1 i29 i7)];have Qs:Sk ([b1 i29 (I6 i1 i3 i5 i7 i27),b1 i27 (KZ i1 i29 i7)]++([b1 i7 (.func (.func f) ⟨l⟩ ⟨cs⟩),b1 i5 (.bool bh),b1 i3 (W k),b1 i1 (P r)]++PL)) r q.ky k bh cb i1 i3 i5 i7 i27 i29:=
  ⟨by simp,by simp,by simp,⟨_,by simp,hk.mono (zd hp hq)⟩,by simp,by simp⟩
 refine ⟨_,LY.box (hq _ m1),_,LY.box Qs.ld,af (apo (jO LY (.load Qs) rfl λi_ XM=>?_))⟩;exact hR i_ _ (zd hp hq) XM
theorem afr {there:Bool}(h:Rk H PL r c q X L)(hR:∀H',Rk H' PL r c (q.found there) X L->R undef H'):CA en F.PA [P r,.bool there] H R:=by
 have k3:q.kd=2->there=true->q.fl=1->CA en F.mK [P r,I 3] H λv7 H8=>v7=undef/\R undef H8:=λe1 e2 e3=>Md h λH' o=>⟨rfl,hR H' (by unfold Qr.found;rw [ar ⟨e1,e2,e3⟩];exact o)⟩
 have kC:q.kd=2->there=true->q.fl≠1->aq H r (0+7) [.func (.func F.Ek) #[P r] #[]] λH'=>R undef H':=λe1 e2 e3=>jO h .set rfl λH' o=>hR H' (by unfold Qr.found;rw [an (λh=>e3 h.2.2),ar ⟨e1,e2⟩];exact o)
 have auY:q.kd=2->there=false->q.fl≠2->aq H r (0+7) [.func (.func F.xi) #[P r] #[]] λH'=>R undef H':=λe1 e2 e3=>jO h .space rfl λH' o=>hR H' (by unfold Qr.found;rw [an (λh=>by rw [e2] at h;cases h.2.1),an (λh=>by rw [e2] at h;cases h.2),ar ⟨e1,e3⟩];exact o)
 have k2:there=false->(q.kd=2->q.fl=2)->CA en F.mK [P r,I 2] H λv7 H8=>v7=undef/\R undef H8:=λe1 e2=>Md h λH' o=>⟨rfl,hR H' (by unfold Qr.found;rw [an (λh=>by rw [e1] at h;cases h.2.1),an (λh=>by rw [e1] at h;cases h.2),an (λh=>h.2 (e2 h.1)),ar e1];exact o)⟩
 have auT:there=true->q.kd=1->aq H r (0+7) [.func (.func F.ru) #[P r] #[]] λH'=>R undef H':=λe1 e2=>jO h .look rfl λH' o=>hR H' (by
  unfold Qr.found;rw [an (λh=>by rw [e2] at h;exact absurd h.1 (by decide)),an (λh=>by rw [e2] at h;exact absurd h.1 (by decide)),an (λh=>by rw [e2] at h;exact absurd h.1 (by decide)),an (by rw [e1];decide),ar e2];exact o)
 have auM:there=true->q.kd=3->aq H r (0+7) [.func (.func F.rq) #[P r] #[]] λH'=>R undef H':=λe1 e2=>jO h .drop rfl λH' o=>hR H' (by
  unfold Qr.found;rw [an (λh=>by rw [e2] at h;exact absurd h.1 (by decide)),an (λh=>by rw [e2] at h;exact absurd h.1 (by decide)),an (λh=>by rw [e2] at h;exact absurd h.1 (by decide)),an (by rw [e1];decide),an (by rw [e2];decide),ar e2];exact o)
 have auZ:there=true->q.kd≠1->q.kd≠2->q.kd≠3->aq H r (0+7) [.func (.func F.ry) #[P r] #[]] λH'=>R undef H':=λe1 e2 e3 e4=>jO h .take rfl λH' o=>hR H' (by
  unfold Qr.found;rw [an (λh=>e3 h.1),an (λh=>e3 h.1),an (λh=>e3 h.1),an (by rw [e1];decide),an e2,an e4];exact o)
 have lk:H.cell r (0+1)=some (I q.kd):=h.br 1 (λ_ _=>rfl);have lf:H.cell r (0+1+3)=some (I q.fl):=h.br 4 (λ_ _=>rfl);clear h hR;have t2:∀b:Bool,(q.kd==2)=b->(b=true↔q.kd=2):=λb e=>by rw [<-e];simp
 apply aAW;refine af ⟨_,lk,?_⟩;cases there with
 |true=>
  refine aI (λe=>?_) λe=>?_
  ·have e:q.kd=2:=by simpa using e
   refine cm rfl (af ⟨_,lf,aI (λe2=>k3 e rfl (by simpa using e2)) λe2=>af ⟨_,lk,cm (by simpa using e) (cm rfl (af (kC e rfl (by simpa using e2))))⟩⟩)
  ·have e:q.kd≠2:=by simpa using e
   refine af ⟨_,lk,bl (by simpa using e) (af ⟨_,lk,bl (by simpa using e) (bl rfl (af ⟨_,lk,aI (λe1=>af (auT rfl (by simpa using e1))) λe1=>af ⟨_,lk,aI (λe3=>af (auM rfl (by simpa using e3))) λe3=>af (auZ rfl (by simpa using e1) e (by simpa using e3))⟩⟩))⟩)⟩
 |false=>
  refine aI (λe=>?_) λe=>?_
  ·have e:q.kd=2:=by simpa using e
   refine bl rfl (af ⟨_,lk,cm (by simpa using e) (bl rfl (af ⟨_,lk,cm (by simpa using e) (af ⟨_,lf,aI (λe2=>af (auY e rfl (by simpa using e2))) λe2=>cm rfl (k2 rfl λ_=>by simpa using e2)⟩)⟩))⟩)
  ·have e:q.kd≠2:=by simpa using e
   refine af ⟨_,lk,bl (by simpa using e) (af ⟨_,lk,bl (by simpa using e) (cm rfl (k2 rfl λh=>(e h).elim))⟩)⟩
theorem aep {cb:Cb}{v:Value}{there:Bool}(hc:yb PL r q.ky cb v)(h:Rk H PL r c q X L)
  (hR:∀H',Rk H' PL r c (q.cb cb there) X L->K undef H') :
  AS.kQ v λf l cs=>(∃fn,en.fn f=some fn)/\CA en f (l++[.bool there]++cs) H K:=by
 cases hc with
 |find hg h2=>
  refine eQ ⟨dG.1 (by kernel_rfl),?_⟩;show CA en F.Pv [.bool there,_,_] H K;apply aAG;have hb:=h.ae 12;refine af ⟨_,hb.box hg,?_⟩;cases there with
  |true=>
   have⟨kd,sl,fl,bW,h2⟩:=h2;have⟨sa,nv,cv,b_,hs⟩:=hb.ex;refine cm rfl (af ⟨_,hb.box hg,af ⟨_,hb.br 19 (λ_ _=>rfl),af ⟨_,dI (k:=1) hs rfl h2 rfl,?_⟩⟩⟩);rw [bv_beq];refine afr hb λH' o=>⟨rfl,⟨hR H' ?_,trivial⟩⟩
   have e:(true&&decide (q.key=q.ky))=(q.key==q.ky):=by simp [Bool.beq_eq_decide_eq]
   show Rk H' PL r c (q.found (true&&decide (q.key=q.ky))) X L;rw [e];exact o
  |false=>exact bl rfl (afr hb λH' o=>⟨rfl,⟨hR H' o,trivial⟩⟩)
 |next hg h3=>
  refine eQ ⟨dG.1 (by kernel_rfl),?_⟩;show CA en F.PF [.bool there,_,_] H K;apply aA7;cases there with
  |true=>exact bl rfl (af ⟨_,h.box hg,af (jO h (.kZ hg) rfl λH' o=>hR H' o)⟩)
  |false=>exact cm rfl (af ⟨_,h.box hg,af (jO h (.free hg h3) rfl λH' o=>hR H' o)⟩)
end
section
variable {H H':aa} {R K:Value->aa->Prop} {L M PL aT:List ax} {r:Nat} {c:Lc} {q:Qr} {X X':Gx}
theorem ajK {k:Wd}{bh:Bool}{cb:Cb}{i1 i3 i5 i7 i27 i29:Nat}(hk:Sk PL r q.ky k bh cb i1 i3 i5 i7 i27 i29)(h:Rk H PL r c q X L)(hR:Go R PL r c L λb=>cd c (.load k bh cb) q X.G b) :
  CA en F.PK [P i1,P i29,P i7] H R:=by
 apply aBc;have hb:=h.ae 23;refine af ⟨_,hb.box hk.run,af ⟨_,hb.br 0 (λ_ _=>rfl),af ⟨_,hb.xf 0 rfl,af ⟨_,hb.box hk.run,af ⟨_,hb.br 15 (λ_ _=>rfl),af ⟨_,hb.box hk.run,af ⟨_,hb.br 16 (λ_ _=>rfl),?_⟩⟩⟩⟩⟩⟩⟩;refine CR hb λaZ EJ=>⟨_,_,rfl,⟨af ⟨_,EJ.box hk.run,?_⟩,trivial⟩⟩
 have hR:=λH' o=>hR H' PL (X.to (X.G.S.acc q.ah q.ai true id).2) (0,0,0) (λ_ h=>h) rfl o
 generalize hw:(X.G.S.acc q.ah q.ai true id).1.1=w at hR EJ;refine af (vt (q':={q with cur:=IntKind.i64.wrap w.toNat}) EJ (aS rfl) rfl rfl rfl (λ_ _=>rfl) λft LX=>af ⟨_,LX.box hk.run,af ⟨_,LX.box hk.ak,af (yn (jO LX (.ask hk) rfl λtv CL=>?_))⟩⟩);refine af ⟨_,CL.box hk.run,af ⟨_,CL.br 17 (λ_ _=>rfl),?_⟩⟩;have hR:∀H',Rk H' PL r c (q.di w k bh cb) (X.to (X.G.S.acc q.ah q.ai true id).2) L->R undef H':=λH' o=>hR H' (by
  show Rk H' PL r c (q.di (X.G.S.acc q.ah q.ai true id).1.1 k bh cb) _ L;rw [hw];exact o)
 unfold Qr.di at hR;refine aI (λe=>?_) λe=>?_
 ·have e:IntKind.i64.wrap w.toNat=0:=by
   have e:(IntKind.i64.wrap w.toNat==0)=true:=e;simpa using e
  rw [ar e] at hR;have⟨v,h1,h2⟩:=hk.cb;exact af ⟨_,CL.box h1,aep (q:={q with cur:=IntKind.i64.wrap w.toNat}.to (.ask k bh cb)) (there:=false) h2 CL λH' o=>⟨rfl,hR H' o⟩⟩
 ·have e:¬IntKind.i64.wrap w.toNat=0:=by
   have e:(IntKind.i64.wrap w.toNat==0)=false:=e;simpa using e
  rw [an e] at hR;exact hR tv CL
theorem avy {k:Wd}{bh:Bool}{cb:Cb}{i1 i3 i5 i7 i27 i29:Nat}(hk:Sk PL r q.ky k bh cb i1 i3 i5 i7 i27 i29)(h:Rk H PL r c q X L)(hR:Go R PL r c L λb=>cd c (.ask k bh cb) q X.G b) :
  CA en F.PJ [P i1,P i3,P i5,P i7,P i27] H R:=by
 apply aBb;have hb:=h.ae 19;refine af ⟨_,hb.box hk.run,af ⟨_,hb.box hk.run,af ⟨_,hb.br 0 (λ_ _=>rfl),af ⟨_,hb.xf 0 rfl,af ⟨_,hb.box hk.run,af ⟨_,hb.br 17 (λ_ _=>rfl),?_⟩⟩⟩⟩⟩⟩;refine CR hb λbu jM=>⟨_,_,rfl,?_⟩
 have hR:=λH' o=>hR H' PL (X.to (X.G.S.acc q.cur 1 true id).2) (0,0,0) (λ_ h=>h) rfl o
 generalize hw:(X.G.S.acc q.cur 1 true id).1.1=w at hR jM;refine af (vt (q':={q with key:=w}) jM (aS rfl) rfl rfl rfl (λ_ _=>rfl) λcR o25=>⟨?_,⟨af ⟨_,hb.box hk.run,rfl⟩,af ⟨_,jM.box hk.run,rfl⟩,trivial⟩,trivial⟩);have oB:=o25.ae 18;have⟨v,h1,h2⟩:=hk.cb;have hR:∀H',Rk H' PL r c (q.asked w k bh cb) (X.to (X.G.S.acc q.cur 1 true id).2) L->R undef H':=λH' o=>hR H' (by
  show Rk H' PL r c (q.asked (X.G.S.acc q.cur 1 true id).1.1 k bh cb) _ L;rw [hw];exact o)
 unfold Qr.asked at hR;have yes:(k.toNat<w.toNat∨w=k/\bh=false)->AS.asAddr (P i7) λi41 i42=>∃xY,(cR.ae 18).cell i41 i42=some xY/\AS.kQ xY λf44 Xj G7=>(∃fn,en.fn f44=some fn)/\CA en f44 (Xj++[(.bool true)]++G7) (cR.ae 18) λHY Bq=>HY=undef/\R undef Bq:=λe=>
  af ⟨_,oB.box h1,aep (q:={q with key:=w}) (there:=true) h2 oB λH' o=>⟨rfl,hR H' (by rw [ar e];exact o)⟩⟩
 have no:¬(k.toNat<w.toNat∨w=k/\bh=false)->∀H',Rk H' PL r c ({q with key:=w,ah:=q.cur,ai:=0}.to (.load k bh cb)) (X.to (X.G.S.acc q.cur 1 true id).2) L->R undef H':=λe H' o=>hR H' (by rw [an e];exact o)
 clear hR;refine af ⟨_,oB.box hk.run,af ⟨_,oB.br 19 (λ_ _=>rfl),af ⟨_,oB.box hk.k,?_⟩⟩⟩;refine aI (λe=>⟨yes (.inl (by have e:(w.toNat:Int)>(k.toNat:Int):=ga e;omega)),trivial⟩) λe=>?_
 have e:¬k.toNat<w.toNat:=by have e:¬(w.toNat:Int)>(k.toNat:Int):=fQ e;omega
 refine af ⟨_,oB.box hk.run,af ⟨_,oB.br 19 (λ_ _=>rfl),af ⟨_,oB.box hk.k,?_⟩⟩⟩;have oC:=oB.ae 9;refine aI (λe2=>?_) λe2=>?_
 ·have e2:w=k:=by
   have e2:(((w.toNat:Int)==(k.toNat:Int)):Bool)=true:=e2;rw [bv_beq] at e2;simpa using e2
  refine af ⟨_,oB.box hk.bh,⟨?_,trivial⟩⟩;cases bh with
  |false=>exact cm rfl (yes (.inr ⟨e2,rfl⟩))
  |true=>
   have e3:¬(k.toNat<w.toNat∨w=k/\true=false):=λh=>h.elim e λh=>by cases h.2
   refine bl rfl (af ⟨_,oC.box hk.run,af ⟨_,oC.box hk.run,af ⟨_,oC.br 17 (λ_ _=>rfl),af (vt (q':={q with key:=w,ah:=q.cur,ai:=0}) oC (aS rfl) rfl rfl rfl (λ_ _=>rfl) λmG EL=>⟨?_,trivial⟩)⟩⟩⟩);exact af ⟨_,EL.box hk.run,af ⟨_,EL.box hk.ld,af (yn (jO EL (.load hk) rfl λH' o=>no e3 H' o))⟩⟩
 ·have e2:w≠k:=by
   have e2:(((w.toNat:Int)==(k.toNat:Int)):Bool)=false:=e2;rw [bv_beq] at e2;simpa using e2
  have e3:¬(k.toNat<w.toNat∨w=k/\bh=false):=λh=>h.elim e λh=>e2 h.1
  refine ⟨af ⟨_,oC.box hk.run,af ⟨_,oC.box hk.run,af ⟨_,oC.br 17 (λ_ _=>rfl),af (vt (q':={q with key:=w,ah:=q.cur,ai:=0}) oC (aS rfl) rfl rfl rfl (λ_ _=>rfl) λmG EL=>⟨?_,trivial⟩)⟩⟩⟩,trivial⟩;exact af ⟨_,EL.box hk.run,af ⟨_,EL.box hk.ld,af (yn (jO EL (.load hk) rfl λH' o=>no e3 H' o))⟩⟩
theorem avQ {k:Th}{v:Value}(hk:vK PL r q.ky k v)(h:Rk H PL r c q X L)(hR:Go R PL r c L λb=>cd c (.th k) q X.G b) :
  AS.kQ v λf l cs=>(∃fn,en.fn f=some fn)/\CA en f (l++[]++cs) H R:=by
 have key:∀(w:Wd)(bh:Bool)(cb:Cb) g,b1 g (P r)∈PL->(k.key q=(w,bh,cb))->∀H' aT,(∀A∈PL,A∈aT)->Rk H' aT r c ({q with ah:=c.h,ai:=hd q.room}.to (.load w bh cb)) X L->
   AS.asAddr (P g) λi12 i13=>∃cI,H'.cell i12 i13=some (.pointer cI)/\AS.asAddr (.pointer cI) λi15 i16=>∃sY,H'.cell i15 (i16+7)=some sY/\AS.kQ sY λf18 Xg G6=>(∃fn,en.fn f18=some fn)/\CA en f18 (Xg++[]++G6) H' λAV gg=>AV=undef/\R undef gg:=by
  intro w bh cb g hg nY H' aT hp o;refine af ⟨_,o.box (hp _ hg),af ?_⟩;have⟨sa,nv,cv,b_,hs⟩:=o.ex;have b_:NV aT r q.ky (.load w bh cb) nv:=b_;have l7:H'.cell r (0+7)=some nv:=Sep.aG hs rfl;cases b_ with
  |load Qs=>
   refine ⟨_,l7,eQ ⟨dG.1 (by kernel_rfl),?_⟩⟩;refine ajK (q:={q with ah:=c.h,ai:=hd q.room}.to (.load w bh cb)) (R:=λv H=>v=undef/\R undef H) Qs o λH2 NR X2 b sE e o2=>⟨rfl,hR H2 NR X2 b (zd hp sE) ?_ ?_⟩
   ·show X2.G=_;rw [e];show _=X.G.mem (vS c k q X.G.S).2;unfold vS;rw [nY];rfl
   ·show Rk H2 NR r c (vS c k q X.G.S).1 X2 L;unfold vS;rw [nY];exact o2
 cases hk with
 |op hg h2=>
  refine eQ ⟨dG.1 (by kernel_rfl),?_⟩;show CA en F.GB [_,_] H _;apply aAF;have BT:=h2;have⟨kd,sl,fl,bW,h2⟩:=h2;have⟨sa,nv,cv,b_,hs⟩:=h.ex;refine af ⟨_,h.box hg,af ⟨_,dI (k:=1) hs rfl h2 rfl,?_⟩⟩;refine akW h (.find hg BT) λH8 aT hp o8=>⟨rfl,?_⟩
  exact key q.ky false .find _ hg rfl H8 aT hp o8
 |search hg h1 h2 h3=>
  refine eQ ⟨dG.1 (by kernel_rfl),?_⟩;show CA en F.GC [_,_,_,_] H _;apply aA6;refine af ⟨_,h.box hg,af ⟨_,h.box h1,af ⟨_,h.box h2,?_⟩⟩⟩;refine akW h (.next hg h3) λH8 aT hp o8=>⟨rfl,?_⟩
  exact key _ _ (.next _) _ hg rfl H8 aT hp o8
theorem avC {gt g2 g:Nat}{t:Tk}{k:Th}{v:Value}(hx:q.nx=.enter t k)(h1:b1 gt (P t.b)∈PL)(h2:b1 g2 v∈PL)(hk:vK PL r q.ky k v)(h3:b1 g (P r)∈PL)(h:Rk H PL r c q X L)
  (hR:Go R PL r c L λb=>cd c (.enter t k) q X.G b):CA en F.uV [P gt,P g2,P g] H R:=by
 apply alN;have hb:=h.box h1;have⟨sa,nv,cv,b_,hs⟩:=h.ex;rw [hx] at hs b_;have hs:Sep H (rA r c q sa nv::many PL::xA c::aR c.g c.m X::many [qK c t]::L):=hs;have h4:Sep H (qK c t::aR c.g c.m X::rA r c q sa nv::many PL::xA c::L):=Sep.many1.1 (Sep.pick hs 5 [4,3,0,1,2]);refine af ⟨_,hb,alo h4 λH5 h5=>⟨_,rfl,?_⟩⟩;cases b_ with
 |@enter gt' O9 g' _ _ v' n1 n2 n3 n4=>
 have o5:Rk H5 PL r c (q.to (.enter (t.step c X.G.S).2.1 k)) (X.to (t.step c X.G.S).2.2) L:=by
  refine ⟨sa,.func (.func F.uV) #[] #[P gt',P O9,P g'],cv,.enter (by rw [aln];exact n1) n2 n3 n4,?_⟩;have h6:Sep H5 (many [qK c (t.step c X.G.S).2.1]::aR c.g c.m (X.to (t.step c X.G.S).2.2)::rA r c q sa (.func (.func F.uV) #[] #[P gt',P O9,P g'])::many PL::xA c::L):=Sep.many1.2 h5;exact Sep.pick h6 5 [2,3,4,1,0]
 have hR:∀H',Rk H' PL r c (q.to (if (t.step c X.G.S).1 then .th k else .enter (t.step c X.G.S).2.1 k)) (X.to (t.step c X.G.S).2.2) L->R undef H':=λH' o=>hR H' PL (X.to (t.step c X.G.S).2.2) (0,0,0) (λ_ h=>h) rfl o
 refine aI (λe=>?_) λe=>?_
 ·obtain ⟨f,l,cs,rfl⟩:=hk.fn;exact af ⟨_,o5.box h3,af ⟨_,o5.box h2,af (yn (jO o5 (.th hk) rfl λcz o15=>hR cz (by rw [ar e];exact o15)))⟩⟩
 ·exact hR H5 (by rw [an (by rw [e];exact jY)];exact o5)
theorem avK (h:Rk H PL r c q X L)(hR:Go R PL r c L λb=>cd c .set q X.G b):CA en F.Ek [P r] H R:=by
 apply aBd;have hb:=h.ae 16;refine af ⟨_,hb.br 0 (λ_ _=>rfl),af ⟨_,hb.xf 0 rfl,af ⟨_,hb.br 17 (λ_ _=>rfl),af ⟨_,hb.br 6 (λ_ _=>rfl),?_⟩⟩⟩⟩;refine Yp hb λbt Hm=>⟨_,rfl,⟨Yg (rv:=[]) (rk:=0) (sa:=none) Hm (.inl ⟨rfl,rfl⟩) λaQ Hn=>⟨rfl,?_⟩,trivial⟩⟩
 exact hR aQ PL _ (0,0,0) (λ_ h=>h) rfl Hn
theorem aiE {w:Wd}(h:Rk H PL r c q X L)
  (hR:∀H' aT i,(∀A∈PL,A∈aT)->bx i (.cells true 1 [W w])∈aT->Rk H' aT r c q X L->R (.agg #[I 0,.slice (some ⟨i,0,none⟩) 1 0,.int .u64 0,I (q.elem c w)]) H'):CA en F.Pw [P c.x,W w,I q.cur] H R:=by
 have⟨sa,nv,cv,b_,hs⟩:=h.ex;apply aAK;refine Sep.nw hs λi1 H2 h2=>af ⟨_,Sep.iV h2 rfl,?_⟩
 refine aI (λe=>?_) λe=>?_
 ·have e:c.d0=10:=by simpa using e
  refine Sep.nw h2 λi6 H7 h7=>Sep.lK h7 (aS rfl) λH8 h8=>⟨_,_,_,_,_,Sep.wu h8 rfl,?_⟩
  have o8:=Rk.ins [bx i6 (.cells true 1 [W w])] cv b_ (Sep.AL h8);have e2:q.elem c w=IntKind.i64.wrap w.toNat:=ar e;rw [<-e2];exact hR H8 _ i6 (oW (λ_ h=>h) _) (.head _) o8
 ·have e:c.d0≠10:=by simpa using e
  refine Sep.nw h2 λi6 H7 h7=>Sep.lK h7 (aS rfl) λH8 h8=>⟨_,_,_,_,_,Sep.wu h8 rfl,?_⟩
  have o8:=Rk.ins [bx i6 (.cells true 1 [W w])] cv b_ (Sep.AL h8);have e2:q.elem c w=q.cur:=an e;have hR:=hR H8 _ i6 (oW (λ_ h=>h) _) (.head _) o8;rw [e2] at hR;exact hR
theorem avH (h:Rk H PL r c q X L)(hR:Go R PL r c L λb=>cd c .look q X.G b):CA en F.ru [P r] H R:=by
 apply aAZ;have hb:=h.ae 17;refine af ⟨_,hb.br 0 (λ_ _=>rfl),af ⟨_,hb.xf 0 rfl,af ⟨_,hb.br 17 (λ_ _=>rfl),?_⟩⟩⟩;refine CR hb λcj Q5=>⟨_,_,rfl,⟨?_,trivial⟩⟩
 have oB:=Q5.ae 12;refine af ⟨_,oB.br 0 (λ_ _=>rfl),af ⟨_,oB.br 17 (λ_ _=>rfl),?_⟩⟩;refine aiE oB λjZ aT i hp hi o21=>⟨_,_,_,_,_,rfl,?_⟩
 refine Yg (rv:=[(X.G.S.acc q.cur 2 true id).1.1]) (rk:=0) (sa:=some ⟨i,0,none⟩) o21 (.inr ⟨i,_,rfl,rfl,hi⟩) λbN XJ=>⟨rfl,⟨?_,trivial⟩⟩
 exact hR bN aT _ (0,0,0) hp rfl XJ
theorem ajJ {g g2:Nat}{f:Fb}{v:Value}(h1:b1 g (P r)∈PL)(h2:b1 g2 v∈PL)(hf:FV PL r f v)(h:Rk H PL r c q X L)(hR:Go R PL r c L λb=>cd c (.change f) q X.G b):CA en F.J1 [P g,P g2] H R:=by
 apply aAS;have hb:=h.ae 15;refine af ⟨_,hb.box h1,af ⟨_,hb.br 0 (λ_ _=>rfl),af ⟨_,hb.xf 0 rfl,af ⟨_,hb.box h1,af ⟨_,hb.br 0 (λ_ _=>rfl),af ⟨_,hb.xf 7 rfl,?_⟩⟩⟩⟩⟩⟩;obtain ⟨ff,l,cs,rfl⟩:=hf.fn;refine RB (mask:=Ht) (v:=1) hb λbu jM=>⟨_,_,rfl,⟨?_,trivial⟩⟩
 exact af ⟨_,jM.box h1,af ⟨_,jM.box h2,af (yn (jO jM (.after hf) rfl λft LX=>hR ft PL _ (0,0,0) (λ_ h=>h) rfl LX))⟩⟩
theorem avx (h:Rk H PL r c q X L)(hR:Go R PL r c L λb=>cd c (.after .add) q X.G b):CA en F.z9 [P r] H R:=by
 have⟨sa,nv,cv,b_,hs⟩:=h.ex;apply aAO;refine Sep.nw hs λi1 H2 h2=>?_
 have hb:=(Rk.ins [b1 i1 (P r)] cv b_ h2).ae 29;have hp:=oW (A:=PL) (λ_ h=>h) [b1 i1 (P r)];have m1:b1 i1 (P r)∈[b1 i1 (P r)]++PL:=.head _;refine ⟨_,hb.box m1,af ⟨_,hb.br 0 (λ_ _=>rfl),af ⟨_,hb.xf 0 rfl,_,hb.box m1,af ⟨_,hb.br 0 (λ_ _=>rfl),af ⟨_,hb.xf 7 rfl,_,hb.box m1,af ⟨_,hb.br 20 (λ_ _=>rfl),_,hb.box m1,af ⟨_,hb.br 20 (λ_ _=>rfl),?_⟩⟩⟩⟩⟩⟩⟩;have ew:IntKind.u64.wrap ((q.bg.toNat:Int)+1)=((q.bg+1).toNat:Int):=by
  rw [wrap_u64,ofInt_add,rI];rfl
 rw [ew];refine awJ (mask:=bD) hb λeC vj=>⟨_,_,rfl,⟨?_,trivial⟩⟩
 refine ⟨_,vj.box m1,af ⟨_,vj.br 20 (λ_ _=>rfl),?_⟩⟩;have hR:∀H',Rk H' ([b1 i1 (P r)]++PL) r c (kR c .add q X.G.S).1 (X.to (kR c .add q X.G.S).2) L->R undef H':=λH' o=>hR H' _ _ (0,0,0) hp rfl o
 unfold kR at hR;simp only at hR;generalize (X.G.S.acc c.h 0 true (jd bD q.bg (q.bg+1))).1.1=w at hR vj;have e0:IntKind.u64.wrap ((BitVec.ofInt 64 (w.toNat:Int)&&&BitVec.ofInt 64 4294967295).toNat:Int)=((w&&&bD).toNat:Int):=by rw [M4,rI];rfl
 rw [e0,Ud];refine aI (λe=>?_) λe=>?_
 ·have e:¬w&&&bD=q.bg:=by simpa using e
  rw [an e] at hR;exact ⟨_,vj.box m1,_,vj.box m1,af (jO vj .space rfl λi_ XM=>hR i_ XM)⟩
 ·have e:w&&&bD=q.bg:=by simpa using e
  rw [ar e] at hR;exact ⟨_,vj.box m1,HI (rv:=[]) (rk:=0) (sa:=none) vj (.inl ⟨rfl,rfl⟩) λtv CL=>⟨rfl,_,CL.box m1,af (jO CL (.link m1) rfl λgV Ho=>hR gV Ho)⟩⟩
theorem alv {a:Aw}{v:Value}(h:Rk H PL r c q X L)(ha:pg PL r a v)
  (hR:∀H' aT,(∀A∈PL,A∈aT)->Rk H' aT r c (q.to (.gp a)) X L->R undef H'):CA en F.PR [P r,v] H R:=by
 have⟨sa,nv,cv,b_,hs⟩:=h.ex;obtain ⟨f,l,cs,rfl⟩:=ha.fn;apply aBm;refine Sep.nw hs λi1 H2 h2=>Sep.nw h2 λi3 H4 h4=>?_
 have o4:=Rk.ins [b1 i3 (.func (.func f) ⟨l⟩ ⟨cs⟩),b1 i1 (P r)] cv b_ h4;have hp:=oW (A:=PL) (λ_ h=>h) [b1 i3 (.func (.func f) ⟨l⟩ ⟨cs⟩),b1 i1 (P r)];exact ⟨_,o4.box (.tail _ (.head _)),af (jO o4 (.gp (.tail _ (.head _)) (.head _) (ha.mono hp)) rfl λH8 o8=>hR H8 _ hp o8)⟩
theorem avB {g:Nat}(h1:b1 g (P r)∈PL)(h:Rk H PL r c q X L)(hR:Go R PL r c L λb=>cd c (.after .drop) q X.G b):CA en F.Ej [P g] H R:=by
 apply aAU;have hb:=h.ae 15;refine af ⟨_,hb.box h1,af ⟨_,hb.br 0 (λ_ _=>rfl),af ⟨_,hb.xf 0 rfl,af ⟨_,hb.box h1,af ⟨_,hb.br 0 (λ_ _=>rfl),af ⟨_,hb.xf 7 rfl,?_⟩⟩⟩⟩⟩⟩;refine RB (mask:=bD) (v:=bD) hb λbu jM=>⟨_,_,rfl,⟨af ⟨_,jM.box h1,?_⟩,trivial⟩⟩
 refine HI (rv:=[]) (rk:=0) (sa:=none) jM (.inl ⟨rfl,rfl⟩) λfw EK=>⟨rfl,af ⟨_,EK.box h1,af ⟨_,EK.box h1,?_⟩⟩⟩
 exact alv EK .gZ λjk aT hp LZ=>⟨rfl,hR jk aT _ (0,0,0) hp rfl LZ⟩
theorem avP {g g2:Nat}{a:Aw}{va:Value}(h1:b1 g (P r)∈PL)(h2:b1 g2 va∈PL)(ha:pg PL r a va)(h:Rk H PL r c q X L)(hR:Go R PL r c L λb=>cd c (.after (.take a)) q X.G b):CA en F.Em [P g,P g2] H R:=by
 apply aBk;have hb:=h.ae 17;refine af ⟨_,hb.box h1,af ⟨_,hb.br 0 (λ_ _=>rfl),af ⟨_,hb.xf 0 rfl,af ⟨_,hb.box h1,af ⟨_,hb.br 17 (λ_ _=>rfl),?_⟩⟩⟩⟩⟩;refine CR hb λaQ Hn=>⟨_,_,rfl,⟨af ⟨_,Hn.box h1,?_⟩,trivial⟩⟩
 have⟨sa,nv,cv,b_,hs⟩:=Hn.ex;refine Sep.nw hs λi23 bM kA=>?_
 have xN:=Rk.ins [bx i23 (.cells true 1 [W (X.G.S.acc q.cur 2 true id).1.1])] cv b_ kA;have hp:=oW (A:=PL) (λ_ h=>h) [bx i23 (.cells true 1 [W (X.G.S.acc q.cur 2 true id).1.1])];refine HI (rv:=[(X.G.S.acc q.cur 2 true id).1.1]) (rk:=0) (sa:=some ⟨i23,0,none⟩) xN (.inr ⟨i23,_,rfl,rfl,.head _⟩) λeC vj=>⟨rfl,af ⟨_,vj.box (hp _ h1),af ?_⟩⟩
 exact jO vj (.off (hp _ h1) (hp _ h2) (ha.mono hp)) rfl λbU LY=>hR bU _ _ (0,0,0) hp rfl LY
end
section
variable {H H':aa} {R K:Value->aa->Prop} {L M PL aT:List ax} {r:Nat} {c:Lc} {q:Qr} {X X':Gx}
theorem avJ {g g2:Nat}{a:Aw}{va:Value}(h1:b1 g (P r)∈PL)(h2:b1 g2 va∈PL)(ha:pg PL r a va)(h:Rk H PL r c q X L)(hR:Go R PL r c L λb=>cd c (.off a) q X.G b):CA en F.PQ [P g,P g2] H R:=by
 apply aBl;have hb:=h.ae 15;refine af ⟨_,hb.box h1,af ⟨_,hb.br 0 (λ_ _=>rfl),af ⟨_,hb.xf 0 rfl,af ⟨_,hb.box h1,af ⟨_,hb.br 0 (λ_ _=>rfl),af ⟨_,hb.xf 7 rfl,?_⟩⟩⟩⟩⟩⟩;refine RB (mask:=Ht) (v:=zg) hb λbu jM=>⟨_,_,rfl,⟨af ⟨_,jM.box h1,af ⟨_,jM.box h2,?_⟩⟩,trivial⟩⟩
 exact alv jM ha λjk aT hp LZ=>⟨rfl,hR jk aT _ (0,0,0) hp rfl LZ⟩
theorem avR {g g2:Nat}{a:Aw}{va:Value}(h1:b1 g (P r)∈PL)(h2:b1 g2 va∈PL)(ha:pg PL r a va)(h:Rk H PL r c q X L)(hR:Go R PL r c L λb=>cd c (.gp a) q X.G b):CA en F.PS [P g,P g2] H R:=by
 have⟨sa,nv,cv,b_,hs⟩:=h.ex;apply aBn;have hf:=hs.yA (n:=18) (a:=15) (.cells true 0 [.int .u64 0]) (by decide);generalize H.next+15=vb at hf⊢;refine af ⟨_,dI (k:=2) hf rfl h1 rfl,af ⟨_,Sep.bn hf rfl,af ⟨_,Sep.iV hf rfl,af ⟨_,dI (k:=2) hf rfl h1 rfl,af ⟨_,Sep.bn hf rfl,?_⟩⟩⟩⟩⟩;refine Gt (Sep.wG hf) λaQ g_=>⟨_,_,rfl,?_⟩
 refine Sep.lK g_ (aS rfl) λbu fV=>⟨?_,⟨⟨_,Sep.gL hf,rfl⟩,⟨_,Sep.yB g_,rfl⟩,trivial⟩,trivial⟩
 have mJ:Sep bu ([b1 vb (W (X.G.S.acc q.cur 0 true id).1.1)]++rA r c q sa nv::many PL::xA c::aR c.g c.m (X.to (X.G.S.acc q.cur 0 true id).2)::many (wD c q.nx)::L):=Sep.pick fV 6 [1,2,3,4,0,5];have jM:=Rk.ins _ cv b_ mJ;have hp:=oW (A:=PL) (λ_ h=>h) [b1 vb (W (X.G.S.acc q.cur 0 true id).1.1)];exact af ⟨_,jM.box (hp _ h1),af (jO jM (.iD (hp _ h1) (.head _) (hp _ h2) (ha.mono hp)) rfl λbN XJ=>hR bN _ _ (0,0,0) hp rfl XJ)⟩
theorem apC {a:Aw}{v:Value}(ha:pg PL r a v)(h:Rk H PL r c q X L)(hR:∀H',Rk H' PL r c (q.aw a) X L->K undef H') :
  AS.kQ v λf l cs=>(∃fn,en.fn f=some fn)/\CA en f (l++[]++cs) H K:=by
 cases ha with
 |gZ=>
  refine eQ ⟨dG.1 (by kernel_rfl),?_⟩;show CA en F.BX [_] H K;exact akx h λH' o=>hR H' o
 |done hg=>
  refine eQ ⟨dG.1 (by kernel_rfl),?_⟩;show CA en F.PV [_] H K;apply aBv;exact af ⟨_,h.box hg,af (vt (q':={q with dn:=true}) h (aS rfl) rfl rfl rfl (λ_ _=>rfl) λH' o=>hR H' o)⟩
theorem avS {g g2 g3:Nat}{a:Aw}{va:Value}{v:Wd}(h1:b1 g (P r)∈PL)(h3:b1 g3 (W v)∈PL)(h2:b1 g2 va∈PL)(ha:pg PL r a va)(h:Rk H PL r c q X L)(hl:X.G.q.length<10000)(hR:Go R PL r c L λb=>cd c (.iD v a) q X.G b):CA en F.PT [P g,P g3,P g2] H R:=by
 apply aBo;have hb:=h.ae 19;refine af ⟨_,hb.box h1,af ⟨_,hb.br 0 (λ_ _=>rfl),af ⟨_,hb.xf 0 rfl,af ⟨_,hb.box h1,af ⟨_,hb.br 15 (λ_ _=>rfl),af ⟨_,hb.box h1,af ⟨_,hb.br 16 (λ_ _=>rfl),af ⟨_,hb.box h3,?_⟩⟩⟩⟩⟩⟩⟩⟩;refine Yp hb λeC vj=>⟨_,rfl,⟨?_,trivial⟩⟩
 have oB:=vj.ae 12;refine af ⟨_,oB.box h1,af ⟨_,oB.br 0 (λ_ _=>rfl),af ⟨_,oB.xf 1 rfl,af ⟨_,oB.box h1,af ⟨_,oB.br 17 (λ_ _=>rfl),?_⟩⟩⟩⟩⟩;refine awL oB hl λgV X' mb f n e Ho=>⟨_,_,rfl,⟨af ⟨_,Ho.box h2,?_⟩,trivial⟩⟩
 exact apC ha Ho λH' o=>⟨rfl,hR H' PL X' (mb,0,0) (λ_ h=>h) e o⟩
theorem akG {f:Nat}{l cs:List Value}(h:Rk H PL r c q X L)
  (hR:∀H',Rk H' PL r c q (X.to (pF c q X.G.S)) L->(∃fn,en.fn f=some fn)/\CA en f (l++[]++cs) H' λFk i_=>Fk=undef/\R undef i_):CA en F.PB [P r,.func (.func f) ⟨l⟩ ⟨cs⟩] H R:=by
 apply aAX;have hb:=h.ae 24;refine af ⟨_,hb.br 0 (λ_ _=>rfl),af ⟨_,hb.xf 0 rfl,af ⟨_,hb.br 0 (λ_ _=>rfl),af ⟨_,hb.xf 7 rfl,af ⟨_,hb.br 0 (λ_ _=>rfl),af ⟨_,hb.br 14 (λ_ _=>rfl),?_⟩⟩⟩⟩⟩⟩;refine QU ⟨_,rfl,aky hb λaZ b EJ=>⟨_,rfl,eQ (hR aZ EJ),?_⟩⟩;exact ⟨⟨⟨_,hb.xf 7 rfl,rfl⟩,⟨_,hb.xf 7 rfl,rfl⟩,trivial⟩,⟨⟨_,hb.br 0 (λ_ _=>rfl),rfl⟩,⟨_,hb.br 0 (λ_ _=>rfl),rfl⟩,trivial⟩,⟨⟨_,hb.xf 0 rfl,rfl⟩,⟨_,hb.xf 0 rfl,rfl⟩,trivial⟩,⟨⟨_,hb.br 0 (λ_ _=>rfl),rfl⟩,⟨_,hb.br 0 (λ_ _=>rfl),rfl⟩,trivial⟩,trivial⟩
theorem avF (h:Rk H PL r c q X L)(hR:Go R PL r c L λb=>cd c .leave q X.G b):CA en F.BZ [P r] H R:=by
 apply aAY;have hb:=h.ae 24;refine af ⟨_,hb.br 0 (λ_ _=>rfl),af ⟨_,hb.xf 0 rfl,af ⟨_,hb.br 0 (λ_ _=>rfl),af ⟨_,hb.xf 7 rfl,af ⟨_,hb.br 0 (λ_ _=>rfl),af ⟨_,hb.br 14 (λ_ _=>rfl),?_⟩⟩⟩⟩⟩⟩;refine QU ⟨_,rfl,aky hb λaZ b EJ=>⟨_,rfl,af (vt (q':={q with dn:=true}) EJ (aS rfl) rfl rfl rfl (λ_ _=>rfl) λjk LZ=>hR jk PL _ (0,0,0) (λ_ h=>h) rfl LZ),?_⟩⟩;exact ⟨⟨⟨_,hb.xf 7 rfl,rfl⟩,⟨_,hb.xf 7 rfl,rfl⟩,trivial⟩,⟨⟨_,hb.br 0 (λ_ _=>rfl),rfl⟩,⟨_,hb.br 0 (λ_ _=>rfl),rfl⟩,trivial⟩,⟨⟨_,hb.xf 0 rfl,rfl⟩,⟨_,hb.xf 0 rfl,rfl⟩,trivial⟩,⟨⟨_,hb.br 0 (λ_ _=>rfl),rfl⟩,⟨_,hb.br 0 (λ_ _=>rfl),rfl⟩,trivial⟩,trivial⟩
theorem Ze {room:Int}{bh:Bool}(h:Rk H PL r c q X L)(hR:∀H' aT b,(∀A∈PL,A∈aT)->Rk H' aT r c (q.search c room bh b) X L->R undef H'):CA en F.J3 [P r,I room,.bool bh] H R:=by
 have⟨sa,nv,cv,b_,hs⟩:=h.ex;apply aA3;refine Sep.nw hs λi1 H2 h2=>Sep.nw h2 λi3 H4 h4=>Sep.nw h4 λi5 H6 h6=>?_
 have hb:=(Rk.ins [b1 i5 (.bool bh),b1 i3 (I room),b1 i1 (P r)] cv b_ h6).ae 10;have hp:=oW (A:=PL) (λ_ h=>h) [b1 i5 (.bool bh),b1 i3 (I room),b1 i1 (P r)];have m1:b1 i1 (P r)∈[b1 i5 (.bool bh),b1 i3 (I room),b1 i1 (P r)]++PL:=by simp
 have m3:b1 i3 (I room)∈[b1 i5 (.bool bh),b1 i3 (I room),b1 i1 (P r)]++PL:=by simp
 have m5:b1 i5 (.bool bh)∈[b1 i5 (.bool bh),b1 i3 (I room),b1 i1 (P r)]++PL:=by simp
 refine ⟨_,hb.box m3,_,hb.box m1,af ⟨_,hb.br 0 (λ_ _=>rfl),af ⟨_,hb.xf 5 rfl,⟨?_,trivial⟩⟩⟩⟩;refine aI (λe=>?_) λe=>?_
 ·have e:c.d3<=room:=by have:=ga e;omega
  refine ⟨_,hb.box m1,af (jO hb (.k9 m1) rfl λgv o18=>hR gv _ 0 hp ?_)⟩;unfold Qr.search;rw [ar e];exact o18
 ·have e:¬c.d3<=room:=by have:=fQ e;omega
  have⟨Mj,nv',WR,WG,kf⟩:=hb.ex;refine ⟨_,hb.box m1,af ⟨_,hb.br 2 (λ_ _=>rfl),Sep.nw kf λi23 bM kA=>Sep.dp kA (aS rfl) λcR ij=>?_⟩⟩;refine ⟨_,dI (k:=2) ij rfl m5 rfl,?_⟩;have go:∀(w:Wd) fw,Sep fw (b1 i23 (W w)::rA r c q Mj nv'::many ([b1 i5 (.bool bh),b1 i3 (I room),b1 i1 (P r)]++PL)::xA c::aR c.g c.m X::many (wD c q.nx)::L)->w=(if bh then q.ky else 0)->
    ∃eF,fw.cell i1 0=some (.pointer eF)/\∃gm,fw.cell i3 0=some (I gm)/\CA en F.yJ [(.pointer eF),I gm,(.func (.func F.GC) #[] #[(.pointer (some ⟨i1,0,none⟩)),(.pointer (some ⟨i23,0,none⟩)),(.pointer (some ⟨i5,0,none⟩)),(.pointer (some ⟨i3,0,none⟩))])] fw λv30 ft=>v30=undef/\R undef ft:=by
   intro w fw Eb ew;have EK:=Rk.ins [b1 i23 (W w)] WR WG Eb;have hq:=oW (A:=[b1 i5 (.bool bh),b1 i3 (I room),b1 i1 (P r)]++PL) (λ_ h=>h) [b1 i23 (W w)];refine ⟨_,EK.box (hq _ m1),_,EK.box (hq _ m3),?_⟩;refine akB (k:=.search w bh room) EK (.search (hq _ m1) (.head _) (hq _ m5) (hq _ m3)) λH' aT b sE o=>⟨rfl,hR H' aT b (zd (zd hp hq) sE) ?_⟩
   unfold Qr.search;rw [an e,<-ew];exact o
  cases bh with
  |false=>exact cm rfl (Sep.dp ij (aS rfl) λfw Eb=>go 0 fw Eb rfl)
  |true=>exact bl rfl (go q.ky cR ij rfl)
theorem avz (h:Rk H PL r c q X L)(B3:c.d3<9223372036854775808)(hR:Go R PL r c L λb=>cd c .begin q X.G b):CA en F.BY [P r] H R:=by
 apply aAR;have hb:=h.ae 22;refine af ⟨_,hb.br 0 (λ_ _=>rfl),af ⟨_,hb.xf 0 rfl,af ⟨_,hb.br 0 (λ_ _=>rfl),af ⟨_,hb.xf 7 rfl,?_⟩⟩⟩⟩;refine CR hb λbt Hm=>⟨_,_,rfl,af (vt (q':={q with bg:=(X.G.S.acc c.h 1 true id).1.1}) Hm (aS rfl) rfl rfl rfl (λ_ _=>rfl) λbf xM=>⟨?_,trivial⟩)⟩
 refine af ⟨_,xM.br 4 (λ_ _=>rfl),aI (λe=>?_) λe=>?_⟩
 ·have e:q.fl≠1:=by simpa using e
  have oB:=xM.ae 15;refine af ⟨_,oB.br 2 (λ_ _=>rfl),af ⟨_,oB.br 0 (λ_ _=>rfl),af ⟨_,oB.xf 5 rfl,?_⟩⟩⟩;refine aaJ B3 ⟨_,rfl,⟨?_,trivial⟩⟩;refine af ⟨_,oB.br 4 (λ_ _=>rfl),?_⟩;refine Ze oB λH' aT b hp o=>⟨rfl,hR H' aT (X.to (X.G.S.acc c.h 1 true id).2) (b,0,0) hp rfl ?_⟩
  have e1:(q.fl !=1)=decide (q.fl≠1):=by rw [x8 e];simpa using e
  show Rk H' aT r c (Qr.search c {q with bg:=(X.G.S.acc c.h 1 true id).1.1} (if q.fl=1 then 0 else bZ q.ky c.d3) (decide (q.fl≠1)) b) _ L;rw [an e,<-e1];exact o
 ·have e:q.fl=1:=by simpa using e
  refine af ⟨_,xM.br 4 (λ_ _=>rfl),?_⟩;refine Ze xM λH' aT b hp o=>⟨rfl,hR H' aT (X.to (X.G.S.acc c.h 1 true id).2) (b,0,0) hp rfl ?_⟩
  have e1:(q.fl !=1)=decide (q.fl≠1):=by rw [e];rfl
  show Rk H' aT r c (Qr.search c {q with bg:=(X.G.S.acc c.h 1 true id).1.1} (if q.fl=1 then 0 else bZ q.ky c.d3) (decide (q.fl≠1)) b) _ L;rw [ar e,<-e1];exact o
end
section
variable {H H':aa} {R K:Value->aa->Prop} {L M PL aT:List ax} {r:Nat} {c:Lc} {q:Qr} {X X':Gx}
theorem avD {g g3:Nat}{room:Int}(h1:b1 g (P r)∈PL)(h3:b1 g3 (I room)∈PL)(h:Rk H PL r c q X L)(hR:Go R PL r c L λb=>cd c (.free room) q X.G b):CA en F.PG [P g,P g3] H R:=by
 apply aA8;refine af ⟨_,h.box h1,akG h λH' o=>⟨dG.1 (by kernel_rfl),?_⟩⟩;show CA en F.V5 [P g,P g3] H' _;apply aA9;refine af ⟨_,o.box h1,af ⟨_,o.box h3,?_⟩⟩;exact Ze o λH2 NR b hp o2=>⟨rfl,rfl,rfl,hR H2 NR (X.to (pF c q X.G.S)) (b,0,0) hp rfl o2⟩
theorem avE {g:Nat}(h1:b1 g (P r)∈PL)(h:Rk H PL r c q X L)(hR:Go R PL r c L λb=>cd c .mn q X.G b):CA en F.PN [P g] H R:=by
 apply aBg;refine af ⟨_,h.box h1,akG h λH' o=>⟨dG.1 (by kernel_rfl),?_⟩⟩;show CA en F.V6 [P g] H' _;apply aBh;refine af ⟨_,o.box h1,af ⟨_,o.box h1,af (jO o .begin rfl λH9 o9=>?_)⟩⟩;exact ⟨rfl,rfl,hR H9 PL (X.to (pF c q X.G.S)) (0,0,0) (λ_ h=>h) rfl o9⟩
theorem ala {no:Int}{key:Wd}{f:Nat}{l cs:List Value}(h:Rk H PL r c q X L)
  (aul:(q.still c X.G.S).1=true->∀H' aT,(∀A∈PL,A∈aT)->Rk H' aT r c (q.dH no [] key 0) (X.to (q.still c X.G.S).2) L->(∃fn,en.fn f=some fn)/\CA en f (l++[]++cs) H' λv H=>v=undef/\R undef H)
  (fW:(q.still c X.G.S).1=false->∀H' aT,(∀A∈PL,A∈aT)->Rk H' aT r c (q.to (if no=0 then .mn else .begin)) (X.to (q.still c X.G.S).2) L->R undef H') :
  CA en F.PM [P r,.agg #[I no,.slice none 0 0,W key,I 0],.func (.func f) ⟨l⟩ ⟨cs⟩] H R:=by
 have⟨sa,nv,cv,b_,hs⟩:=h.ex;apply aBf;refine Sep.nw hs λi1 H2 h2=>Sep.nw h2 λi3 H4 h4=>?_
 have hb:=(Rk.ins [bx i3 (.cells true 0 [I no,.slice none 0 0,W key,I 0]),b1 i1 (P r)] cv b_ h4).ae 20;have hp:=oW (A:=PL) (λ_ h=>h) [bx i3 (.cells true 0 [I no,.slice none 0 0,W key,I 0]),b1 i1 (P r)];have m1:b1 i1 (P r)∈[bx i3 (.cells true 0 [I no,.slice none 0 0,W key,I 0]),b1 i1 (P r)]++PL:=.tail _ (.head _);have m3:bx i3 (.cells true 0 [I no,.slice none 0 0,W key,I 0])∈[bx i3 (.cells true 0 [I no,.slice none 0 0,W key,I 0]),b1 i1 (P r)]++PL:=.head _;refine ⟨_,hb.box m1,af ⟨_,hb.br 0 (λ_ _=>rfl),af ⟨_,hb.xf 0 rfl,_,hb.box m1,af ⟨_,hb.br 0 (λ_ _=>rfl),af ⟨_,hb.xf 7 rfl,?_⟩⟩⟩⟩⟩;refine CR hb λbu jM=>⟨_,_,rfl,⟨⟨_,jM.box m1,af ⟨_,jM.br 20 (λ_ _=>rfl),?_⟩⟩,trivial⟩⟩
 rw [bv_beq];have es:(q.still c X.G.S).1=((X.G.S.acc c.h 1 true id).1.1==q.bg):=by
  unfold Qr.still;rw [p7];simp
 rw [<-es];have⟨Za,XH,GX,GO,iu⟩:=jM.ex;refine aI (λe=>?_) λe=>?_
 ·refine ⟨_,jM.box m1,_,_,_,_,_,awv (k:=1) iu rfl m3 rfl,?_⟩;refine HI (rv:=[]) (rk:=key) (sa:=none) jM (.inl ⟨rfl,rfl⟩) λgi CK=>⟨rfl,eQ ?_⟩
  exact aul e gi _ hp CK
 ·refine ⟨_,dI (k:=1) iu rfl m3 rfl,aI (λe2=>?_) λe2=>?_⟩
  ·have e2:no=0:=by simpa using e2
   refine ⟨_,jM.box m1,af (jO jM (.mn m1) rfl λgV Ho=>fW e gV _ hp ?_)⟩;rw [ar e2];exact Ho
  ·have e2:no≠0:=by simpa using e2
   refine ⟨_,jM.box m1,_,jM.box m1,af (jO jM .begin rfl λjl o49=>fW e jl _ hp ?_)⟩;rw [an e2];exact o49
theorem avN {g:Nat}(h1:b1 g (P r)∈PL)(h:Rk H PL r c q X L)(hR:Go R PL r c L λb=>cd c .k9 q X.G b):CA en F.PD [P g] H R:=by
 apply aA4;refine af ⟨_,h.box h1,ala (no:=2) (key:=0) h (λe H' aT hp o=>⟨dG.1 (by kernel_rfl),?_⟩) λe H' aT hp o=>⟨rfl,hR H' aT (X.to (q.still c X.G.S).2) (0,0,0) hp rfl ?_⟩⟩
 ·show CA en F.V4 [P g] H' _;apply aA5;refine af ⟨_,o.box (hp _ h1),af (vt (q':={q.dH 2 [] 0 0 with dn:=true}) o (aS rfl) rfl rfl rfl (λ_ _=>rfl) λH6 o6=>⟨rfl,rfl,hR H6 aT (X.to (q.still c X.G.S).2) (0,0,0) hp rfl ?_⟩)⟩;show Rk H6 aT r c (if (q.still c X.G.S).1 then _ else _) _ L;rw [ar e];exact o6
 ·show Rk H' aT r c (if (q.still c X.G.S).1 then _ else _) _ L;rw [an (by rw [e];exact jY)];exact o
theorem avM {g:Nat}(h1:b1 g (P r)∈PL)(h:Rk H PL r c q X L)(hR:Go R PL r c L λb=>cd c .kZ q X.G b):CA en F.PH [P g] H R:=by
 apply aA_;have hb:=h.ae 9;refine af ⟨_,hb.box h1,af ⟨_,hb.box h1,af ⟨_,hb.br 19 (λ_ _=>rfl),af ⟨_,hb.box h1,?_⟩⟩⟩⟩;refine ala (no:=0) (key:=q.key) hb (λe H' aT hp o=>⟨dG.1 (by kernel_rfl),?_⟩) λe H' aT hp o=>⟨rfl,hR H' aT (X.to (q.still c X.G.S).2) (0,0,0) hp rfl ?_,trivial⟩
 ·show CA en F.BX [P r] H' _;refine akx o λH6 o6=>⟨rfl,rfl,hR H6 aT (X.to (q.still c X.G.S).2) (0,0,0) hp rfl ?_,trivial⟩
  show Rk H6 aT r c (if (q.still c X.G.S).1 then _ else _) _ L;rw [ar e];exact o6
 ·show Rk H' aT r c (if (q.still c X.G.S).1 then _ else _) _ L;rw [an (by rw [e];exact jY)];exact o
theorem avG {g:Nat}(h1:b1 g (P r)∈PL)(h:Rk H PL r c q X L)(hR:Go R PL r c L λb=>cd c .link q X.G b):CA en F.Px [P g] H R:=by
 apply aAP;have hb:=h.ae 23;refine af ⟨_,hb.box h1,af ⟨_,hb.br 0 (λ_ _=>rfl),af ⟨_,hb.xf 0 rfl,af ⟨_,hb.box h1,af ⟨_,hb.br 15 (λ_ _=>rfl),af ⟨_,hb.box h1,af ⟨_,hb.br 16 (λ_ _=>rfl),af ⟨_,hb.box h1,af ⟨_,hb.br 18 (λ_ _=>rfl),?_⟩⟩⟩⟩⟩⟩⟩⟩⟩;rw [wrap_u64];refine Yp hb λfq XK=>⟨_,rfl,⟨af ⟨_,XK.box h1,af ⟨_,XK.box h1,af (jO XK .leave rfl λja o39=>?_)⟩⟩,trivial⟩⟩
 exact hR ja PL _ (0,0,0) (λ_ h=>h) rfl o39
theorem avA (h:Rk H PL r c q X L)(hR:Go R PL r c L λb=>cd c .drop q X.G b):CA en F.rq [P r] H R:=by
 have⟨sa,nv,cv,b_,hs⟩:=h.ex;apply aAT;refine Sep.nw hs λi1 H2 h2=>⟨_,Sep.aG h2 rfl,?_⟩
 apply ZY;refine Sep.nw h2 λi3 H4 h4=>Sep.nw h4 λi5 H6 h6=>⟨_,rfl,eQ ⟨dG.1 (by kernel_rfl),?_⟩⟩
 have o6:=Rk.ins [b1 i5 (.func (.func F.Ej) #[] #[P i1]),b1 i3 (P r),b1 i1 (P r)] cv b_ h6;have hp:=oW (A:=PL) (λ_ h=>h) [b1 i5 (.func (.func F.Ej) #[] #[P i1]),b1 i3 (P r),b1 i1 (P r)];show CA en F.J1 [P i3,P i5] H6 _;refine ajJ (f:=.drop) (v:=.func (.func F.Ej) #[] #[P i1]) (R:=λv10 cj=>v10=undef/\R undef cj) (by simp) (by simp) (.drop (g:=i1) (by simp)) o6 λH' aT X' b sE e o=>⟨rfl,hR H' aT X' b (zd hp sE) e o⟩
theorem alk {a:Aw}{va:Value}(ha:pg PL r a va)(h:Rk H PL r c q X L)
  (hR:∀H' aT,(∀A∈PL,A∈aT)->Rk H' aT r c (q.to (.change (.take a))) (X.to (X.G.S.acc c.h 0 true (ic tick)).2) L->R undef H'):CA en F.PO [P r,va] H R:=by
 have⟨sa,nv,cv,b_,hs⟩:=h.ex;obtain ⟨f,l,cs,rfl⟩:=ha.fn;apply aBj;refine Sep.nw hs λi1 H2 h2=>Sep.nw h2 λi3 H4 h4=>?_
 have hb:=(Rk.ins [b1 i3 (.func (.func f) ⟨l⟩ ⟨cs⟩),b1 i1 (P r)] cv b_ h4).ae 15;have hp:=oW (A:=PL) (λ_ h=>h) [b1 i3 (.func (.func f) ⟨l⟩ ⟨cs⟩),b1 i1 (P r)];have m1:b1 i1 (P r)∈[b1 i3 (.func (.func f) ⟨l⟩ ⟨cs⟩),b1 i1 (P r)]++PL:=.tail _ (.head _);have m3:b1 i3 (.func (.func f) ⟨l⟩ ⟨cs⟩)∈[b1 i3 (.func (.func f) ⟨l⟩ ⟨cs⟩),b1 i1 (P r)]++PL:=.head _;refine ⟨_,hb.box m1,af ⟨_,hb.br 0 (λ_ _=>rfl),af ⟨_,hb.xf 0 rfl,_,hb.box m1,af ⟨_,hb.br 0 (λ_ _=>rfl),af ⟨_,hb.xf 7 rfl,?_⟩⟩⟩⟩⟩;refine RB (mask:=Ht) (v:=tick) hb λbu jM=>⟨_,_,rfl,⟨?_,trivial⟩⟩
 have oB:=jM.ae 7;refine ⟨_,oB.box m1,_,oB.box m1,?_⟩;apply ZY;have⟨Za,XH,GX,GO,iu⟩:=oB.ex;refine Sep.nw iu λi5 gg j_=>Sep.nw j_ λi7 bM kA=>⟨_,rfl,?_⟩
 have xN:=Rk.ins [b1 i7 (.func (.func F.Em) #[] #[P i1,P i3]),b1 i5 (P r)] GX GO kA;have hq:=oW (A:=[b1 i3 (.func (.func f) ⟨l⟩ ⟨cs⟩),b1 i1 (P r)]++PL) (λ_ h=>h) [b1 i7 (.func (.func F.Em) #[] #[P i1,P i3]),b1 i5 (P r)];refine af (yn (jO xN (.change (f:=.take a) (v:=.func (.func F.Em) #[] #[P i1,P i3]) (g:=i5) (g2:=i7) (by simp) (by simp) (.take (hq _ m1) (hq _ m3) (ha.mono (zd hp hq)))) rfl λgI XL=>⟨?_,⟨⟨_,oB.box m1,rfl⟩,⟨_,xN.box (hq _ m1),rfl⟩,trivial⟩,trivial⟩));exact hR gI _ (zd hp hq) XL
theorem avO (h:Rk H PL r c q X L)(hR:Go R PL r c L λb=>cd c .take q X.G b):CA en F.ry [P r] H R:=by
 apply aBi;exact alk .gZ h λH' aT hp o=>⟨rfl,hR H' aT (X.to (X.G.S.acc c.h 0 true (ic tick)).2) (0,0,0) hp rfl o⟩
theorem art (w:Wd):(Int.fdiv (w.toNat:Int) 4294967296==0)=decide (w>>>32=0):=by
 have e1:Int.fdiv (w.toNat:Int) 4294967296=((w.toNat / 4294967296:Nat):Int):=by
  rw [Ip _ (by decide)];rfl
 have e2:(w>>>32=0)↔w.toNat / 4294967296=0:=by
  rw [<-BitVec.toNat_inj,aaq,So];rfl
 rw [e1,p7,Df,e2,rP];omega
theorem avL (h:Rk H PL r c q X L)(hR:Go R PL r c L λb=>cd c .space q X.G b):CA en F.xi [P r] H R:=by
 apply aBe;have hb:=h.ae 20;refine af ⟨_,hb.br 0 (λ_ _=>rfl),af ⟨_,hb.xf 0 rfl,af ⟨_,hb.br 0 (λ_ _=>rfl),af ⟨_,hb.xf 7 rfl,?_⟩⟩⟩⟩;refine CR hb λbt Hm=>⟨_,_,rfl,⟨?_,trivial⟩⟩
 have⟨Y,hY⟩:∃Y,Y=X.to (X.G.S.acc c.h 0 true id).2:=⟨_,rfl⟩;rw [<-hY] at Hm;have hR:∀H' X',X'.G=(q.space c (X.G.S.acc c.h 0 true id).1.1 Y.G).2->Rk H' PL r c (q.space c (X.G.S.acc c.h 0 true id).1.1 Y.G).1 X' L->R undef H':=λH' X' e o=>hR H' PL X' (0,0,0) (λ_ h=>h) (by rw [e,hY];rfl) (by rw [hY] at o;exact o)
 generalize (X.G.S.acc c.h 0 true id).1.1=w at hR;have e0:IntKind.u64.wrap ((BitVec.ofInt 64 (w.toNat:Int)&&&BitVec.ofInt 64 4294967295).toNat:Int)=((w&&&bD).toNat:Int):=by rw [M4,rI];rfl
 rw [e0];unfold Qr.space at hR;refine af (vt (q':={q with bg:=w&&&bD}) Hm (aS rfl) rfl rfl rfl (λ_ _=>rfl) λbf xM=>?_);have oB:=xM.ae 22;have oC:=oB.ae 15;have oD:=oC.ae 12;refine af ⟨_,oB.br 20 (λ_ _=>rfl),af ⟨_,oB.br 0 (λ_ _=>rfl),af ⟨_,oB.xf 3 rfl,?_⟩⟩⟩;rw [wrap_u64];refine aI (λe=>?_) λe=>?_
 ·have e':(w&&&bD).toNat<(BitVec.ofInt 64 c.d1).toNat:=Int.ofNat_lt.1 (ga e);rw [ar e'] at hR;refine af ⟨_,oB.br 18 (λ_ _=>rfl),⟨?_,trivial⟩⟩;refine aI (λd=>?_) λd=>?_
  ·have d:q.made=0:=by simpa using d
   exact af (jO oB .make rfl λgi CK=>hR gi Y rfl (by rw [ar d];exact CK))
  ·have d:q.made≠0:=by simpa using d
   refine af ⟨_,oC.br 20 (λ_ _=>rfl),af ⟨_,oC.br 0 (λ_ _=>rfl),af ⟨_,oC.xf 3 rfl,⟨?_,trivial⟩⟩⟩⟩;rw [wrap_u64];exact cm e (af (jO oC (.after .add) rfl λgi CK=>hR gi Y rfl (by rw [an d];exact CK)))
 ·have e':¬(w&&&bD).toNat<(BitVec.ofInt 64 c.d1).toNat:=λh=>fQ e (Int.ofNat_lt.2 h)
  rw [an e'] at hR;refine ⟨af ⟨_,oC.br 20 (λ_ _=>rfl),af ⟨_,oC.br 0 (λ_ _=>rfl),af ⟨_,oC.xf 3 rfl,⟨?_,trivial⟩⟩⟩⟩,trivial⟩;rw [wrap_u64];refine bl e ⟨by unfold nn;decide,?_⟩;rw [art];refine aI (λd=>?_) λd=>?_
  ·have d:w>>>32=0:=ga d;rw [ar d] at hR;refine af ⟨_,oC.br 18 (λ_ _=>rfl),aI (λg=>?_) λg=>?_⟩
   ·have g:0<q.made:=by have:=ga g;omega
    rw [ar g] at hR;refine af ⟨_,oD.br 0 (λ_ _=>rfl),af ⟨_,oD.xf 0 rfl,af ⟨_,oD.br 18 (λ_ _=>rfl),?_⟩⟩⟩;exact awT oD λH60 o60=>⟨_,rfl,⟨Md o60 λTb o63=>⟨rfl,hR Tb (Y.to (Y.G.S.free q.made).2) rfl o63⟩,trivial⟩⟩
   ·have g:¬0<q.made:=by have:=fQ g;omega
    rw [an g] at hR;exact Md oC λTc o65=>⟨rfl,hR Tc Y rfl o65⟩
  ·have d:¬w>>>32=0:=fQ d;rw [an d] at hR;exact hR _ Y rfl oC
theorem apq {a:Option Addr}{n i o:Nat}{K:aa->Prop}(h:aq H i o [.slice a n 0] K):AS.pz (.slice a n 0) λvs=>bif Nat.beq vs.length 1 then aq H i o vs K else False:=h
theorem avI (hf:X.G.S.fresh)(h:Rk H PL r c q X L)(hR:Go R PL r c L λb=>cd c .make q X.G b):CA en F.PC [P r] H R:=by
 have⟨sa,nv,cv,b_,hs⟩:=h.ex;apply aA0;refine Sep.nw hs λi1 H2 h2=>?_
 have o2:=Rk.ins [b1 i1 (P r)] cv b_ h2;have hp:=oW (A:=PL) (λ_ h=>h) [b1 i1 (P r)];have m1:b1 i1 (P r)∈[b1 i1 (P r)]++PL:=.head _;refine ⟨_,o2.box m1,af ⟨_,o2.br 0 (λ_ _=>rfl),af ⟨_,o2.xf 0 rfl,?_⟩⟩⟩;refine awX o2 hf λcj b Q5=>⟨_,_,rfl,?_⟩
 have hR:=λH' aT X' gw bw=>hR H' aT X' (b,gw,bw)
 simp only [cd] at hR;generalize Wz:X.G.S.make b 3=mk at hR Q5;have⟨Za,XH,GX,GO,iu⟩:=Q5.ex;refine Sep.nw iu λi14 cz sr=>Sep.dp sr (aS rfl) λgC iJ=>?_
 have LW:=Rk.ins [b1 i14 (I mk.1.1)] GX GO iJ;have hq:=oW (A:=[b1 i1 (P r)]++PL) (λ_ h=>h) [b1 i14 (I mk.1.1)];refine aI (λe=>?_) λe=>?_
 ·have e:mk.1.2≠0:=by simpa using e
  refine ⟨_,LW.box (hq _ m1),Md LW λbf xM=>⟨rfl,hR bf _ (X.to mk.2) 0 0 (zd hp hq) ?_ ?_⟩⟩
  ·rw [ar e];rfl
  ·rw [ar e];exact xM
 ·have e:¬mk.1.2≠0:=by simpa using e
  refine ⟨_,LW.box (hq _ m1),_,LW.box (.head _),af (vt (q':={q with made:=mk.1.1}) LW (aS rfl) rfl rfl rfl (λ_ _=>rfl) λbM xN=>?_)⟩;have⟨Zb,nv3,atU,aDO,hs3⟩:=xN.ex;have hF:=hs3.yA (n:=17) (a:=15) (.cells true 0 [.slice none 0 0]) (by decide);generalize bM.next+15=gw at hF⊢;refine ⟨_,dI (k:=2) hF rfl (hq _ m1) rfl,af ⟨_,Sep.bn hF rfl,_,dI (k:=2) hF rfl (hq _ m1) rfl,af ⟨_,Sep.bn hF rfl,_,dI (k:=2) hF rfl (hq _ m1) rfl,af ⟨_,Sep.bn hF rfl,?_⟩⟩⟩⟩;refine Sep.nw hF λbw tu yD=>Sep.lK yD (aS rfl) λja JR=>⟨⟨_,dI (k:=3) JR rfl (hq _ m1) rfl,af (Sep.E_ JR (aS rfl) λdw nW=>?_)⟩,⟨⟨_,Sep.gL hF,rfl⟩,⟨_,Sep.yB yD,rfl⟩,trivial⟩,trivial⟩
  refine hR dw ([b1 i14 (I mk.1.1)]++([b1 i1 (P r)]++PL)) (X.to mk.2) gw bw (zd hp hq) (by rw [an e];rfl) ?_;rw [an e];refine ⟨Zb,.func (.func F.B1) #[] #[P gw,P i1,P i14],atU,.words (hq _ m1) (.head _) ⟨by decide,by simp,by simp⟩,?_⟩;have BU:Sep dw (many (wD c q.nx)::bx bw (.cells true 1 [.int .u64 (IntKind.u64.wrap q.cur),W q.ky,W q.val])::bx gw (.cells true 0 [.slice (some ⟨bw,0,none⟩) 3 0])::rA r c ({q with made:=mk.1.1}.to (.words gw bw mk.1.1 [BitVec.ofInt 64 q.cur,q.ky,q.val] 3)) Zb (.func (.func F.B1) #[] #[P gw,P i1,P i14])::
    many ([b1 i14 (I mk.1.1)]++([b1 i1 (P r)]++PL))::xA c::aR c.g c.m (X.to mk.2)::L):=Sep.pick nW 7 [6,0,1,2,3,4,5]
  rw [wrap_u64] at BU;have Vy:Sep dw (many [bx gw (.cells true 0 [.slice (some ⟨bw,0,none⟩) 3 0]),bx bw (.cells true 1 ([BitVec.ofInt 64 q.cur,q.ky,q.val].map W))]::rA r c ({q with made:=mk.1.1}.to (.words gw bw mk.1.1 [BitVec.ofInt 64 q.cur,q.ky,q.val] 3)) Zb (.func (.func F.B1) #[] #[P gw,P i1,P i14])::
    many ([b1 i14 (I mk.1.1)]++([b1 i1 (P r)]++PL))::xA c::aR c.g c.m (X.to mk.2)::L):=Sep.fX.2 (Sep.pick BU.tail 2 [1,0])
  exact Sep.pick Vy 5 [1,2,3,4,0]
theorem avU {gw bw g gh n:Nat}{hh:Int}{all:List Wd}(hx:q.nx=.words gw bw hh all n)(hn:1<=n/\n<=all.length/\all.length<=3)(h1:b1 g (P r)∈PL)(h2:b1 gh (I hh)∈PL)(h:Rk H PL r c q X L)(hR:Go R PL r c L λb=>cd c (.words gw bw hh all n) q X.G b) :
  CA en F.B1 [P gw,P g,P gh] H R:=by
 apply aA1;have⟨sa,nv,cv,b_,hs⟩:=h.ex;rw [hx] at hs b_;have hs:Sep H (rA r c q sa nv::many PL::xA c::aR c.g c.m X::many [bx gw (.cells true 0 [.slice (some ⟨bw,0,none⟩) n 0]),bx bw (.cells true 1 (all.map W))]::L):=hs;have h4:Sep H (bx gw (.cells true 0 [.slice (some ⟨bw,0,none⟩) n 0])::bx bw (.cells true 1 (all.map W))::rA r c q sa nv::many PL::xA c::aR c.g c.m X::L):=Sep.fX.1 (Sep.pick hs 5 [4,0,1,2,3]);have en1:IntKind.i64.wrap ((n:Int) - 1)=((n - 1:Nat):Int):=by rw [wrap_i64 (by omega)];omega
 have hB:=h4.ae 14;refine af ⟨_,_,Sep.aG h4 rfl,af ⟨_,dI (k:=3) hB rfl h1 rfl,af ⟨_,Sep.eK hB rfl,af ⟨_,Sep.lD hB rfl,af ⟨_,dI (k:=3) hB rfl h2 rfl,af ⟨_,_,Sep.aG hB rfl,?_⟩⟩⟩⟩⟩⟩;rw [en1];refine ⟨by unfold az;omega,bG ⟨((all.getD (n - 1) 0).toNat:Int),Sep.bn hB ?_,?_⟩⟩
 ·rw [cG,dr,ou,jg,cM (by omega),gu,cM (by omega)];rfl
 refine Vu (Sep.MK hB) λcR ij=>⟨_,rfl,⟨?_,trivial⟩⟩
 refine af ⟨_,_,Sep.bn ij rfl,by unfold vc;omega,⟨⟨_,_,_,Sep.arS ij,.inr rfl⟩,af (apq (Sep.lK ij (aS rfl) λgi Ec=>?_))⟩⟩;rw [dr] at Ec;have hR:=λH' aT b=>hR H' aT (X.to (X.G.S.acc hh ((n - 1:Nat):Int) true λ_=>all.getD (n - 1) 0).2) b
 simp only [cd] at hR;refine aI (λe=>?_) λe=>?_
 ·have e:n=1:=by simp at e;omega
  have vU:Sep gi (rA r c q sa nv::many PL::xA c::aR c.g c.m (X.to (X.G.S.acc hh ((n - 1:Nat):Int) true λ_=>all.getD (n - 1) 0).2)::many [bx gw (.cells true 0 [.slice (some ⟨bw,0+0*1,none⟩) (n - 1) 0]),bx bw (.cells true 1 (all.map W))]::L):=by
   have:=Sep.pick Ec 6 [1,2,3,4,5,0]
   have qw:=(Sep.fX (L:=[bx gw (.cells true 0 [.slice (some ⟨bw,0+0*1,none⟩) (n - 1) 0]),bx bw (.cells true 1 (all.map W))])).2 this;exact Sep.pick qw 5 [1,2,3,4,0]
  have oB:Rk (gi.ae 8) PL r c (q.to .none) (X.to (X.G.S.acc hh ((n - 1:Nat):Int) true λ_=>all.getD (n - 1) 0).2) L:=⟨sa,nv,cv,.none,aeP (vU.ae 8)⟩;refine af ⟨_,oB.box h1,af ⟨_,oB.box h1,af ⟨_,oB.box h1,?_⟩⟩⟩;apply ZY;have⟨Za,XH,GX,GO,iu⟩:=oB.ex;refine Sep.nw iu λi5 gg j_=>Sep.nw j_ λi7 bM kA=>⟨_,rfl,?_⟩
  have xN:=Rk.ins [b1 i7 (bound F.z9 r),b1 i5 (P r)] GX GO kA;have hq:=oW (A:=PL) (λ_ h=>h) [b1 i7 (bound F.z9 r),b1 i5 (P r)];refine af (yn (jO xN (.change (f:=.add) (v:=bound F.z9 r) (g:=i5) (g2:=i7) (by simp) (by simp) .add) rfl λgI XL=>⟨?_,⟨af ⟨_,oB.box h1,rfl⟩,af ⟨_,xN.box (hq _ h1),rfl⟩,trivial⟩,trivial⟩));exact hR gI _ (0,0,0) hq rfl (by rw [ar e];exact XL)
 ·have e:n≠1:=by simp at e;omega
  refine hR gi PL (0,0,0) (λ_ h=>h) rfl ?_;rw [an e];cases b_ with
  |@words _ _ g' gh' _ _ _ w1 w2 w3=>
  refine ⟨sa,.func (.func F.B1) #[] #[P gw,P g',P gh'],cv,.words w1 w2 ⟨by omega,by omega,by omega⟩,?_⟩
  have:=Sep.pick Ec 6 [1,2,3,4,5,0]
  have qw:=(Sep.fX (L:=[bx gw (.cells true 0 [.slice (some ⟨bw,0+0*1,none⟩) (n - 1) 0]),bx bw (.cells true 1 (all.map W))])).2 this;exact Sep.pick qw 5 [1,2,3,4,0]
theorem avT {g:Nat}(h1:b1 g (P r)∈PL)(h:Rk H PL r c q X L)(hR:Go R PL r c L λb=>cd c .ot q X.G b):CA en F.J5 [P g] H R:=by
 apply aBs;have hb:=h.ae 17;refine af ⟨_,hb.box h1,af ⟨_,hb.br 0 (λ_ _=>rfl),af ⟨_,hb.xf 0 rfl,af ⟨_,hb.box h1,af ⟨_,hb.br 17 (λ_ _=>rfl),?_⟩⟩⟩⟩⟩;refine CR hb λaQ Hn=>⟨_,_,rfl,⟨?_,trivial⟩⟩
 have oB:=Hn.ae 12;refine af ⟨_,oB.box h1,af ⟨_,oB.box h1,af ⟨_,oB.br 0 (λ_ _=>rfl),af ⟨_,oB.box h1,af ⟨_,oB.br 17 (λ_ _=>rfl),?_⟩⟩⟩⟩⟩;refine aiE oB λmF aT i hp hi o36=>⟨_,_,_,_,_,rfl,?_⟩
 refine HI (rv:=[(X.G.S.acc q.cur 2 true id).1.1]) (rk:=0) (sa:=some ⟨i,0,none⟩) o36 (.inr ⟨i,_,rfl,rfl,hi⟩) λmX o43=>⟨rfl,⟨af ⟨_,o43.box (hp _ h1),af (vt (q':={q.dH 0 [(X.G.S.acc q.cur 2 true id).1.1] 0 (q.elem c (X.G.S.acc q.cur 2 true id).1.1) with dn:=true}) o43 (aS rfl) rfl rfl rfl (λ_ _=>rfl) λyh o55=>?_)⟩,⟨af ⟨_,oB.box h1,rfl⟩,af ⟨_,o36.box (hp _ h1),rfl⟩,trivial⟩,trivial⟩⟩
 exact hR yh aT _ (0,0,0) hp rfl o55
theorem RY (h:Rk H PL r c q X L)(hl:X.G.q.length<10000)(hf:X.G.S.fresh)(hn:q.dn=false->q.nx≠.none)(B3:c.d3<9223372036854775808)
  (hR:∀H' aT X' b,(∀A∈PL,A∈aT)->X'.G=(q.step c X.G b).2->Rk H' aT r c (q.step c X.G b).1 X' L->R (.tuple #[.bool (q.pX (q.step c X.G b).1).1,.bool (q.pX (q.step c X.G b).1).2]) H'):CA en F.BW [P r] H R:=by
 apply ZX;refine af ⟨_,h.br 9 (λ_ _=>rfl),aI (λd=>?_) λd=>?_⟩
 ·have e:∀b,q.step c X.G b=(q,X.G):=λb=>by unfold Qr.step;rw [ar d]
  have:=hR H PL X (0,0,0) (λ_ h=>h) (by rw [e]) (by rw [e];exact h)
  unfold Qr.pX at this;rw [ar d] at this;exact this
 have e:∀b,q.step c X.G b=cd c q.nx {q with aj:=false} X.G b:=λb=>by
  unfold Qr.step;rw [an (by rw [d];exact jY)]
 refine af (vt (q':={q with aj:=false}) h (aS rfl) rfl rfl rfl (λ_ _=>rfl) λH6 o6=>af ?_);have fin:∀H' aT X' b,(∀A∈PL,A∈aT)->X'.G=(cd c q.nx {q with aj:=false} X.G b).2->Rk H' aT r c (cd c q.nx {q with aj:=false} X.G b).1 X' L->
   (undef=undef/\AS.asAddr (.pointer (some ⟨r,0,none⟩)) λi15 i16=>∃q8,(H'.ae 10).cell i15 (i16+8)=some (.bool q8)/\AS.asAddr (.pointer (some ⟨r,0,none⟩)) λi18 i19=>∃nS,(H'.ae 10).cell i18 (i19+9)=some (.bool nS)/\((R (.tuple #[(.bool q8),(.bool nS)]) (H'.ae 10))/\True)):=by
  intro H' aT X' b hp e1 o;have oB:=o.ae 10;refine ⟨rfl,af ⟨_,oB.br 8 (λ_ _=>rfl),af ⟨_,oB.br 9 (λ_ _=>rfl),⟨?_,trivial⟩⟩⟩⟩
  have:=hR _ aT X' b hp (by rw [e];exact e1) (by rw [e];exact oB)
  unfold Qr.pX at this;rw [an (by rw [d];exact jY),e] at this;exact this
 have⟨sa,nv,cv,b_,hs⟩:=o6.ex;have l7:H6.cell r (0+7)=some nv:=Sep.aG hs rfl;refine ⟨_,l7,?_⟩;have b_:NV PL r q.ky q.nx nv:=b_;have hn:=hn d;clear hs l7 cv h hR;have⟨q0,yP,wo⟩:∃q0:Qr,q0={q with aj:=false}/\q0.nx=q.nx:=⟨_,rfl,rfl⟩;have ek:q0.ky=q.ky:=by rw [yP]
 rw [<-yP] at o6 fin;rw [<-ek] at b_;clear yP ek e;generalize q.nx=nx at b_ fin hn wo;cases b_ with
 |none=>exact absurd rfl hn
 |enter h1 h2 hk h3=>exact eQ ⟨dG.1 (by kernel_rfl),avC (q:=q0) (R:=_) wo h1 h2 hk h3 o6 fin⟩
 |th hk=>exact avQ (q:=q0) (R:=_) hk o6 fin
 |load hk=>exact eQ ⟨dG.1 (by kernel_rfl),ajK (q:=q0) (R:=_) hk o6 fin⟩
 |ask hk=>exact eQ ⟨dG.1 (by kernel_rfl),avy (q:=q0) (R:=_) hk o6 fin⟩
 |set=>exact eQ ⟨dG.1 (by kernel_rfl),avK (q:=q0) (R:=_) o6 fin⟩
 |look=>exact eQ ⟨dG.1 (by kernel_rfl),avH (q:=q0) (R:=_) o6 fin⟩
 |space=>exact eQ ⟨dG.1 (by kernel_rfl),avL (q:=q0) (R:=_) o6 fin⟩
 |make=>exact eQ ⟨dG.1 (by kernel_rfl),avI (q:=q0) (R:=_) hf o6 fin⟩
 |words h1 h2 hw=>exact eQ ⟨dG.1 (by kernel_rfl),avU (q:=q0) (R:=_) wo hw h1 h2 o6 fin⟩
 |change h1 h2 Ep=>exact eQ ⟨dG.1 (by kernel_rfl),ajJ (q:=q0) (R:=_) h1 h2 Ep o6 fin⟩
 |after Ep=>
  cases Ep with
  |add=>exact eQ ⟨dG.1 (by kernel_rfl),avx (q:=q0) (R:=_) o6 fin⟩
  |drop h1=>exact eQ ⟨dG.1 (by kernel_rfl),avB (q:=q0) (R:=_) h1 o6 fin⟩
  |take h1 h2 ha=>exact eQ ⟨dG.1 (by kernel_rfl),avP (q:=q0) (R:=_) h1 h2 ha o6 fin⟩
 |link h1=>exact eQ ⟨dG.1 (by kernel_rfl),avG (q:=q0) (R:=_) h1 o6 fin⟩
 |drop=>exact eQ ⟨dG.1 (by kernel_rfl),avA (q:=q0) (R:=_) o6 fin⟩
 |take=>exact eQ ⟨dG.1 (by kernel_rfl),avO (q:=q0) (R:=_) o6 fin⟩
 |gp h1 h2 ha=>exact eQ ⟨dG.1 (by kernel_rfl),avR (q:=q0) (R:=_) h1 h2 ha o6 fin⟩
 |iD h1 h3 h2 ha=>exact eQ ⟨dG.1 (by kernel_rfl),avS (q:=q0) (R:=_) h1 h3 h2 ha o6 hl fin⟩
 |off h1 h2 ha=>exact eQ ⟨dG.1 (by kernel_rfl),avJ (q:=q0) (R:=_) h1 h2 ha o6 fin⟩
 |leave=>exact eQ ⟨dG.1 (by kernel_rfl),avF (q:=q0) (R:=_) o6 fin⟩
 |begin=>exact eQ ⟨dG.1 (by kernel_rfl),avz (q:=q0) (R:=_) o6 B3 fin⟩
 |free h1 h3=>exact eQ ⟨dG.1 (by kernel_rfl),avD (q:=q0) (R:=_) h1 h3 o6 fin⟩
 |k9 h1=>exact eQ ⟨dG.1 (by kernel_rfl),avN (q:=q0) (R:=_) h1 o6 fin⟩
 |kZ h1=>exact eQ ⟨dG.1 (by kernel_rfl),avM (q:=q0) (R:=_) h1 o6 fin⟩
 |ot h1=>exact eQ ⟨dG.1 (by kernel_rfl),avT (q:=q0) (R:=_) h1 o6 fin⟩
 |mn h1=>exact eQ ⟨dG.1 (by kernel_rfl),avE (q:=q0) (R:=_) h1 o6 fin⟩
theorem amL {kd fl bW:Int}{ky:Wd}{va:Option Addr}{vs:List Wd}{n:Nat}(h:Sep H (xA c::aR c.g c.m X::L))(hn:n=vs.length)(B3:c.d3<9223372036854775808)
  (hv:∀w,vs.head? =some w->∃b o,va=some ⟨b,o,none⟩/\∀H',Sep H' L->H'.cell b o=some (W w))
  (hR:∀H' r PL b,Rk H' PL r c (Qr.new c kd ky fl bW (vs.headD 0) b) X L->R (P r) H'):CA en F.VZ [P c.x,.agg #[I kd,W ky,.slice va n 0,I fl,I bW]] H R:=by
 subst hn;apply aAE;refine Sep.nw h λi1 H2 h2=>⟨_,_,_,_,_,_,Sep.jK h2 rfl,Sep.nw h2 λr eO eI=>Sep.nw eI λi11 bO fA=>Sep.dp fA (aS rfl) λcE gP=>⟨_,_,Sep.eK gP rfl,?_⟩⟩
 have go:∀(w:Wd) bN,w=vs.headD 0->Sep bN (b1 i11 (P r)::rA r c {Qr.zero with kd:=kd,ky:=ky,fl:=fl,bW:=bW,val:=w} none .nilFunc::bx i1 (.cells true 0 [I kd,W ky,.slice va vs.length 0,I fl,I bW])::xA c::aR c.g c.m X::L)->
   Rk bN [b1 i11 (P r),bx i1 (.cells true 0 [I kd,W ky,.slice va vs.length 0,I fl,I bW])] r c {Qr.zero with kd:=kd,ky:=ky,fl:=fl,bW:=bW,val:=w} X L:=λw bN ew hs=>by
  refine ⟨none,.nilFunc,.inl ⟨rfl,rfl⟩,.none,?_⟩;have h1:Sep bN (many []::b1 i11 (P r)::bx i1 (.cells true 0 [I kd,W ky,.slice va vs.length 0,I fl,I bW])::rA r c {Qr.zero with kd:=kd,ky:=ky,fl:=fl,bW:=bW,val:=w} none .nilFunc::xA c::aR c.g c.m X::L):=Sep.vh (Sep.pick hs 5 [0,2,1,3,4]);have h2:Sep bN (many [b1 i11 (P r),bx i1 (.cells true 0 [I kd,W ky,.slice va vs.length 0,I fl,I bW])]::many []::rA r c {Qr.zero with kd:=kd,ky:=ky,fl:=fl,bW:=bW,val:=w} none .nilFunc::xA c::aR c.g c.m X::L):=Sep.fX.2 (Sep.pick h1 6 [1,2,0,3,4,5]);exact Sep.pick h2 5 [2,0,3,4,1]
 have rest:∀(w:Wd) bN,w=vs.headD 0->Rk bN [b1 i11 (P r),bx i1 (.cells true 0 [I kd,W ky,.slice va vs.length 0,I fl,I bW])] r c {Qr.zero with kd:=kd,ky:=ky,fl:=fl,bW:=bW,val:=w} X L->
   ∃gm,bN.cell i1 0=some (I gm)/\bif (gm==4) then (∃jc,bN.cell i11 0=some (.pointer jc)/\∃fz,bN.cell i11 0=some (.pointer fz)/\AS.asAddr (.pointer jc) λi32 i33=>aq bN i32 (i33+7) [(.func (.func F.BY) #[(.pointer fz)] #[])] λgi=>∃iS,gi.cell i11 0=some (.pointer iS)/\R (.pointer iS) gi)
   else (∃kq,(bN.ae 11).cell i11 0=some (.pointer kq)/\∃iz,(bN.ae 11).cell i1 1=some (.int .u64 iz)/\AS.asAddr (P c.x) λi38 i39=>∃fD,(bN.ae 11).cell i38 ((i39+2)+3)=some (I fD)/\
    CA en F.Gd [(.int .u64 iz),I fD] (bN.ae 11) λFo uC=>∃mw,Fo=I mw/\CA en F.yJ [(.pointer kq),I mw,(.func (.func F.GB) #[] #[(.pointer (some ⟨i11,0,none⟩)),(.pointer (some ⟨i1,0,none⟩))])] uC λAW dw=>AW=undef/\((
     ∃m7,dw.cell i11 0=some (.pointer m7)/\R (.pointer m7) dw)/\((∃kO,(bN.ae 11).cell i11 0=some (.pointer kO)/\kq=kO)/\(∃kN,uC.cell i11 0=some (.pointer kN)/\kq=kN)/\True)/\True)):=by
  intro w bN ew o;have⟨sa,nv,cv,b_,hs⟩:=o.ex;have m1:b1 i11 (P r)∈[b1 i11 (P r),bx i1 (.cells true 0 [I kd,W ky,.slice va vs.length 0,I fl,I bW])]:=.head _;have m2:bx i1 (.cells true 0 [I kd,W ky,.slice va vs.length 0,I fl,I bW])∈[b1 i11 (P r),bx i1 (.cells true 0 [I kd,W ky,.slice va vs.length 0,I fl,I bW])]:=.tail _ (.head _);refine ⟨_,dI (k:=1) hs rfl m2 rfl,aI (λe=>?_) λe=>?_⟩
  ·have e:kd=4:=by simpa using e
   refine ⟨_,o.box m1,_,o.box m1,af (jO o .begin rfl λgi CK=>⟨_,CK.box m1,hR gi r [b1 i11 (P r),bx i1 (.cells true 0 [I kd,W ky,.slice va vs.length 0,I fl,I bW])] 0 ?_⟩)⟩;unfold Qr.new;rw [ar e,<-ew];exact CK
  ·have e:¬kd=4:=by simpa using e
   have oB:=o.ae 11;refine ⟨_,oB.box m1,_,dI (k:=1) (hs.ae 11) rfl m2 rfl,af ⟨_,oB.xf 5 rfl,?_⟩⟩;refine aaJ B3 ⟨_,rfl,akB (k:=.op) oB (.op m1 ⟨_,_,_,_,m2⟩) λdw aT b hp o45=>⟨rfl,⟨_,o45.box (hp _ m1),hR dw r aT b ?_⟩,⟨⟨_,oB.box m1,rfl⟩,⟨_,oB.box m1,rfl⟩,trivial⟩,trivial⟩⟩;unfold Qr.new;rw [an e,<-ew];exact o45
 refine aI (λe=>?_) λe=>?_
 ·have e:0<vs.length:=by have:=ga e;omega
  obtain ⟨w,H_,rfl⟩:∃w H_,vs=w::H_:=by
   cases vs with
   |nil=>simp at e
   |cons w H_=>exact ⟨w,H_,rfl⟩
  obtain ⟨b,o,rfl,hc⟩:=hv w rfl;have hB:=gP.ae 8;refine ⟨_,Sep.aG hB rfl,_,_,Sep.eK hB rfl,by unfold az;simp,?_⟩;show ∃bX,(cE.ae 8).cell b o=some (.int .u64 bX)/\_;refine ⟨_,hc _ (hB.drop 5),af (Sep.lK hB (aS rfl) λbM kA=>⟨⟨_,Sep.aG kA rfl,af (Sep.lK kA (aS rfl) λbN tL=>?_)⟩,trivial⟩)⟩;exact rest w bN rfl (go w bN rfl tL)
 ·have e:vs=[]:=by
   have:=fQ e
   exact zB (by omega)
  subst e;refine ⟨_,Sep.aG gP rfl,af (Sep.lK gP (aS rfl) λdW su=>?_)⟩;exact rest 0 dW rfl (go 0 dW rfl su)
theorem aqq {ws:List Wd}{sa:Option Addr}(h:Sep H (many PL::M))(hv:RV PL ws sa)
  (hR:∀H' o,(o=none->ws=[])->Sep H' (gl 1 o (ws.map W)::many PL::M)->R (.slice (addr o) ws.length 0) H'):CA en F.Mu [.slice sa ws.length 0] H R:=by
 apply alP;rcases hv with ⟨rfl,rfl⟩|⟨b,w,rfl,rfl,hm⟩
 ·exact cm rfl (hR H none (λ_=>rfl) (kx.2 h))
 ·refine bl rfl (Sep.nw h λi1 H2 h2=>⟨[W w],oO (h2.awi _ hm) (by simp) rfl,?_⟩);refine qo (b:=some i1) (cs:=[]) (new:=[W w]) (dN.2 h2) (λe=>by cases e) (by decide) rfl (by simp) rfl (by simp) λH6 o' h6=>?_
  exact hR H6 (some o') (λe=>by cases e) h6
theorem akK (h:Rk H PL r c q X L)
  (hR:∀H' o,(o=none->q.rv=[])->Rk H' PL r c q X (gl 1 o (q.rv.map W)::L)->R (.agg #[I q.no,.slice (addr o) q.rv.length 0,W q.rk,I q.el]) H'):CA en F.V3 [P r] H R:=by
 have⟨sa,nv,cv,b_,hs⟩:=h.ex;apply aAN;refine Sep.nw hs λi1 H2 h2=>af ⟨_,_,_,_,_,Sep.wu h2 rfl,Sep.nw h2 λi10 cj jo=>Sep.dp jo (aS rfl) λbO fA=>af ⟨_,_,Sep.eK fA rfl,?_⟩⟩
 refine aqq (Sep.k_ fA) cv λgC o ho iJ=>⟨_,_,rfl,?_⟩
 refine Sep.E_ iJ (aS rfl) λbf gy=>⟨_,_,_,_,_,Sep.yT gy rfl,?_⟩
 refine Sep.HR gy (aS rfl) λcR ij=>⟨_,_,_,_,_,Sep.avc ij rfl,?_⟩
 exact hR cR o ho ⟨sa,nv,cv,b_,Sep.pick ij 8 [4,1,5,6,7,0]⟩
end
section
abbrev View:=Int->Option (List Wd)
structure El where
 h:Int
 k:Wd
def first:List El->Wd
 |[]=>0
 |e::_=>BitVec.ofInt 64 e.h
def jQ (V:View):List El->Prop
 |[]=>True
 |e::l=>(∃v,V e.h=some [first l,e.k,v])/\jQ V l
def gM (c:Lc)(l:List El):Int:=match l.getLast? with|none=>c.h|some e=>e.h
def mA (i:Nat)(l:List El):Nat:=match l.getLast? with|none=>2+3*i+2|some _=>0
theorem jQ.frame {V V':View}:∀{l:List El},jQ V l->(∀e∈l,V' e.h=V e.h)->jQ V' l
 |[],_,_=>trivial
 |e::l,⟨⟨v,h1⟩,h2⟩,hf=>⟨⟨v,by rw [hf e (by simp),h1]⟩,h2.frame λx hx=>hf x (by simp [hx])⟩
theorem jQ.aP {V:View}:∀{l1:List El}{e:El}{l2:List El},jQ V (l1++e::l2)->∃v,V e.h=some [first l2,e.k,v]
 |[],e,l2,h=>h.1
 |a::l1,e,l2,h=>jQ.aP (l1:=l1) h.2
theorem jQ.tail {V:View}:∀{l1 l2:List El},jQ V (l1++l2)->jQ V l2
 |[],l2,h=>h
 |a::l1,l2,h=>jQ.tail (l1:=l1) h.2
theorem jQ.val {V V':View}{a:Int}:∀{l:List El},jQ V l->(∀h,h≠a->V' h=V h)->(∀e∈l,e.h=a->∀x y z,V a=some [x,y,z]->∃z',V' a=some [x,y,z'])->jQ V' l
 |[],_,_,_=>trivial
 |e::l,⟨⟨v,h1⟩,h2⟩,hf,ha=>⟨by
   by_cases e1:e.h=a
   ·have:=ha e (.head _) e1 _ _ _ (e1▸h1)
    rw [e1];exact this
   ·exact ⟨v,by rw [hf _ e1,h1]⟩,h2.val hf λe he=>ha e (jh _ he)⟩
theorem axP {c:Lc}{a:El}{l:List El}:gM c (a::l)∈(a::l).map El.h:=by
 unfold gM;cases hg:(a::l).getLast? with
 |none=>simp at hg
 |some x=>exact cL.2 ⟨x,SA hg,rfl⟩
theorem jQ.cut {V V':View}{c:Lc}{m:List El}:∀{l1 l2:List El},jQ V (l1++l2)->(l1.map El.h).Nodup->(∀e∈m,V' e.h=V e.h)->(∀e∈l1,e.h≠gM c l1->V' e.h=V e.h)->
  (l1≠[]->∀x y z,V (gM c l1)=some [x,y,z]->V' (gM c l1)=some [first m,y,z])->jQ V m->jQ V' (l1++m)
 |[],l2,_,_,hm,_,_,hl=>hl.frame hm
 |[a],l2,h,nd,hm,hf,hs,hl=>by
  have⟨⟨v,h1⟩,h2⟩:=h;exact ⟨⟨v,hs (by simp) _ _ _ h1⟩,hl.frame hm⟩
 |a::b::l1,l2,h,nd,hm,hf,hs,hl=>by
  have⟨⟨v,h1⟩,h2⟩:=h;have es:gM c (a::b::l1)=gM c (b::l1):=by unfold gM;rw [List.getLast?_cons_cons]
  rw [es] at hf hs;have na:a.h≠gM c (b::l1):=by
   intro e
   have:gM c (b::l1)∈(b::l1).map El.h:=axP
   rw [lL,l_] at nd;exact nd.1 (by rw [e];exact this)
  refine ⟨⟨v,?_⟩,?_⟩
  ·rw [hf a (by simp) na,h1];rfl
  ·rw [lL,l_] at nd;exact jQ.cut (l1:=b::l1) h2 nd.2 hm (λe he=>hf e (jh _ he)) (λ_=>hs (by simp)) hl
structure Ab where
 ls:List (List El)
 ay:Wd
 bo:Wd
 tk:Nat->Wd
 sv:Nat->Wd
 mb:Int
def Ab.av (A:Ab):List El:=A.ls.flatten
structure IG (A:Ab)(ws:List Wd):Prop where
 len:ws.length=2+3*A.ls.length
 ay:ws.getD 0 0=A.ay
 bo:ws.getD 1 0=A.bo
 tk:∀i,i<A.ls.length->ws.getD (2+3*i) 0=A.tk i
 sv:∀i,i<A.ls.length->ws.getD (2+3*i+1) 0=A.sv i
 hd:∀(i:Nat)(l:List El),A.ls[i]? =some l->ws.getD (2+3*i+2) 0=first l
structure Vw (c:Lc)(A:Ab)(V:View):Prop where
 AJ:∃ws,V c.h=some ws/\IG A ws
 link:∀(i:Nat)(l:List El),A.ls[i]? =some l->jQ V l
 nd:(c.h::A.av.map El.h).Nodup
variable {c:Lc} {A A':Ab} {V V':View} {G:Gr} {xs P:List Int} {cap:Int} {n:Nat}
theorem Ab.mem {i:Nat}{l:List El}(h:A.ls[i]? =some l){e:El}(he:e∈l):e∈A.av:=zo.2 ⟨l,dF h,he⟩
theorem Vw.xL (M:Vw c A V){e:El}(he:e∈A.av):e.h≠c.h:=λe2=>(l_.1 M.nd).1 (by rw [<-e2];exact cL.2 ⟨e,he,rfl⟩)
theorem Vw.own (M:Vw c A V){ws':List Wd}(hV:∀h,V' h=if h=c.h then some ws' else V h)(hr:IG A' ws')(yM:A'.ls=A.ls):Vw c A' V':=by
 refine ⟨⟨ws',by rw [hV,ar rfl],hr⟩,λi l hl=>?_,by unfold Ab.av;rw [yM];exact M.nd⟩;rw [yM] at hl;exact (M.link i l hl).frame λe he=>by rw [hV,an (M.xL (Ab.mem hl he))]
theorem Vw.other (M:Vw c A V){a:Int}(ha:a≠c.h)(hV:∀h,h≠a->V' h=V h)(hE:∀e∈A.av,e.h=a->∀x y z,V a=some [x,y,z]->∃z',V' a=some [x,y,z']):Vw c A V':=by
 have⟨ws,h1,h2⟩:=M.AJ;exact ⟨⟨ws,by rw [hV _ ha.symm];exact h1,h2⟩,λi l hl=>(M.link i l hl).val hV λe he=>hE e (Ab.mem hl he),M.nd⟩
theorem Gl {i:Nat}{l:List El}{ls:List (List El)}(h:ls[i]? =some l):ls.flatten=(ls.take i).flatten++(l++(ls.drop (i+1)).flatten):=by
 have:=afi (f:=id) h
 simpa [List.flatMap] using this
theorem O6 {i:Nat}{l l':List El}{ls:List (List El)}(h:ls[i]? =some l):(ls.set i l').flatten=(ls.take i).flatten++(l'++(ls.drop (i+1)).flatten):=by
 have:=arB (f:=id) (y:=l') (bJ.1 h).1
 simpa [List.flatMap] using this
theorem Vw.cut (M:Vw c A V){i:Nat}{l1 l2 m:List El}(hl:A.ls[i]? =some (l1++l2)){w:Wd}(hw:w=first m)(Ws:jQ V m)(rD:(c.h::(A.ls.set i (l1++m)).flatten.map El.h).Nodup)
  {ws:List Wd}(hv:V (gM c l1)=some ws)(hV:∀h,V' h=if h=gM c l1 then some (ws.set (mA i l1) w) else V h):Vw c {A with ls:=A.ls.set i (l1++m)} V':=by
 have hi:i<A.ls.length:=(bJ.1 hl).1;have hlen:(A.ls.set i (l1++m)).length=A.ls.length:=gT;have nd0:=M.nd;have agX:A.av=_:=Gl hl;have wg:(A.ls.set i (l1++m)).flatten=_:=O6 (l':=l1++m) hl;have Qt:l1=[]/\gM c l1=c.h/\mA i l1=2+3*i+2∨∃e,e∈l1/\gM c l1=e.h/\mA i l1=0:=by
  unfold gM mA;cases hg:l1.getLast? with
  |none=>exact .inl ⟨List.getLast?_eq_none_iff.1 hg,rfl,rfl⟩
  |some e=>exact .inr ⟨e,SA hg,rfl,rfl⟩
 have nd1:(l1.map El.h).Nodup:=by
  have:=(l_.1 nd0).2
  rw [agX,fh,fh,fh] at this;exact (jG.1 (jG.1 (jG.1 this).2.1).1).1
 have hm:∀e∈m,e.h≠gM c l1:=λe he e2=>by
  rcases Qt with ⟨_,h1,_⟩|⟨x,hx,h1,_⟩
  ·rw [h1] at e2;refine (l_.1 rD).1 ?_;rw [<-e2,wg];exact cL.2 ⟨e,by simp [he],rfl⟩
  ·have:=(l_.1 rD).2
   rw [wg,fh,fh,fh] at this;exact (jG.1 (jG.1 (jG.1 this).2.1).1).2.2 x.h (cL.2 ⟨x,hx,rfl⟩) e.h (cL.2 ⟨e,he,rfl⟩) (h1.symm.trans e2.symm)
 have GP:∀(j:Nat)(l:List El),j≠i->A.ls[j]? =some l->∀e∈l,e.h≠gM c l1:=λj l hj u0 e he e2=>by
  rcases Qt with ⟨_,h1,_⟩|⟨x,hx,h1,_⟩
  ·exact M.xL (Ab.mem u0 he) (e2.trans h1)
  ·have nd:=(l_.1 nd0).2;rw [agX,fh,fh] at nd;have WX:x.h∈(l1++l2).map El.h:=cL.2 ⟨x,iZ _ hx,rfl⟩;have aDA:=(bJ.1 u0).1;rcases SG hj with aE|GI
   ·have:e.h∈((A.ls.take i).flatten).map El.h:=cL.2 ⟨e,zo.2 ⟨l,dF (i:=j) (by rw [Sp aE];exact u0),he⟩,rfl⟩
    exact (jG.1 nd).2.2 _ this _ (iZ _ WX) (e2.trans h1)
   ·have:e.h∈((A.ls.drop (i+1)).flatten).map El.h:=cL.2 ⟨e,zo.2 ⟨l,dF (i:=j - (i+1)) (by rw [Bd,show i+1+(j - (i+1))=j from by omega];exact u0),he⟩,rfl⟩
    exact (jG.1 (jG.1 nd).2.1).2.2 _ WX _ this (h1.symm.trans e2.symm)
 refine ⟨?_,λj l hj=>?_,rD⟩
 ·have⟨rs,r1,r2⟩:=M.AJ;rcases Qt with ⟨e0,h1,h2⟩|⟨x,hx,h1,h2⟩
  ·rw [h1] at hv hV;rw [r1] at hv;obtain rfl:rs=ws:=by simpa using hv
   rw [h2] at hV;refine ⟨_,by rw [hV,ar rfl],⟨by rw [gT,hlen];exact r2.len,?_,?_,λj hj=>?_,λj hj=>?_,λj l hj=>?_⟩⟩
   ·rw [gu,td (by omega),<-gu];exact r2.ay
   ·rw [gu,td (by omega),<-gu];exact r2.bo
   ·rw [gu,td (by omega),<-gu];exact r2.tk j (by rw [<-hlen];exact hj)
   ·rw [gu,td (by omega),<-gu];exact r2.sv j (by rw [<-hlen];exact hj)
   ·by_cases e:j=i
    ·subst e;rw [vD hi] at hj;obtain rfl:l1++m=l:=by simpa using hj
     rw [gu,vD (by rw [r2.len];omega),e0,rQ];exact hw
    ·rw [td (x7 e)] at hj;rw [gu,td (by omega),<-gu];exact r2.hd j l hj
  ·have aW:c.h≠gM c l1:=by
    rw [h1];exact (M.xL (Ab.mem hl (iZ _ hx))).symm
   refine ⟨rs,by rw [hV,an aW];exact r1,⟨by rw [hlen];exact r2.len,r2.ay,r2.bo,λj hj=>r2.tk j (by rw [<-hlen];exact hj),λj hj=>r2.sv j (by rw [<-hlen];exact hj),λj l hj=>?_⟩⟩;by_cases e:j=i
   ·subst e;rw [vD hi] at hj;obtain rfl:l1++m=l:=by simpa using hj
    rw [r2.hd j _ hl];cases l1 with
    |nil=>simp at hx
    |cons a l1=>rfl
   ·rw [td (x7 e)] at hj;exact r2.hd j l hj
 ·by_cases e:j=i
  ·subst e;have hj:(A.ls.set j (l1++m))[j]? =some l:=hj;rw [vD hi] at hj;obtain rfl:l1++m=l:=by simpa using hj
   refine jQ.cut (c:=c) (M.link _ _ hl) nd1 (λe he=>by rw [hV,an (hm e he)]) (λe he aW=>by rw [hV,an aW]) (λaW x y z h3=>?_) Ws;rcases Qt with ⟨e0,_⟩|⟨x0,hx,h1,h2⟩
   ·exact absurd e0 aW
   ·rw [h3] at hv;obtain rfl:[x,y,z]=ws:=by simpa using hv
    rw [hV,ar rfl,h2,hw];rfl
  ·have hj:(A.ls.set i (l1++m))[j]? =some l:=hj;rw [td (x7 e)] at hj;exact (M.link j l hj).frame λx hx=>by rw [hV,an (GP j l e hj x hx)]
structure Bk (c:Lc)(cap:Int)(n:Nat)(G:Gr)(xs:List Int):Prop where
 ok:Ok G
 own:∃ws,G.S.V c.h=some ws/\ws.length=n
 len:∀h∈xs++G.q.map Wt.h,∃p q r,G.S.V h=some [p,q,r]
 perm:(G.S.bp.map bz.h).Perm (c.h::(xs++G.q.map Wt.h))
 sL:∀h∈G.S.bp.map bz.h,1<=h/\h<=G.S.made
 nd:(G.S.bp.map bz.h).Nodup
 made:0<=G.S.made/\G.S.made<2305843009213693952
 room:G.S.room+3*(xs.length+G.q.length)=cap
 yZ:0<=G.S.room
 xb:cap<=20000
 dY:G.S.dY=0
theorem Bk.AB (M:Bk c cap n G xs):(c.h::(xs++G.q.map Wt.h)).Nodup:=M.perm.nodup_iff.1 M.nd
theorem Bk.L9 (M:Bk c cap n G xs):G.q.length<10000:=by
 have:=M.room;have:=M.yZ;have:=M.xb;omega
theorem Bk.MX (M:Bk c cap n G xs):wr (G.S.made+1)=G.S.made+1:=by have:=M.made;exact o_ (by omega)
theorem Bk.fresh (M:Bk c cap n G xs):G.S.fresh:=by
 refine U9.2 λh=>?_
 have:=(M.sL _ h).2
 rw [M.MX] at this;omega
theorem Bk.xL (M:Bk c cap n G xs){h:Int}(hm:h∈xs++G.q.map Wt.h):h≠c.h:=λe=>by
 have:=M.AB
 rw [l_] at this
 exact this.1 (e▸hm)
theorem Bk.bd (M:Bk c cap n G xs){h:Int}(hm:h∈xs++G.q.map Wt.h):1<=h/\h<=G.S.made:=M.sL h (M.perm.mem_iff.2 (jh _ hm))
theorem Bk.awu (M:Bk c cap n G xs){ys:List Int}(p:xs.Perm ys):Bk c cap n G ys:=by
 refine ⟨M.ok,M.own,λh hh=>M.len h ?_,M.perm.trans ((p.append_right _).cons _),M.sL,M.nd,M.made,by rw [<-p.length_eq];exact M.room,M.yZ,M.xb,M.dY⟩;exact (p.append_right _).mem_iff.2 hh
theorem Bk.acc (M:Bk c cap n G xs){a:Int}{i:Nat}{f:Wd->Wd}{ws:List Wd}(hv:G.S.V a=some ws)(hi:i<ws.length):Bk c cap n (G.mem (G.S.acc a i true f).2) xs:=by
 have⟨e1,e2,e3,e4,e5⟩:=DD hv hi f;refine ⟨⟨⟨M.ok.ind,M.ok.nd,M.ok.ws⟩,M.ok.full⟩,?_,λh hh=>?_,?_,?_,?_,?_,?_,?_,M.xb,?_⟩
 ·have⟨us,u1,u2⟩:=M.own;show ∃ws,(G.S.acc a i true f).2.V c.h=some ws/\_;rw [e2];by_cases e:c.h=a
  ·rw [ar e];rw [e,hv] at u1;obtain rfl:ws=us:=by simpa using u1
   exact ⟨_,rfl,by rw [gT];exact u2⟩
  ·rw [an e];exact ⟨us,u1,u2⟩
 ·have⟨p,q,r,h1⟩:=M.len h hh;show ∃p q r,(G.S.acc a i true f).2.V h=some [p,q,r];rw [e2];by_cases e:h=a
  ·subst e;rw [h1] at hv;simp only [bc] at hv;subst hv;rw [ar rfl]
   match i,hi with
   |0,_=>exact ⟨_,_,_,rfl⟩
   |1,_=>exact ⟨_,_,_,rfl⟩
   |2,_=>exact ⟨_,_,_,rfl⟩
  ·rw [an e];exact ⟨p,q,r,h1⟩
 ·show ((G.S.acc a i true f).2.bp.map bz.h).Perm _;rw [TW];exact M.perm
 ·show ∀h∈(G.S.acc a i true f).2.bp.map bz.h,1<=h/\h<=(G.S.acc a i true f).2.made;rw [TW,TX];exact M.sL
 ·show ((G.S.acc a i true f).2.bp.map bz.h).Nodup;rw [TW];exact M.nd
 ·show 0<=(G.S.acc a i true f).2.made/\(G.S.acc a i true f).2.made<_;rw [TX];exact M.made
 ·show (G.S.acc a i true f).2.room+_=_;rw [e4];exact M.room
 ·show 0<=(G.S.acc a i true f).2.room;rw [e4];exact M.yZ
 ·show (G.S.acc a i true f).2.dY=0;rw [e3];exact M.dY
end
section
variable {c:Lc} {A A':Ab} {V V':View} {G:Gr} {xs P:List Int} {cap:Int} {n:Nat}
structure Mem (c:Lc)(cap:Int)(A:Ab)(P:List Int)(G:Gr):Prop where
 bk:Bk c cap (2+3*A.ls.length) G (A.av.map El.h++P)
 vw:Vw c A G.S.V
 lH:c.d3=A.ls.length/\1<=A.ls.length/\A.ls.length<=32
 made:G.S.made<=A.mb/\A.mb<2305843009213693000
theorem K4 {mb a j:Int}{may:Bool}{f:Wd->Wd}(h:G.S.made<=mb/\mb<2305843009213693000):(G.mem (G.S.acc a j may f).2).S.made<=mb/\mb<2305843009213693000:=by
 have:(G.mem (G.S.acc a j may f).2).S.made=G.S.made:=TX ..
 rw [this];exact h
theorem aic {i:Nat}(h:i<100):lk (i:Int)=((2+3*i:Nat):Int):=by
 unfold lk;rw [o_ (n:=3*(i:Int)) (by omega),o_ (by omega)];omega
theorem Wc {i:Nat}(h:i<100):hd (i:Int)=((2+3*i+2:Nat):Int):=by
 unfold hd;rw [o_ (n:=3*(i:Int)) (by omega),o_ (n:=2+3*(i:Int)) (by omega),o_ (by omega)];omega
theorem avi {i:Nat}(h:i<100):wr (lk (i:Int)+1)=((2+3*i+1:Nat):Int):=by
 rw [aic h,o_ (by omega)];omega
theorem VX {h:Int}(h1:1<=h/\h<2305843009213693952):IntKind.i64.wrap ((BitVec.ofInt 64 h).toNat:Int)=h/\BitVec.ofInt 64 h≠0:=by
 have e:((BitVec.ofInt 64 h).toNat:Int)=h:=by
  rw [SF];omega
 refine ⟨by rw [e];exact wrap_i64 (by omega),λh0=>?_⟩;rw [h0] at e;simp at e;omega
theorem Mem.alive (M:Mem c cap A P G){h:Int}(hm:h∈A.av.map El.h++P++G.q.map Wt.h):∃p q r,G.S.V h=some [p,q,r]:=M.bk.len h hm
theorem Mem.bd (M:Mem c cap A P G){h:Int}(hm:h∈A.av.map El.h++P++G.q.map Wt.h):1<=h/\h<=G.S.made/\h<2305843009213693952:=by
 have:=M.bk.bd hm;have:=M.bk.made;omega
theorem Mem.JD (M:Mem c cap A P G){e:El}(he:e∈A.av):1<=e.h/\e.h<2305843009213693952:=by
 have:=M.bd (h:=e.h) (iZ _ (iZ _ (cL.2 ⟨e,he,rfl⟩)));omega
theorem Mem.ary (M:Mem c cap A P G){i:Nat}{pre rest:List El}(hl:A.ls[i]? =some (pre++rest)) :
  IntKind.i64.wrap ((first rest).toNat:Int)=(match rest with|[]=>0|e::_=>e.h):=by
 cases rest with
 |nil=>rfl
 |cons e rest=>exact (VX (M.JD (Ab.mem hl (by simp)))).1
theorem Mem.load (M:Mem c cap A P G){a j:Int}{i:Nat}{ws:List Wd}(hv:G.S.V a=some ws)(hi:i<ws.length)(hj:j=(i:Int)) :
  (G.S.acc a j true id).1=(ws.getD i 0,true)/\Mem c cap A P (G.mem (G.S.acc a j true id).2)/\(∀h,(G.S.acc a j true id).2.V h=G.S.V h):=by
 subst hj;have⟨e1,e2,e3,e4,e5⟩:=DD hv hi id;have same:∀h,(G.S.acc a i true id).2.V h=G.S.V h:=λh=>by
  rw [e2];by_cases e:h=a
  ·subst e;rw [ar rfl,hv,gu,cM hi];simp
  ·rw [an e]
 refine ⟨e1,⟨M.bk.acc hv hi,?_,M.lH,K4 M.made⟩,same⟩
 have:(G.mem (G.S.acc a i true id).2).S.V=G.S.V:=funext same
 rw [this];exact M.vw
theorem Mem.own (M:Mem c cap A P G){j:Int}{k:Nat}{f:Wd->Wd}(hj:j=(k:Int))(hk:k<2+3*A.ls.length)(yM:A'.ls=A.ls)(hmb:A'.mb=A.mb)(hr:∀ws,IG A ws->IG A' (ws.set k (f (ws.getD k 0)))) :
  ∃ws,IG A ws/\(G.S.acc c.h j true f).1=(ws.getD k 0,true)/\Mem c cap A' P (G.mem (G.S.acc c.h j true f).2)/\(∀h,h≠c.h->(G.S.acc c.h j true f).2.V h=G.S.V h):=by
 subst hj;have⟨ws,h1,h2⟩:=M.vw.AJ;have hi:k<ws.length:=by rw [h2.len];exact hk
 have⟨e1,e2,e3,e4,e5⟩:=DD h1 hi f;refine ⟨ws,h2,e1,⟨?_,M.vw.own (A':=A') e2 (hr ws h2) yM,by rw [yM];exact M.lH,by rw [hmb];exact K4 M.made⟩,λh hh=>by rw [e2,an hh]⟩
 have:=M.bk.acc (f:=f) h1 hi
 unfold Ab.av;rw [yM];exact this
theorem mz {ws:List Wd}{k j:Nat}{w:Wd}:(ws.set k w).getD j 0=if k=j/\k<ws.length then w else ws.getD j 0:=by
 rw [gu,gu];by_cases e:k=j
 ·subst e;by_cases h:k<ws.length
  ·rw [ar ⟨rfl,h⟩,vD h];rfl
  ·rw [an (by omega),ji (by simp;omega),ji (by omega)]
 ·rw [an (by omega),td e]
theorem Mem.ay (M:Mem c cap A P G)(f:Wd->Wd):(G.S.acc c.h 0 true f).1=(A.ay,true)/\Mem c cap {A with ay:=f A.ay} P (G.mem (G.S.acc c.h 0 true f).2)/\(∀h,h≠c.h->(G.S.acc c.h 0 true f).2.V h=G.S.V h):=by
 have⟨ws,h1,h2,h3,h4⟩:=M.own (A':={A with ay:=f A.ay}) (k:=0) (j:=0) (f:=f) rfl (by omega) rfl rfl λws r=>by
  refine ⟨by rw [gT];exact r.len,?_,?_,λi hi=>?_,λi hi=>?_,λi l hl=>?_⟩
  ·rw [mz,ar ⟨rfl,by rw [r.len];omega⟩,r.ay]
  ·rw [mz,an (by omega)];exact r.bo
  ·rw [mz,an (by omega)];exact r.tk i hi
  ·rw [mz,an (by omega)];exact r.sv i hi
  ·rw [mz,an (by omega)];exact r.hd i l hl
 exact ⟨by rw [h2,h1.ay],h3,h4⟩
theorem Mem.bo (M:Mem c cap A P G)(f:Wd->Wd):(G.S.acc c.h 1 true f).1=(A.bo,true)/\Mem c cap {A with bo:=f A.bo} P (G.mem (G.S.acc c.h 1 true f).2)/\(∀h,h≠c.h->(G.S.acc c.h 1 true f).2.V h=G.S.V h):=by
 have⟨ws,h1,h2,h3,h4⟩:=M.own (A':={A with bo:=f A.bo}) (k:=1) (j:=1) (f:=f) rfl (by omega) rfl rfl λws r=>by
  refine ⟨by rw [gT];exact r.len,?_,?_,λi hi=>?_,λi hi=>?_,λi l hl=>?_⟩
  ·rw [mz,an (by omega)];exact r.ay
  ·rw [mz,ar ⟨rfl,by rw [r.len];omega⟩,r.bo]
  ·rw [mz,an (by omega)];exact r.tk i hi
  ·rw [mz,an (by omega)];exact r.sv i hi
  ·rw [mz,an (by omega)];exact r.hd i l hl
 exact ⟨by rw [h2,h1.bo],h3,h4⟩
theorem Mem.tk (M:Mem c cap A P G){i:Nat}(hi:i<A.ls.length)(f:Wd->Wd):(G.S.acc c.h (lk i) true f).1=(A.tk i,true)/\Mem c cap {A with tk:=λk=>if k=i then f (A.tk i) else A.tk k} P (G.mem (G.S.acc c.h (lk i) true f).2)/\(∀h,h≠c.h->(G.S.acc c.h (lk i) true f).2.V h=G.S.V h):=by
 have pK:=M.lH.2.2;have⟨ws,h1,h2,h3,h4⟩:=M.own (A':={A with tk:=λk=>if k=i then f (A.tk i) else A.tk k}) (k:=2+3*i) (j:=lk i) (f:=f) (aic (by omega)) (by omega) rfl rfl λws r=>by
  refine ⟨by rw [gT];exact r.len,?_,?_,λk hk=>?_,λk hk=>?_,λk l hl=>?_⟩
  ·rw [mz,an (by omega)];exact r.ay
  ·rw [mz,an (by omega)];exact r.bo
  ·show _=if k=i then f (A.tk i) else A.tk k;by_cases e:k=i
   ·subst e;rw [mz,ar ⟨rfl,by rw [r.len];omega⟩,ar rfl,r.tk k hk]
   ·rw [mz,an (by omega),an e];exact r.tk k hk
  ·rw [mz,an (by omega)];exact r.sv k hk
  ·rw [mz,an (by omega)];exact r.hd k l hl
 exact ⟨by rw [h2,h1.tk i hi],h3,h4⟩
theorem Mem.sv (M:Mem c cap A P G){i:Nat}(hi:i<A.ls.length)(f:Wd->Wd):(G.S.acc c.h (wr (lk i+1)) true f).1=(A.sv i,true)/\Mem c cap {A with sv:=λk=>if k=i then f (A.sv i) else A.sv k} P (G.mem (G.S.acc c.h (wr (lk i+1)) true f).2)/\(∀h,h≠c.h->(G.S.acc c.h (wr (lk i+1)) true f).2.V h=G.S.V h):=by
 have pK:=M.lH.2.2;have⟨ws,h1,h2,h3,h4⟩:=M.own (A':={A with sv:=λk=>if k=i then f (A.sv i) else A.sv k}) (k:=2+3*i+1) (j:=wr (lk i+1)) (f:=f) (avi (by omega)) (by omega) rfl rfl λws r=>by
  refine ⟨by rw [gT];exact r.len,?_,?_,λk hk=>?_,λk hk=>?_,λk l hl=>?_⟩
  ·rw [mz,an (by omega)];exact r.ay
  ·rw [mz,an (by omega)];exact r.bo
  ·rw [mz,an (by omega)];exact r.tk k hk
  ·show _=if k=i then f (A.sv i) else A.sv k;by_cases e:k=i
   ·subst e;rw [mz,ar ⟨rfl,by rw [r.len];omega⟩,ar rfl,r.sv k hk]
   ·rw [mz,an (by omega),an e];exact r.sv k hk
  ·rw [mz,an (by omega)];exact r.hd k l hl
 exact ⟨by rw [h2,h1.sv i hi],h3,h4⟩
theorem Mem.spot (M:Mem c cap A P G){i:Nat}{pre rest:List El}(hl:A.ls[i]? =some (pre++rest)):∃ws,G.S.V (gM c pre)=some ws/\mA i pre<ws.length/\ws.getD (mA i pre) 0=first rest:=by
 unfold gM mA;cases hg:pre.getLast? with
 |none=>
  obtain rfl:=List.getLast?_eq_none_iff.1 hg;have⟨ws,h1,h2⟩:=M.vw.AJ;have hi:=(bJ.1 hl).1;exact ⟨ws,h1,by rw [h2.len];show 2+3*i+2<_;omega,h2.hd i _ hl⟩
 |some e=>
  obtain ⟨p2,rfl⟩:=List.getLast?_eq_some_iff.1 hg
  have:=M.vw.link i _ hl
  rw [mC] at this;have⟨v,hv⟩:=jQ.aP this;exact ⟨_,hv,by simp,rfl⟩
theorem Mem.Xl (M:Mem c cap A P G){i:Nat}{pre rest:List El}(hl:A.ls[i]? =some (pre++rest)){ah ai:Int}(e1:ah=gM c pre)(e2:ai=(mA i pre:Int)) :
  (G.S.acc ah ai true id).1=(first rest,true)/\Mem c cap A P (G.mem (G.S.acc ah ai true id).2)/\(∀h,(G.S.acc ah ai true id).2.V h=G.S.V h):=by
 have⟨ws,h1,h2,h3⟩:=M.spot hl;subst e1
 have:=M.load h1 h2 e2
 rw [h3] at this;exact this
theorem Mem.elem (M:Mem c cap A P G){i:Nat}{pre rest:List El}{e:El}(hl:A.ls[i]? =some (pre++e::rest)):∃v,G.S.V e.h=some [first rest,e.k,v]:=jQ.aP (M.vw.link i _ hl)
theorem Mem.avb (M:Mem c cap A P G){i:Nat}{pre rest:List El}{e:El}(hl:A.ls[i]? =some (pre++e::rest)) :
  (G.S.acc e.h 0 true id).1=(first rest,true)/\Mem c cap A P (G.mem (G.S.acc e.h 0 true id).2)/\(∀h,(G.S.acc e.h 0 true id).2.V h=G.S.V h):=by
 have⟨v,hv⟩:=M.elem hl;exact M.load (i:=0) (j:=0) hv (by simp) rfl
theorem Mem.ah4 (M:Mem c cap A P G){i:Nat}{pre rest:List El}{e:El}(hl:A.ls[i]? =some (pre++e::rest)) :
  (G.S.acc e.h 1 true id).1=(e.k,true)/\Mem c cap A P (G.mem (G.S.acc e.h 1 true id).2)/\(∀h,(G.S.acc e.h 1 true id).2.V h=G.S.V h):=by
 have⟨v,hv⟩:=M.elem hl;exact M.load (i:=1) (j:=1) hv (by simp) rfl
def val (S:Sm)(h:Int):Wd:=((S.V h).getD []).getD 2 0
theorem Mem.Xm (M:Mem c cap A P G){h:Int}(hm:h∈A.av.map El.h++P++G.q.map Wt.h) :
  (G.S.acc h 2 true id).1=(val G.S h,true)/\Mem c cap A P (G.mem (G.S.acc h 2 true id).2)/\(∀h',(G.S.acc h 2 true id).2.V h'=G.S.V h'):=by
 have⟨p,q,r,hv⟩:=M.alive hm
 have:=M.load (i:=2) (j:=2) hv (by simp) rfl
 unfold val;rw [hv];exact this
theorem Mem.ak7 (M:Mem c cap A P G){h:Int}(hm:h∈A.av.map El.h++P++G.q.map Wt.h)(w:Wd) :
  (G.S.acc h 2 true λ_=>w).1.2=true/\Mem c cap A P (G.mem (G.S.acc h 2 true λ_=>w).2)/\(∀h',h'≠h->(G.S.acc h 2 true λ_=>w).2.V h'=G.S.V h')/\val (G.S.acc h 2 true λ_=>w).2 h=w:=by
 have⟨p,q,r,hv⟩:=M.alive hm;have⟨e1,e2,e3,e4,e5⟩:=DD (i:=2) hv (by simp) (λ_=>w);have aW:=M.bk.xL hm;refine ⟨hZ Prod.snd e1,⟨M.bk.acc (i:=2) hv (by simp),M.vw.other aW (λh' hh=>(e2 h').trans (an hh)) λe he eh x y z h3=>?_,M.lH,K4 M.made⟩,λh' hh=>(e2 h').trans (an hh),?_⟩
 ·rw [hv] at h3;obtain ⟨rfl,rfl,rfl⟩:p=x/\q=y/\r=z:=by simpa using h3
  exact ⟨w,(e2 h).trans (ar rfl)⟩
 ·unfold val;rw [show (G.S.acc h 2 true λ_=>w).2.V h=some [p,q,w] from (e2 h).trans (ar rfl)];rfl
theorem Mem.Gh (M:Mem c cap A P G){e:El}(he:e∈A.av){h:Int}(hp:h∈P):e.h≠h:=λe2=>by
 have:=(l_.1 M.bk.AB).2
 have:=(jG.1 this).1
 exact (jG.1 this).2.2 e.h (cL.2 ⟨e,he,rfl⟩) h hp e2
theorem Mem.stP (M:Mem c cap A P G){h j:Int}{i:Nat}{ws:List Wd}(hp:h∈P)(hv:G.S.V h=some ws)(hi:i<ws.length)(hj:j=(i:Int))(w:Wd) :
  (G.S.acc h j true λ_=>w).1.2=true/\Mem c cap A P (G.mem (G.S.acc h j true λ_=>w).2)/\(∀h',(G.S.acc h j true λ_=>w).2.V h'=if h'=h then some (ws.set i w) else G.S.V h'):=by
 subst hj;have⟨e1,e2,e3,e4,e5⟩:=DD hv hi (λ_=>w);have aW:=M.bk.xL (h:=h) (iZ _ (mE _ hp));exact ⟨hZ Prod.snd e1,⟨M.bk.acc hv hi,M.vw.other aW (λh' hh=>(e2 h').trans (an hh)) λe he eh=>absurd eh (M.Gh he hp),M.lH,K4 M.made⟩,e2⟩
theorem Mem.ak6 (M:Mem c cap A P G){i:Nat}{l1 l2 m:List El}{P':List Int}(hl:A.ls[i]? =some (l1++l2)){w:Wd}(hw:w=first m)(Ws:jQ G.S.V m)
  (hp:((A.ls.set i (l1++m)).flatten.map El.h++P').Perm (A.av.map El.h++P)){ah ai:Int}(e1:ah=gM c l1)(e2:ai=(mA i l1:Int)) :
  Mem c cap {A with ls:=A.ls.set i (l1++m)} P' (G.mem (G.S.acc ah ai true λ_=>w).2)/\(∀h,h≠gM c l1->(G.S.acc ah ai true λ_=>w).2.V h=G.S.V h)/\
   (∀h,h≠c.h->val (G.S.acc ah ai true λ_=>w).2 h=val G.S h/\((G.S.acc ah ai true λ_=>w).2.V h≠none->G.S.V h≠none)):=by
 have⟨ws,h1,h2,h3⟩:=M.spot hl;subst e1 e2;have⟨f1,f2,f3,f4,f5⟩:=DD h1 h2 (λ_=>w);have rD:(c.h::(A.ls.set i (l1++m)).flatten.map El.h).Nodup:=by
  have nd:=M.bk.AB
  have:(c.h::((A.ls.set i (l1++m)).flatten.map El.h++P'++G.q.map Wt.h)).Nodup:=((hp.append_right _).cons _).nodup_iff.2 nd
  rw [mC] at this;exact ((List.sublist_append_left _ _).cons_cons c.h).nodup this
 have hlen:(A.ls.set i (l1++m)).length=A.ls.length:=gT;refine ⟨⟨?_,M.vw.cut hl hw Ws rD h1 f2,by rw [show ({A with ls:=A.ls.set i (l1++m)}:Ab).ls.length=A.ls.length from hlen];exact M.lH,K4 M.made⟩,λh hh=>(f2 h).trans (an hh),λh hh=>?_⟩
 ·have:=(M.bk.acc (f:=λ_=>w) h1 h2).awu hp.symm
  rw [show ({A with ls:=A.ls.set i (l1++m)}:Ab).ls.length=A.ls.length from hlen];exact this
 ·by_cases e:h=gM c l1
  ·subst e;have pM:∃x∈l1,gM c l1=x.h/\mA i l1=0:=by
    unfold gM at hh⊢;unfold mA;cases hg:l1.getLast? with
    |none=>rw [hg] at hh;exact absurd rfl hh
    |some x=>exact ⟨x,SA hg,rfl,rfl⟩
   have⟨x,hx,WX,Qz⟩:=pM;refine ⟨?_,λ_=>by rw [h1];simp⟩;have e0:=f2 (gM c l1);rw [ar rfl,Qz] at e0;unfold val;rw [Qz];rw [e0,h1];show (ws.set 0 w).getD 2 0=ws.getD 2 0;rw [mz,an (by omega)]
  ·have e0:=(f2 h).trans (an e);exact ⟨by unfold val;rw [e0],λhn=>by rw [e0] at hn;exact hn⟩
theorem afk {i:Nat}{l l':List El}(h:A.ls[i]? =some l):((A.ls.set i l').flatten.map El.h).Perm (l'.map El.h++((A.ls.take i).flatten++(A.ls.drop (i+1)).flatten).map El.h):=by
 rw [O6 h,fh,fh,fh];exact Ir _ _ _
theorem afl {i:Nat}{l:List El}(h:A.ls[i]? =some l):(A.av.map El.h).Perm (l.map El.h++((A.ls.take i).flatten++(A.ls.drop (i+1)).flatten).map El.h):=by
 unfold Ab.av;rw [Gl h,fh,fh,fh];exact Ir _ _ _
theorem akh (a m r P:List Int)(x:Int):(a++m++r++x::P).Perm (a++x::m++r++P):=by
 have h1:(a++m++r++x::P).Perm (x::(a++m++r++P)):=pf;have h2:(a++x::m++r++P).Perm (x::(a++m++r++P)):=by
  have:=pf (a:=x) (l₁:=a) (l₂:=m++(r++P))
  simpa only [mC,rR] using this
 exact h1.trans h2.symm
theorem Mem.unlink (M:Mem c cap A P G){i:Nat}{l1 m:List El}{e:El}(hl:A.ls[i]? =some (l1++e::m)){ah ai:Int}(e1:ah=gM c l1)(e2:ai=(mA i l1:Int)) :
  Mem c cap {A with ls:=A.ls.set i (l1++m)} (e.h::P) (G.mem (G.S.acc ah ai true λ_=>first m).2)/\(∀h,h≠c.h->val (G.S.acc ah ai true λ_=>first m).2 h=val G.S h/\((G.S.acc ah ai true λ_=>first m).2.V h≠none->G.S.V h≠none)):=by
 have xk:jQ G.S.V m:=by
  have:=M.vw.link i _ hl
  exact (jQ.tail (l1:=l1) this).2
 have hp:((A.ls.set i (l1++m)).flatten.map El.h++e.h::P).Perm (A.av.map El.h++P):=by
  have x1:(l1++m).map El.h=l1.map El.h++m.map El.h:=fh;have x2:(l1++e::m).map El.h=l1.map El.h++e.h::m.map El.h:=by rw [fh];rfl
  have p1:=(afk (l':=l1++m) hl).append_right (e.h::P);have p2:=(afl hl).append_right P;rw [x1] at p1;rw [x2] at p2;exact p1.trans ((akh _ _ _ _ _).trans p2.symm)
 have⟨h1,_,h3⟩:=M.ak6 (P':=e.h::P) (m:=m) hl rfl xk hp e1 e2;exact ⟨h1,h3⟩
theorem Mem.link {h:Int}(M:Mem c cap A (h::P) G){i:Nat}{l1 m:List El}{k v:Wd}(hl:A.ls[i]? =some (l1++m))(hv:G.S.V h=some [first m,k,v]){ah ai:Int}(e1:ah=gM c l1)(e2:ai=(mA i l1:Int)) :
  Mem c cap {A with ls:=A.ls.set i (l1++⟨h,k⟩::m)} P (G.mem (G.S.acc ah ai true λ_=>BitVec.ofInt 64 h).2)/\(∀x,x≠c.h->val (G.S.acc ah ai true λ_=>BitVec.ofInt 64 h).2 x=val G.S x/\((G.S.acc ah ai true λ_=>BitVec.ofInt 64 h).2.V x≠none->G.S.V x≠none)):=by
 have xk:jQ G.S.V (⟨h,k⟩::m):=⟨⟨v,hv⟩,jQ.tail (l1:=l1) (M.vw.link i _ hl)⟩;have hp:((A.ls.set i (l1++⟨h,k⟩::m)).flatten.map El.h++P).Perm (A.av.map El.h++h::P):=by
  have x1:(l1++m).map El.h=l1.map El.h++m.map El.h:=fh;have x2:(l1++⟨h,k⟩::m).map El.h=l1.map El.h++h::m.map El.h:=by rw [fh];rfl
  have p1:=(afk (l':=l1++⟨h,k⟩::m) hl).append_right P;have p2:=(afl hl).append_right (h::P);rw [x2] at p1;rw [x1] at p2;exact p1.trans ((akh _ _ _ _ _).symm.trans p2.symm)
 have⟨h1,_,h3⟩:=M.ak6 (P':=P) (m:=⟨h,k⟩::m) hl rfl xk hp e1 e2;exact ⟨h1,h3⟩
theorem Mem.make (M:Mem c cap A P G)(b:Nat) :
  (G.S.room<3/\G.S.make b 3=((0,5),G.S))∨
  (3<=G.S.room/\(G.S.make b 3).1=(G.S.made+1,0)/\(A.mb+1<2305843009213693000->Mem c cap {A with mb:=A.mb+1} ((G.S.made+1)::P) (G.mem (G.S.make b 3).2))/\(G.S.make b 3).2.V (G.S.made+1)=some [0,0,0]/\
   (∀h,h≠G.S.made+1->(G.S.make b 3).2.V h=G.S.V h)/\(G.S.make b 3).2.made=G.S.made+1):=by
 by_cases hr:G.S.room<3
 ·left;refine ⟨hr,?_⟩;unfold Sm.make;rw [an (by omega),ar hr]
 ·right;have B:=M.bk;have e:G.S.make b 3=((wr (G.S.made+1),0),G.S.mk' b 3):=by
   unfold Sm.make;rw [an (by omega),an hr];rfl
  have hv:=TV b 3 B.fresh;rw [B.MX] at hv;rw [e];have OU:(G.S.mk' b 3).made=G.S.made+1:=B.MX;have D2:(G.S.mk' b 3).room=G.S.room - 3:=by
   show wr (G.S.room - ((3:Nat):Int))=_
   have:=B.room;have:=B.yZ;have:=B.xb
   rw [o_ (by omega)];rfl
  have UX:(G.S.mk' b 3).bp.map bz.h=G.S.bp.map bz.h++[G.S.made+1]:=by
   show (G.S.bp++[_]).map bz.h=_;rw [fh];show _++[wr (G.S.made+1)]=_;rw [B.MX]
  have aW:∀h∈G.S.bp.map bz.h,h≠G.S.made+1:=λh hh e=>by have:=(B.sL h hh).2;omega
  have hold:∀h∈c.h::(A.av.map El.h++P++G.q.map Wt.h),h≠G.S.made+1:=λh hh=>aW h (B.perm.mem_iff.2 hh)
  have nq:c.h≠G.S.made+1:=hold _ (aaB ..);refine ⟨by omega,by rw [B.MX],λhm=>⟨⟨⟨⟨B.ok.ind,B.ok.nd,B.ok.ws⟩,B.ok.full⟩,?_,?_,?_,?_,?_,?_,?_,?_,B.xb,B.dY⟩,?_,M.lH,⟨show (G.S.mk' b 3).made<=A.mb+1 by rw [OU];have:=M.made;omega,hm⟩⟩,?_,λh hh=>?_,OU⟩
  ·have⟨ws,w1,w2⟩:=B.own;exact ⟨ws,by show (G.S.mk' b 3).V c.h=_;rw [hv,an nq];exact w1,w2⟩
  ·intro h hh;show ∃p q r,(G.S.mk' b 3).V h=_;by_cases e:h=G.S.made+1
   ·rw [hv,ar e];exact ⟨0,0,0,rfl⟩
   ·rw [hv,an e];refine B.len h ?_;simp only [dV,dU] at hh⊢;rcases hh with (hh|hh|hh)|hh
    ·exact .inl (.inl hh)
    ·exact absurd hh e
    ·exact .inl (.inr hh)
    ·exact .inr hh
  ·show ((G.S.mk' b 3).bp.map bz.h).Perm _;rw [UX];refine (FC.trans ((B.perm.cons (G.S.made+1)).trans ?_));show ((G.S.made+1)::c.h::_).Perm _;refine (List.Perm.swap _ _ _).trans (List.Perm.cons _ ?_);simp only [mC,rR];exact pf.symm
  ·show ∀h∈(G.S.mk' b 3).bp.map bz.h,1<=h/\h<=(G.S.mk' b 3).made;rw [UX,OU];intro h hh
   have:=B.made
   rcases dV.1 hh with hh|hh
   ·have:=B.sL h hh;omega
   ·simp only [fo] at hh;omega
  ·show ((G.S.mk' b 3).bp.map bz.h).Nodup;rw [UX];exact jG.2 ⟨B.nd,by simp,λa ha b hb e=>by simp only [fo] at hb;exact aW a ha (e.trans hb)⟩
  ·show 0<=(G.S.mk' b 3).made/\(G.S.mk' b 3).made<_;rw [OU];have:=B.made;have:=M.made;omega
  ·show (G.S.mk' b 3).room+_=cap;rw [D2]
   have:=B.room
   simp only [e_,gU] at this⊢;show G.S.room - 3+3*((((A.av.map El.h).length+(P.length+1):Nat):Int)+G.q.length)=cap;omega
  ·show 0<=(G.S.mk' b 3).room;rw [D2];omega
  ·refine ⟨?_,λi l hl=>(M.vw.link i l hl).frame λe he=>?_,M.vw.nd⟩
   ·have⟨ws,w1,w2⟩:=M.vw.AJ;exact ⟨ws,by show (G.S.mk' b 3).V c.h=_;rw [hv,an nq];exact w1,⟨w2.len,w2.ay,w2.bo,w2.tk,w2.sv,w2.hd⟩⟩
   ·show (G.S.mk' b 3).V e.h=_;rw [hv,an (hold _ (jh _ (iZ _ (iZ _ (cL.2 ⟨e,Ab.mem hl he,rfl⟩)))))]
  ·rw [hv,ar rfl];rfl
  ·show (G.S.mk' b 3).V h=_;rw [hv,an hh]
theorem II {S:Sm}{a:Int}:S.V a≠none↔a∈S.bp.map bz.h:=by
 unfold Sm.V;rw [ne_eq,Option.map_eq_none_iff];exact ⟨λh=>rT λk=>h (U9.2 k),λh k=>U9.1 k h⟩
theorem ax1 {G1:Gr}(p:FP G1)(own:∃ws,G1.S.V c.h=some ws/\ws.length=n)(len:∀h∈xs++G1.q.map Wt.h,∃p q r,G1.S.V h=some [p,q,r])
  (perm:(G1.S.bp.map bz.h).Perm (c.h::(xs++G1.q.map Wt.h)))(sL:∀h∈G1.S.bp.map bz.h,1<=h/\h<=G1.S.made)(nd:(G1.S.bp.map bz.h).Nodup)
  (made:0<=G1.S.made/\G1.S.made<2305843009213693952)(room:G1.S.room+3*(xs.length+G1.q.length)=cap)(yZ:0<=G1.S.room)(xb:cap<=20000)(dY:G1.S.dY=0) :
  Bk c cap n G1.nH xs/\(∀h,G1.nH.S.V h≠none->G1.nH.S.V h=G1.S.V h)/\∀h∈c.h::xs,G1.nH.S.V h=G1.S.V h:=by
 have AB:=perm.nodup_iff.1 nd;have hV:∀h,G1.nH.S.V h=if h∈gone G1.q then none else G1.S.V h:=λh=>aa_ (gone G1.q) G1.S h
 have hgq:∀h∈gone G1.q,h∈G1.q.map Wt.h:=λh hh=>afJ hh
 have Qk:∀h,h∈c.h::xs->h∉gone G1.q:=λh hh hg=>by
  rw [<-rR] at AB;exact (jG.1 AB).2.2 h hh h (hgq h hg) rfl
 have keys:G1.nH.S.bp.map bz.h=(G1.S.bp.map bz.h).filter λh=> !(gone G1.q).contains h:=Vg _ _
 have Ku:=W6 G1.q;have h3:∀h∈gone G1.q,G1.S.size h=3:=λh hh=>by
  have⟨a,b,d,hv⟩:=len h (mE _ (hgq h hh));rw [Zk hv];rfl
 have lB:G1.nH.S.room=G1.S.room+3*(gone G1.q).length:=afx (gone G1.q) G1.S (arY p.nd) h3 yZ (by omega);refine ⟨⟨p.nH,?_,?_,?_,?_,?_,?_,?_,?_,xb,?_⟩,λh hn=>?_,λh hh=>by rw [hV,an (Qk h hh)]⟩
 ·rw [hV,an (Qk _ (aaB ..))];exact own
 ·intro h hh;rcases dV.1 hh with hh|hh
  ·rw [hV,an (Qk _ (jh _ hh))];exact len h (iZ _ hh)
  ·rw [hV,an (λhg=>afI p.nd hg hh)];exact len h (mE _ (auQ hh))
 ·rw [keys];refine (perm.filter _).trans ?_;rw [<-rR,Fy,afe p.nd]
  have:(c.h::xs).filter (λh=> !(gone G1.q).contains h)=c.h::xs:=Dg.2 λh hh=>by
   have:=Qk h hh
   simpa using this
  rw [this];exact Ih _
 ·rw [keys];intro h hh
  have:=sL h (wL.1 hh).1
  show 1<=h/\h<=(jH G1.S (gone G1.q)).made;rw [JK];exact this
 ·rw [keys];exact nd.filter _
 ·show 0<=(jH G1.S (gone G1.q)).made/\(jH G1.S (gone G1.q)).made<_;rw [JK];exact made
 ·rw [lB];show G1.S.room+3*((gone G1.q).length:Int)+3*((xs.length:Int)+(kept G1.q).length)=cap;omega
 ·rw [lB];omega
 ·show (jH G1.S (gone G1.q)).dY=0;rw [Vf];exact dY
 ·rw [hV] at hn⊢;by_cases hg:h∈gone G1.q
  ·rw [ar hg] at hn;exact absurd rfl hn
  ·rw [an hg]
theorem Mem.defer {h:Int}(M:Mem c cap A (h::P) G)(b:Nat) :
  Mem c cap A P (G.defer h b).2/\(∀a,(G.defer h b).2.S.V a≠none->(G.defer h b).2.S.V a=G.S.V a)/\(∀a∈c.h::(A.av.map El.h++P),(G.defer h b).2.S.V a=G.S.V a)/\(G.defer h b).2.ins=G.ins/\(G.defer h b).2.q=kept (G.q++[⟨h,b,G.ins⟩])/\(G.defer h b).2.S.made=G.S.made:=by
 have B:=M.bk;have⟨p1,p2,p3,hv⟩:=B.len h (by simp);have hs:G.S.size h≠0:=by rw [Zk hv];simp
 have nd:=(l_.1 B.AB).2;have hq:h∉G.q.map Wt.h:=λhh=>(jG.1 nd).2.2 h (mE _ (by simp)) h hh rfl
 have e:G.defer h b=(gone (G.add h b).q,(G.add h b).nH):=an (by simp only [not_or];exact ⟨hs,hq⟩);rw [e];have hm:(G.add h b).q.map Wt.h=G.q.map Wt.h++[h]:=by show (G.q++[_]).map Wt.h=_;rw [fh];rfl
 have hlen:((G.add h b).q.length:Int)=G.q.length+1:=by show ((G.q++[_]).length:Int)=_;simp
 have⟨B',f1,f2⟩:=ax1 (c:=c) (cap:=cap) (xs:=A.av.map El.h++P) (n:=2+3*A.ls.length) (B.ok.add (mb:=b) h hq) B.own (λa ha=>B.len a (by
   rw [hm] at ha;simp only [dV,dU,Ib,Db] at ha⊢;rcases ha with (ha|ha)|ha|ha
   ·exact .inl (.inl ha)
   ·exact .inl (.inr (.inr ha))
   ·exact .inr ha
   ·exact .inl (.inr (.inl ha)))) (B.perm.trans (by
   rw [hm];refine List.Perm.cons _ ?_;simp only [mC,rR];refine List.Perm.append_left _ ?_
   have:(P++(G.q.map Wt.h++[h]))=(P++G.q.map Wt.h)++[h]:=by simp
   rw [this];exact (FC (l₁:=[h]) (l₂:=P++G.q.map Wt.h))))
  B.sL B.nd B.made (by
   have:=B.room
   rw [hlen];simp only [e_,gU] at this⊢;show G.S.room+_=cap;omega) B.yZ B.xb B.dY
 refine ⟨⟨B',?_,M.lH,by show (jH G.S (gone (G.add h b).q)).made<=A.mb/\_;rw [JK];exact M.made⟩,f1,f2,rfl,rfl,JK _ _⟩;have⟨ws,w1,w2⟩:=M.vw.AJ;refine ⟨⟨ws,(f2 c.h (aaB ..)).trans w1,w2⟩,λi l hl=>(M.vw.link i l hl).frame λe he=>f2 e.h (jh _ (iZ _ (cL.2 ⟨e,Ab.mem hl he,rfl⟩))),M.vw.nd⟩
theorem Mem.free {h:Int}(M:Mem c cap A (h::P) G):Mem c cap A P (G.mem (G.S.free h).2)/\∀a,a≠h->(G.S.free h).2.V a=G.S.V a:=by
 have B:=M.bk;have⟨p1,p2,p3,hv⟩:=B.len h (by simp);have hV:∀a,(G.S.free h).2.V a=if a=h then none else G.S.V a:=NW G.S h;have nd:=B.AB;have rD:=(l_.1 nd).2;rw [mC] at rD;have nZ:h∉A.av.map El.h++P++G.q.map Wt.h:=λhh=>by
  have p:(A.av.map El.h++(h::P++G.q.map Wt.h)).Perm (h::(A.av.map El.h++P++G.q.map Wt.h)):=by
   rw [mC,rR];exact pf
  exact (l_.1 (p.nodup_iff.1 rD)).1 hh
 have nq:c.h≠h:=(B.xL (h:=h) (by simp)).symm;have keys:(G.S.free h).2.bp.map bz.h=(G.S.bp.map bz.h).filter λx=>x !=h:=by
  unfold Sm.free;simp only [List.filter_map];rfl
 have D2:(G.S.free h).2.room=G.S.room+3:=by
  show wr (G.S.room+G.S.size h)=_
  have:=B.room;have:=B.yZ;have:=B.xb
  rw [Zk hv,o_ (by simp;omega)];rfl
 refine ⟨⟨⟨⟨⟨B.ok.ind,B.ok.nd,B.ok.ws⟩,B.ok.full⟩,?_,λa ha=>?_,?_,?_,?_,B.made,?_,?_,B.xb,B.dY⟩,?_,M.lH,M.made⟩,λa ha=>by rw [hV,an ha]⟩
 ·have⟨ws,w1,w2⟩:=B.own;exact ⟨ws,by show (G.S.free h).2.V c.h=_;rw [hV,an nq];exact w1,w2⟩
 ·have aW:a≠h:=λe=>nZ (e▸ha)
  show ∃p q r,(G.S.free h).2.V a=_;rw [hV,an aW];refine B.len a ?_;simp only [dV,dU] at ha⊢;rcases ha with (ha|ha)|ha
  ·exact .inl (.inl ha)
  ·exact .inl (.inr (.inr ha))
  ·exact .inr ha
 ·show ((G.S.free h).2.bp.map bz.h).Perm _;rw [keys];refine (B.perm.filter _).trans ?_;have p:(c.h::(A.av.map El.h++h::P++G.q.map Wt.h)).Perm (h::c.h::(A.av.map El.h++P++G.q.map Wt.h)):=by
   refine (List.Perm.cons c.h ?_).trans (List.Perm.swap _ _ _);rw [mC,mC,rR];exact pf
  refine (p.filter _).trans ?_;rw [List.filter_cons_of_neg (by simp)]
  have:(c.h::(A.av.map El.h++P++G.q.map Wt.h)).filter (λx=>x !=h)=c.h::(A.av.map El.h++P++G.q.map Wt.h):=Dg.2 λx hx=>by
   rcases dU.1 hx with hx|hx
   ·rw [hx];simpa using nq
   ·have:x≠h:=λe=>nZ (e▸hx)
    simpa using this
  rw [this]
 ·show ∀x∈(G.S.free h).2.bp.map bz.h,_;rw [keys];intro x hx;exact B.sL x (wL.1 hx).1
 ·show ((G.S.free h).2.bp.map bz.h).Nodup;rw [keys];exact B.nd.filter _
 ·show (G.S.free h).2.room+_=cap;rw [D2]
  have:=B.room
  simp only [e_,gU] at this⊢;show G.S.room+3+3*(((_+_:Nat):Int)+G.q.length)=cap;omega
 ·show 0<=(G.S.free h).2.room;rw [D2];have:=B.yZ;omega
 ·have⟨ws,w1,w2⟩:=M.vw.AJ;refine ⟨⟨ws,by show (G.S.free h).2.V c.h=_;rw [hV,an nq];exact w1,w2⟩,λi l hl=>(M.vw.link i l hl).frame λe he=>?_,M.vw.nd⟩;show (G.S.free h).2.V e.h=_;rw [hV,an (M.Gh (Ab.mem hl he) (by simp))]
end
section
variable {c:Lc} {A A':Ab} {G:Gr} {P:List Int} {cap:Int} {q:Qr} {i:Nat} {pre rest:List El} {e:El} {b:Bs}
structure In (c:Lc)(A:Ab)(i:Nat)(q:Qr)(pre rest:List El):Prop where
 room:q.room=i
 ls:A.ls[i]? =some (pre++rest)
 ah:q.ah=gM c pre
 ai:q.ai=mA i pre
theorem In.lt (h:In c A i q pre rest):i<A.ls.length:=(bJ.1 h.ls).1
theorem In.same {q':Qr}(h:In c A i q pre rest)(e1:q'.room=q.room)(e2:q'.ah=q.ah)(e3:q'.ai=q.ai):In c A i q' pre rest:=⟨e1.trans h.room,h.ls,e2.trans h.ah,e3.trans h.ai⟩
theorem In.el (h:In c A i q pre (e::rest)):e∈A.av:=Ab.mem h.ls (by simp)
theorem In.on {q':Qr}(h:In c A i q pre (e::rest))(e1:q'.room=q.room)(e2:q'.ah=e.h)(e3:q'.ai=0):In c A i q' (pre++[e]) rest:=by
 refine ⟨e1.trans h.room,by rw [mC];exact h.ls,?_,?_⟩
 ·rw [e2];unfold gM;rw [aau]
 ·rw [e3];unfold mA;rw [aau];rfl
theorem Mem.OT (M:Mem c cap A P G)(he:e∈A.av):e.h∈A.av.map El.h++P++G.q.map Wt.h:=iZ _ (iZ _ (cL.2 ⟨e,he,rfl⟩))
theorem RI (M:Mem c cap A P G)(I:In c A i q pre rest)(k:Wd)(bh:Bool)(cb:Cb):BQ q G.S k bh cb=(q.di (first rest) k bh cb,(G.S.acc q.ah q.ai true id).2)/\Mem c cap A P (G.mem (G.S.acc q.ah q.ai true id).2)/\
  q.di (first rest) k bh cb=(match rest with|[]=>({q with cur:=0}.to (.ask k bh cb)).cb cb false|e::_=>{q with cur:=e.h}.to (.ask k bh cb)):=by
 have⟨h1,h2,h3⟩:=M.Xl I.ls I.ah I.ai;refine ⟨by unfold BQ;rw [h1],h2,?_⟩;unfold Qr.di;rw [M.ary I.ls];cases rest with
 |nil=>rfl
 |cons e r=>
  have:=M.JD I.el
  show (if e.h=0 then _ else _)=_;rw [an (by omega)]
theorem axn (M:Mem c cap A P G)(I:In c A i q pre rest)(k:Wd)(bh:Bool)(cb:Cb):cd c (.load k bh cb) q G b=(q.di (first rest) k bh cb,G.mem (G.S.acc q.ah q.ai true id).2):=by
 show ((BQ q G.S k bh cb).1,G.mem (BQ q G.S k bh cb).2)=_;rw [(RI M I k bh cb).1]
theorem In.head {q':Qr}{l:List El}(hl:A.ls[i]? =some l)(h1:q'.room=i)(h2:q'.ah=c.h)(h3:q'.ai=hd i)(hi:i<100):In c A i q' [] l:=⟨h1,hl,h2,h3.trans (Wc hi)⟩
theorem axt (M:Mem c cap A P G){l:List El}(hl:A.ls[i]? =some l)(hr:q.room=i)(k:Th) :
  ∃G',cd c (.th k) q G b=(({q with ah:=c.h,ai:=hd q.room}.to (.load (k.key q).1 (k.key q).2.1 (k.key q).2.2)).di (first l) (k.key q).1 (k.key q).2.1 (k.key q).2.2,G')/\Mem c cap A P G':=by
 have pK:=M.lH.2.2;have hi:=(bJ.1 hl).1;have I:In c A i ({q with ah:=c.h,ai:=hd q.room}.to (.load (k.key q).1 (k.key q).2.1 (k.key q).2.2)) [] l:=In.head hl hr rfl (by show hd q.room=hd i;rw [hr]) (by omega);have⟨h1,h2,_⟩:=RI M I (k.key q).1 (k.key q).2.1 (k.key q).2.2;refine ⟨_,?_,h2⟩;show ((vS c k q G.S).1,G.mem (vS c k q G.S).2)=_;unfold vS;rw [h1]
theorem axg (M:Mem c cap A P G)(I:In c A i q pre (e::rest))(hc:q.cur=e.h)(k:Wd)(bh:Bool)(cb:Cb):cd c (.ask k bh cb) q G b=(q.asked e.k k bh cb,G.mem (G.S.acc q.cur 1 true id).2)/\Mem c cap A P (G.mem (G.S.acc q.cur 1 true id).2):=by
 have⟨h1,h2,h3⟩:=M.ah4 I.ls;rw [hc];refine ⟨?_,h2⟩;show (q.asked (G.S.acc q.cur 1 true id).1.1 k bh cb,G.mem (G.S.acc q.cur 1 true id).2)=_;rw [hc,h1]
theorem axo (M:Mem c cap A P G)(he:e∈A.av)(hc:q.cur=e.h):∃G',cd c .look q G b=((q.dH 0 [val G.S e.h] 0 (q.elem c (val G.S e.h))).to .leave,G')/\Mem c cap A P G':=by
 have⟨h1,h2,h3⟩:=M.Xm (M.OT he);refine ⟨G.mem (G.S.acc q.cur 2 true id).2,?_,by rw [hc];exact h2⟩;show ((q.dH 0 [(G.S.acc q.cur 2 true id).1.1] 0 (q.elem c (G.S.acc q.cur 2 true id).1.1)).to .leave,_)=_;rw [hc,h1]
theorem akQ (M:Mem c cap A P G)(f:Fb):∃G',cd c (.change f) q G b=(q.to (.after f),G')/\Mem c cap {A with bo:=A.bo+1} P G':=by
 have⟨h1,h2,h3⟩:=M.bo (ic 1);rw [BE] at h2;exact ⟨_,rfl,h2⟩
theorem axj (M:Mem c cap A P G):∃G',cd c .drop q G b=(q.to (.after .drop),G')/\Mem c cap {A with bo:=A.bo+1} P G':=by
 have⟨h1,h2,h3⟩:=M.bo (ic 1);rw [BE] at h2;exact ⟨_,rfl,h2⟩
theorem axs (M:Mem c cap A P G):∃G',cd c .take q G b=(q.to (.change (.take .gZ)),G')/\Mem c cap {A with ay:=A.ay+tick} P G':=by
 have⟨h1,h2,h3⟩:=M.ay (ic tick);rw [BE] at h2;exact ⟨_,rfl,h2⟩
theorem axp (M:Mem c cap A P G)(a:Aw):∃G',cd c (.off a) q G b=(q.to (.gp a),G')/\Mem c cap {A with ay:=A.ay+zg} P G':=by
 have⟨h1,h2,h3⟩:=M.ay (ic zg);rw [BE] at h2;exact ⟨_,rfl,h2⟩
theorem axe (M:Mem c cap A P G):∃G',cd c (.after .drop) q G b=((q.dH 0 [] 0 0).to (.gp .gZ),G')/\Mem c cap {A with ay:=lz 0 bD bD A.ay} P G':=by
 have⟨h1,h2,h3⟩:=M.ay (lz 0 bD bD);exact ⟨_,rfl,h2⟩
theorem axf (M:Mem c cap A P G)(he:e∈A.av)(hc:q.cur=e.h)(a:Aw):∃G',cd c (.after (.take a)) q G b=((q.dH 0 [val G.S e.h] 0 0).to (.off a),G')/\Mem c cap A P G':=by
 have⟨h1,h2,h3⟩:=M.Xm (M.OT he);refine ⟨G.mem (G.S.acc q.cur 2 true id).2,?_,by rw [hc];exact h2⟩;show ((q.dH 0 [(G.S.acc q.cur 2 true id).1.1] 0 0).to (.off a),G.mem (G.S.acc q.cur 2 true id).2)=_;rw [hc,h1]
theorem axd (M:Mem c cap A P G):∃G',Mem c cap {A with ay:=jd bD q.bg (q.bg+1) A.ay} P G'/\
  cd c (.after .add) q G b=(if A.ay&&&bD=q.bg then (q.dH 0 [] 0 0).to .link else q.to .space,G')/\G'.S.V=λh=>if h=c.h then G'.S.V c.h else G.S.V h:=by
 have⟨h1,h2,h3⟩:=M.ay (jd bD q.bg (q.bg+1));refine ⟨_,h2,?_,funext λh=>?_⟩
 ·show ((kR c .add q G.S).1,G.mem (kR c .add q G.S).2)=_;unfold kR;simp only [h1];split<;>rfl
 ·split
  ·rename_i e;subst e;rfl
  ·rename_i e;exact h3 h e
theorem axu (M:Mem c cap A P G)(I:In c A i q pre (e::rest))(hc:q.cur=e.h)(a:Aw):∃G',cd c (.gp a) q G b=(q.to (.iD (first rest) a),G')/\Mem c cap A P G':=by
 have⟨h1,h2,h3⟩:=M.avb I.ls;refine ⟨G.mem (G.S.acc q.cur 0 true id).2,?_,by rw [hc];exact h2⟩;show (q.to (.iD (G.S.acc q.cur 0 true id).1.1 a),_)=_;rw [hc,h1]
theorem axm (M:Mem c cap A P G)(hr:q.room=i)(hi:i<A.ls.length):∃G',cd c .leave q G b=({q with dn:=true},G')/\Mem c cap {A with sv:=λk=>if k=i then A.sv i+1 else A.sv k} P G':=by
 have⟨h1,h2,h3⟩:=M.sv hi (ic 1);rw [BE] at h2;refine ⟨G.mem (pF c q G.S),rfl,?_⟩;unfold pF;rw [hr];exact h2
theorem axk (M:Mem c cap A P G)(hr:q.room=i)(hi:i<A.ls.length)(room:Int):∃G',cd c (.free room) q G b=(q.search c (wr (room+1)) false b.1,G')/\Mem c cap {A with sv:=λk=>if k=i then A.sv i+1 else A.sv k} P G':=by
 have⟨h1,h2,h3⟩:=M.sv hi (ic 1);rw [BE] at h2;refine ⟨G.mem (pF c q G.S),rfl,?_⟩;unfold pF;rw [hr];exact h2
theorem axl (M:Mem c cap A P G)(hr:q.room=i)(hi:i<A.ls.length):∃G',cd c .mn q G b=(q.to .begin,G')/\Mem c cap {A with sv:=λk=>if k=i then A.sv i+1 else A.sv k} P G':=by
 have⟨h1,h2,h3⟩:=M.sv hi (ic 1);rw [BE] at h2;refine ⟨G.mem (pF c q G.S),rfl,?_⟩;unfold pF;rw [hr];exact h2
theorem axh (M:Mem c cap A P G):∃G',cd c .begin q G b=({q with bg:=A.bo}.search c (if q.fl=1 then 0 else bZ q.ky c.d3) (decide (q.fl≠1)) b.1,G')/\Mem c cap A P G':=by
 have⟨h1,h2,h3⟩:=M.bo id;refine ⟨G.mem (G.S.acc c.h 1 true id).2,?_,h2⟩;show (Qr.search c {q with bg:=(G.S.acc c.h 1 true id).1.1} _ _ _,_)=_;rw [h1]
theorem ak_ (M:Mem c cap A P G):(q.still c G.S).1=decide (A.bo=q.bg)/\Mem c cap A P (G.mem (q.still c G.S).2):=by
 have⟨h1,h2,h3⟩:=M.bo id;unfold Qr.still;exact ⟨by rw [h1],h2⟩
theorem axr (M:Mem c cap A P G):∃G',cd c .k9 q G b=(if A.bo=q.bg then {q.dH 2 [] 0 0 with dn:=true} else q.to .begin,G')/\Mem c cap A P G':=by
 have⟨h1,h2⟩:=ak_ (q:=q) M;refine ⟨_,?_,h2⟩;show (if (q.still c G.S).1 then _ else _,_)=_;rw [h1];by_cases e:A.bo=q.bg
 ·rw [ar e,ar (x8 e)]
 ·rw [an e,an (by simpa using e)]
theorem axq (M:Mem c cap A P G):∃G',cd c .kZ q G b=(if A.bo=q.bg then (q.dH 0 [] q.key 0).to .leave else q.to .mn,G')/\Mem c cap A P G':=by
 have⟨h1,h2⟩:=ak_ (q:=q) M;refine ⟨_,?_,h2⟩;show (if (q.still c G.S).1 then _ else _,_)=_;rw [h1];by_cases e:A.bo=q.bg
 ·rw [ar e,ar (x8 e)]
 ·rw [an e,an (by simpa using e)]
theorem axi (M:Mem c cap A P G){t:Tk}{k:Th}(hi:i<A.ls.length)(ht:t.i=lk i)(hp:t.ph=0):∃G',cd c (.enter t k) q G b=(q.to (.enter {t with t:=A.tk i,ph:=1} k),G')/\Mem c cap {A with tk:=λk=>if k=i then A.tk i+1 else A.tk k} P G':=by
 have⟨h1,h2,h3⟩:=M.tk hi (ic 1);rw [BE] at h2;have et:t.step c G.S=(false,{t with t:=A.tk i,ph:=1},(G.S.acc c.h (lk i) true (ic 1)).2):=by
  unfold Tk.step;rw [ar hp,ht];simp only [h1,pc]
 refine ⟨_,?_,h2⟩;show (q.to (if (t.step c G.S).1 then .th k else .enter (t.step c G.S).2.1 k),G.mem (t.step c G.S).2.2)=_;rw [et];rfl
theorem axv (M:Mem c cap A P G){t:Tk}{k:Th}(hi:i<A.ls.length)(ht:t.i=lk i)(hp:t.ph=1):∃G',cd c (.enter t k) q G b=(q.to (if A.sv i=t.t then .th k else .enter t k),G')/\Mem c cap A P G':=by
 have⟨h1,h2,h3⟩:=M.sv hi id;have h2:Mem c cap A P (G.mem (G.S.acc c.h (wr (lk i+1)) true id).2):=by
  have e:({A with sv:=λk=>if k=i then id (A.sv i) else A.sv k}:Ab)=A:=by
   have:(λk=>if k=i then id (A.sv i) else A.sv k)=A.sv:=by
    funext k;split
    ·rename_i e;rw [e];rfl
    ·rfl
   rw [this]
  rw [e] at h2;exact h2
 have et:t.step c G.S=(if A.sv i=t.t then (true,{t with ph:=2},(G.S.acc c.h (wr (lk i+1)) true id).2) else (false,t,(G.S.acc c.h (wr (lk i+1)) true id).2)):=by
  unfold Tk.step;rw [an (show ¬t.ph=0 by omega),ar hp,ht,h1];by_cases e:A.sv i=t.t
  ·rw [ar ⟨rfl,e⟩,ar e,<-ht]
  ·rw [an (λh=>e h.2),an e]
 refine ⟨_,?_,h2⟩;show (q.to (if (t.step c G.S).1 then .th k else .enter (t.step c G.S).2.1 k),G.mem (t.step c G.S).2.2)=_;rw [et];by_cases e:A.sv i=t.t
 ·rw [ar e,ar e];rfl
 ·rw [an e,an e];rfl
theorem axw {h:Int}{gw bw n:Nat}{all ws:List Wd}(M:Mem c cap A (h::P) G)(hv:G.S.V h=some ws)(hl:ws.length=3)(hn:1<=n/\n<=3) :
  ∃G',cd c (.words gw bw h all n) q G b=(q.to (if n=1 then .change .add else .words gw bw h all (n - 1)),G')/\Mem c cap A (h::P) G'/\G'.S.V h=some (ws.set (n - 1) (all.getD (n - 1) 0)):=by
 have⟨h1,h2,h3⟩:=M.stP (h:=h) (by simp) hv (i:=n - 1) (j:=((n - 1:Nat):Int)) (by omega) rfl (all.getD (n - 1) 0);refine ⟨_,rfl,h2,?_⟩;show (G.S.acc h ((n - 1:Nat):Int) true λ_=>all.getD (n - 1) 0).2.V h=_;rw [h3,ar rfl]
end
section
variable {c:Lc} {A A':Ab} {G:Gr} {cap:Int} {q:Qr} {i:Nat} {pre rest:List El} {e:El} {b:Bs} {P:Qr->Gr->Prop} {n m:Nat} {mx:Int}
theorem In.to {q':Qr}(h:In c A i q pre rest)(e0:A'.ls=A.ls)(e1:q'.room=q.room)(e2:q'.ah=q.ah)(e3:q'.ai=q.ai):In c A' i q' pre rest:=⟨e1.trans h.room,by rw [e0];exact h.ls,e2.trans h.ah,e3.trans h.ai⟩
structure Idle (c:Lc)(cap mx:Int)(A:Ab)(G:Gr):Prop where
 mem:Mem c cap A [] G
 lock:∀j,j<A.ls.length->A.tk j=A.sv j
 ay:A.ay=BitVec.ofNat 64 A.ls.flatten.length
 le:(A.ls.flatten.length:Int)<=c.d1
 d1:1<=c.d1/\c.d1<=64
 mx:A.mb<=mx
theorem ape (w:Wd):(w&&&bD).toNat=w.toNat % 4294967296:=by
 rw [BitVec.toNat_and];show w.toNat&&&(2 ^ 32 - 1)=_;rw [Nat.and_two_pow_sub_one_eq_mod]
end
section
variable {c:Lc} {A:Ab} {G:Gr} {q:Qr} {i:Nat} {e:El} {b:Bs} {P:Qr->Gr->Prop} {n m k:Nat} {h:Int}
def UG:List El->Int
 |[]=>0
 |e::_=>e.h
end
section
variable {c:Lc} {A:Ab} {G:Gr} {q:Qr} {i:Nat} {e:El} {P:Qr->Gr->Prop} {n m k:Nat} {h:Int}
abbrev drawn (A:Ab)(i:Nat):Ab:={A with tk:=λk=>if k=i then A.tk i+1 else A.tk k}
abbrev Gp (A:Ab)(i:Nat):Ab:={A with sv:=λk=>if k=i then A.sv i+1 else A.sv k}
theorem adY {k:Wd}{n:Int}(h:1<=n):0<=bZ k n/\bZ k n<n:=by
 unfold bZ;rw [an (by omega)];exact ⟨Np _ (by omega),Int.emod_lt_of_pos _ (by omega)⟩
end
section
variable {H H':aa} {R:Value->aa->Prop} {L:List ax} {m:Nat} {S:Sm} {c:Lc} {q:Qr} {X:Gx}
theorem avX {n:Int}(hs:Sep H (mem m S::L))(hR:∀H' g mi,tw H' g m ⟨n,mi,[],[],S⟩ L->R (P g) H'):CA en F.Vq [I n,P m] H R:=by
 apply aAD;refine auA (ik:=.i64) hs λmi H2 h2=>Sep.nw h2 λg H4 h4=>hR H4 g mi ⟨none,[],λ_=>rfl,λ_=>rfl,?_⟩
 have h5:Sep H4 (wm []::bx g (.cells true 0 [P m,I n,.map (some mi),.slice none 0 0])::im .i64 mi []::mem m S::L):=Sep.vh h4;have h6:Sep H4 (gl 2 none []::wm []::bx g (.cells true 0 [P m,I n,.map (some mi),.slice none 0 0])::im .i64 mi []::mem m S::L):=kx.2 h5;exact Sep.pick h6 5 [2,3,0,1,4]
theorem arR {g m:Nat}{a:Int}{M:List ax}(h:Sep H (aR g m X::M))
  (hR:∀H' X',X'.G=(X.G.enter a).2->Sep H' (aR g m X'::M)->R (.bool (X.G.enter a).1) H'):CA en F.Pf [P g,I a] H R:=
 ard (Pd h) λH' h'=>by
  have⟨X',e,h2⟩:=QJ h'
  exact hR H' X' e h2
theorem af_ {n b:Int}(h:1<=n/\n<=64)(hb:pow b):vR [⟨4,n,1,b,0⟩]=0:=by
 have e1:¬(n<1):=by omega
 have e2:¬(n>64):=by omega
 simp [vR,yx,pE,lV,d_,e1,e2,hb]
theorem Rl {b:Int}(h:pow b):1<=b/\b<=32:=by
 rcases h with rfl|rfl|rfl|rfl|rfl|rfl<;>decide
def uR (k:Nat):List Int:=(List.range k).map Int.ofNat
theorem ae2 {k:Nat}{a:Int}:a∈uR k↔0<=a/\a<k:=by
 unfold uR;simp only [cL,Ie];constructor
 ·rintro ⟨j,hj,rfl⟩;exact ⟨by simp,by simpa using hj⟩
 ·intro ⟨h0,h1⟩;exact ⟨a.toNat,by omega,by simp;omega⟩
theorem arf (k:Nat):uR (k+1)=uR k++[(k:Int)]:=by unfold uR;rw [No,fh];rfl
theorem are (k:Nat):(uR k).Nodup:=by
 unfold uR;exact List.Pairwise.map _ (λa b h e=>h (Int.ofNat.inj e)) List.nodup_range
end
section
variable {H H':aa} {R K:Value->aa->Prop} {L M PL aT:List ax} {r v:Nat} {c:Lc} {q:Qr} {X:Gx}
inductive zJ where
 |enter (t:Tk)|th|load|ask (w:Wd)|pQ
structure Vz where
 st:zJ
 room:Int
 keys:List Wd
 av:List Int
 aj:Bool
 dn:Bool
 ah:Int
 ai:Int
abbrev ww (w:Wd):Int:=IntKind.i64.wrap w.toNat
def Vz.di (z:Vz)(w:Wd):Vz:=if w=0 then {z with st:=.pQ,aj:=true,dn:=true} else {z with st:=.ask w}
def Vz.go (c:Lc)(z:Vz)(S:Sm):Vz×Sm:=
 match z.st with
 |.enter t=>({z with st:=if (t.step c S).1 then .th else .enter (t.step c S).2.1},(t.step c S).2.2)
 |.th=>(({z with st:=.load,ah:=c.h,ai:=hd z.room}:Vz).di (S.acc c.h (hd z.room) true id).1.1,(S.acc c.h (hd z.room) true id).2)
 |.load=>(z.di (S.acc z.ah z.ai true id).1.1,(S.acc z.ah z.ai true id).2)
 |.ask w=>({z with keys:=z.keys++[(S.acc (ww w) 1 true id).1.1],av:=z.av++[ww w],st:=.load,ah:=ww w,ai:=0},(S.acc (ww w) 1 true id).2)
 |.pQ=>(z,S)
def Vz.step (c:Lc)(z:Vz)(S:Sm):Vz×Sm:=if z.dn then (z,S) else Vz.go c {z with aj:=false} S
def Vz.pX (z z':Vz):Bool×Bool:=if z.dn then (false,true) else (z'.aj,z'.dn)
def Vz.new (room:Int)(b:Nat):Vz:=⟨.enter ⟨b,0,0,lk room⟩,room,[],[],false,false,0,0⟩
abbrev zh (i1 ia il:Nat):Value:=.func (.func F.J6) #[] #[P i1,P ia,P il]
inductive VV (PL:List ax)(r v ia:Nat):zJ->Value->Prop where
 |enter {gt g2 g i5:Nat}{t:Tk}(h1:b1 gt (P t.b)∈PL)(h2:b1 g2 (.func (.func F.z8) #[] #[P i5])∈PL)(h3:b1 g (P r)∈PL)(h5:b1 i5 (P v)∈PL):VV PL r v ia (.enter t) (.func (.func F.uV) #[] #[P gt,P g2,P g])
 |th {i5:Nat}(h5:b1 i5 (P v)∈PL):VV PL r v ia .th (.func (.func F.z8) #[] #[P i5])
 |load {i1 il:Nat}(h1:b1 i1 (P v)∈PL)(hl:b1 il (zh i1 ia il)∈PL):VV PL r v ia .load (zh i1 ia il)
 |ask {i1 ih il:Nat}{w:Wd}(h1:b1 i1 (P v)∈PL)(h2:b1 ih (W w)∈PL)(hl:b1 il (zh i1 ia il)∈PL):VV PL r v ia (.ask w) (.func (.func F.J7) #[] #[P i1,P ih,P ia,P il])
 |pQ {nv:Value}:VV PL r v ia .pQ nv
abbrev zq (z:Vz):Qr:={Qr.zero with room:=z.room,aj:=z.aj,dn:=z.dn}
def AZ (c:Lc)(ia:Nat)(z:Vz):List ax:=
 match z.st with
 |.enter t=>[qK c t]
 |.load=>[bx ia (.cells true 0 [I z.ah,I z.ai])]
 |.ask _=>[bx ia (.cells true 0 [I z.ah,I z.ai])]
 |_=>[]
structure Hv where
 v:Nat
 r:Nat
 PL:List ax
 z:Vz
 nv:Value
 bk:Option Nat
 be:Option Nat
 ia:Nat
abbrev vA (v r:Nat)(bk be:Option Nat)(z:Vz):ax:=bx v (.cells true 0 [P r,.slice (addr bk) z.keys.length 0,.slice (addr be) z.av.length 0])
abbrev hvL (c:Lc)(V:Hv):List ax:=[rA V.r c (zq V.z) none V.nv,vA V.v V.r V.bk V.be V.z,gl 1 V.bk (V.z.keys.map W),gl 1 V.be (V.z.av.map I),many (AZ c V.ia V.z),many V.PL]
def cf (c:Lc)(V:Hv):ax:=many (hvL c V)
structure Hv.ok (V:Hv):Prop where
 nk:V.bk=none->V.z.keys=[]
 ne:V.be=none->V.z.av=[]
 vv:VV V.PL V.r V.v V.ia V.z.st V.nv
theorem Ce {V:Hv}(h:Sep H (cf c V::M)):Sep H (rA V.r c (zq V.z) none V.nv::vA V.v V.r V.bk V.be V.z::gl 1 V.bk (V.z.keys.map W)::gl 1 V.be (V.z.av.map I)::many (AZ c V.ia V.z)::many V.PL::M):=Sep.fX.1 h
theorem Ap {V:Hv}(h:Sep H (rA V.r c (zq V.z) none V.nv::vA V.v V.r V.bk V.be V.z::gl 1 V.bk (V.z.keys.map W)::gl 1 V.be (V.z.av.map I)::many (AZ c V.ia V.z)::many V.PL::M)):Sep H (cf c V::M):=Sep.fX.2 h
theorem arc {room:Int}{sa:Option Addr}{nv:Value}{f:Nat}{l cs:List Value}(hs:Sep H (rA r c q sa nv::xA c::M))
  (hR:∀H' tb i3 i1 b,Sep H' (b1 tb (P b)::b1 i3 (.func (.func f) ⟨l⟩ ⟨cs⟩)::b1 i1 (P r)::qK c ⟨b,0,0,lk room⟩::rA r c {q with room:=room} sa (.func (.func F.uV) #[] #[P tb,P i3,P i1])::xA c::M)->R undef H'):CA en F.yJ [P r,I room,.func (.func f) ⟨l⟩ ⟨cs⟩] H R:=by
 apply alM;refine Sep.nw hs λi1 H2 h2=>Sep.nw h2 λi3 H4 h4=>?_
 have hp:=h4.yA (n:=23) (a:=21) (.cells true 0 [.pointer none]) (by decide);generalize H4.next+21=tb at hp⊢;refine ⟨_,Sep.eK hp rfl,af ⟨_,Sep.iV hp rfl,af ⟨_,Sep.lD hp rfl,_,Sep.eK hp rfl,af ⟨_,Sep.iV hp rfl,af ⟨_,Sep.lD hp rfl,_,Sep.eK hp rfl,af ⟨_,Sep.iV hp rfl,?_⟩⟩⟩⟩⟩⟩;refine QU ⟨_,rfl,afO hp λgC b iJ=>⟨_,rfl,Sep.lK iJ (aS rfl) λgv pJ=>?_⟩⟩;refine ⟨⟨_,Sep.iV pJ rfl,af (Sep.y_ pJ (aS rfl) λgg j_=>⟨_,Sep.iV j_ rfl,af (Sep.y_ j_ (aS rfl) λaZ rl=>?_)⟩)⟩,
  ⟨⟨_,Sep.gL hp,rfl⟩,⟨_,Sep.gL hp,rfl⟩,⟨_,Sep.yB iJ,rfl⟩,trivial⟩,⟨⟨_,Sep.lD hp rfl,rfl⟩,⟨_,Sep.lD hp rfl,rfl⟩,trivial⟩,⟨⟨_,Sep.iV hp rfl,rfl⟩,⟨_,Sep.iV hp rfl,rfl⟩,trivial⟩,⟨⟨_,Sep.eK hp rfl,rfl⟩,⟨_,Sep.eK hp rfl,rfl⟩,trivial⟩,
  ⟨⟨_,Sep.lD hp rfl,rfl⟩,⟨_,Sep.lD hp rfl,rfl⟩,trivial⟩,⟨⟨_,Sep.iV hp rfl,rfl⟩,⟨_,Sep.iV hp rfl,rfl⟩,trivial⟩,⟨⟨_,Sep.eK hp rfl,rfl⟩,⟨_,Sep.eK hp rfl,rfl⟩,trivial⟩,trivial⟩
 exact hR aZ tb i3 i1 b (Sep.pick rl 6 [1,2,3,0,4,5])
theorem aB7 {n:Int}(h:Sep H (xA c::aR c.g c.m X::L))
  (hR:∀H' (V:Hv) b,V.ok->V.z=Vz.new n b->Sep H' (cf c V::xA c::aR c.g c.m X::L)->R (P V.v) H'):CA en F.V1 [P c.x,I n] H R:=by
 apply aAI;refine Sep.nw h λi1 H2 h2=>Sep.nw h2 λi3 H4 h4=>Sep.nw h4 λi5 H6 h6=>Sep.dp h6 (aS rfl) λH7 h7=>⟨_,Sep.aG h7 rfl,af ⟨_,Sep.bn h7 rfl,?_⟩⟩
 have h8:Sep H7 (rA i1 c Qr.zero none .nilFunc::xA c::b1 i5 (P i3)::bx i3 (.cells true 0 [P i1,.slice none 0 0,.slice none 0 0])::aR c.g c.m X::L):=Sep.pick h7 5 [2,3,0,1,4];refine arc (q:=Qr.zero) h8 λH' tb QF QE b h9=>⟨rfl,_,Sep.wq h9 rfl,?_⟩
 refine hR H' ⟨i3,i1,[b1 tb (P b),b1 QF (.func (.func F.z8) #[] #[P i5]),b1 QE (P i1),b1 i5 (P i3)],Vz.new n b,.func (.func F.uV) #[] #[P tb,P QF,P QE],none,none,0⟩ b ⟨λ_=>rfl,λ_=>rfl,.enter (i5:=i5) (by simp [Vz.new]) (by simp) (by simp) (by simp)⟩ rfl (Ap ?_);have eI:Sep H' ([b1 tb (P b),b1 QF (.func (.func F.z8) #[] #[P i5]),b1 QE (P i1),b1 i5 (P i3)]++(qK c ⟨b,0,0,lk n⟩::rA i1 c {Qr.zero with room:=n} none (.func (.func F.uV) #[] #[P tb,P QF,P QE])::xA c::bx i3 (.cells true 0 [P i1,.slice none 0 0,.slice none 0 0])::aR c.g c.m X::L)):=Sep.pick h9 9 [0,1,2,6,3,4,5,7,8];have jo:=Sep.fX.2 eI;have fA:Sep H' (qK c ⟨b,0,0,lk n⟩::_::_):=Sep.iE jo;have gP:=(Sep.fX (L:=[qK c ⟨b,0,0,lk n⟩])).2 fA;have ig:=kx (es:=1) (cs:=([]:List Int).map I) |>.2 (kx (es:=1) (cs:=([]:List Wd).map W) |>.2 gP)
 exact Sep.pick ig 8 [4,6,1,0,2,3,5,7]
theorem apj {es:Nat}{b:Option Nat}{cs new:List Value}{bytes len n:Nat}{K:Option Addr->Nat->aa->Prop}(h:Sep H (gl es b cs::L))(hb:b=none->cs=[])(iq:0<es)(hlen:cs.length=len*es)(hn:0<n)
  (nt:new.length=n*es)(uX:(len+n)*bytes<=140737488355328)(k:∀H' q,q=H.next->H'.next=H.next+1->Sep H' (gl es (some q) (cs++new)::L)->K (addr (some q)) (len+n) H'):iT H bytes es (addr b) len n new K:=by
 cases b with
 |none=>
  have hc:=hb rfl;subst hc;have hl:len=0:=by
   simp only [nM] at hlen;rcases Nc len with h1|h1
   ·exact h1
   ·have:0<len*es:=Nt h1 iq
    omega
  subst hl;rw [cG] at uX
  refine T5 hn uX λj H2 ej e2=>?_
  have:=k H2 j ej (by rw [e2];rfl)
  rw [cG,rQ] at this;refine this (dN.2 ?_);subst ej e2;exact (kx.1 h).new _
 |some b=>
  have h1:=dN.1 h;refine IZ (Sep.gL h1) hn ?_ (by rw [<-hlen];exact Zy _) uX λj H2 ej e2=>?_
  ·rw [hlen,cG,mB]
   have:0<n*es:=Nt hn iq
   omega
  ·refine k H2 j ej (by rw [e2];rfl) (dN.2 ?_);have h2:=(Sep.X5 h1 .dead).new (.cells true es (cs++new));rw [<-e2,rG,<-ej] at h2;exact Sep.AL h2
theorem Zc {k:IntKind}{n:Int}:AO (.cells true 1 [.int k n]) (.cells true 1 [.int k n])=true:=by simp [AO,fv,fv.jP]
def FW (R:Value->aa->Prop)(c:Lc)(v r:Nat)(L:List ax)(X:Gx)(p:Vz×Sm):Prop:=
 ∀H' (V':Hv),V'.ok->V'.v=v->V'.r=r->V'.z=p.1->Sep H' (cf c V'::xA c::aR c.g c.m (X.to p.2)::L)->R undef H'
theorem alE {room ah ai:Int}{keys:List Wd}{av:List Int}{aj dn:Bool}{nv:Value}{bk be:Option Nat}{ia i1 il:Nat}(nk:bk=none->keys=[])(ne:be=none->av=[])(h1:b1 i1 (P v)∈PL)(hl:b1 il (zh i1 ia il)∈PL)
  (h:Sep H (rA r c (zq ⟨.load,room,keys,av,aj,dn,ah,ai⟩) none nv::vA v r bk be ⟨.load,room,keys,av,aj,dn,ah,ai⟩::gl 1 bk (keys.map W)::gl 1 be (av.map I)::bx ia (.cells true 0 [I ah,I ai])::many PL::xA c::aR c.g c.m X::L))
  (hR:FW R c v r L X ((⟨.load,room,keys,av,aj,dn,ah,ai⟩:Vz).di (X.G.S.acc ah ai true id).1.1,(X.G.S.acc ah ai true id).2)):CA en F.J6 [P i1,P ia,P il] H R:=by
 apply aBx;have hp:=h.yA (n:=21) (a:=18) (.cells true 0 [.int .u64 0]) (by decide);generalize H.next+18=ih at hp⊢;refine af ⟨_,dI (k:=6) hp rfl h1 rfl,af ⟨_,Sep.eK hp rfl,af ⟨_,Sep.bn hp rfl,af ⟨_,Sep.Ck hp rfl,af ⟨_,Sep.iL hp rfl,af ⟨_,Sep.iL hp rfl,?_⟩⟩⟩⟩⟩⟩;refine Gt (Sep.up8 hp) λbu fV=>⟨_,_,rfl,Sep.lK fV (aS rfl) λaZ rl=>⟨⟨_,Sep.bn rl rfl,?_⟩,⟨⟨_,Sep.gL hp,rfl⟩,⟨_,Sep.yB fV,rfl⟩,trivial⟩,trivial⟩⟩
 generalize (X.G.S.acc ah ai true id).1.1=w at hR rl⊢;refine aI (λe=>?_) λe=>?_
 ·have e:=aCB e;refine af ⟨_,dI (k:=7) rl rfl h1 rfl,af ⟨_,Sep.iV rl rfl,?_⟩⟩;apply alO;refine Sep.nw rl λj H2 h2=>⟨_,_,_,_,_,Sep.jK h2 rfl,af (Sep.HR h2 (aS rfl) λeO eI=>af (Sep.HR eI (aS rfl) λcE gP=>⟨rfl,af ⟨_,dI (k:=8) gP rfl h1 rfl,af ⟨_,Sep.lD gP rfl,af (Sep.HR gP (aS rfl) λmX vW=>?_)⟩⟩⟩))⟩
  refine hR mX ⟨v,r,PL,(⟨.load,room,keys,av,aj,dn,ah,ai⟩:Vz).di w,nv,bk,be,ia⟩ ⟨by unfold Vz.di;rw [ar e];exact nk,by unfold Vz.di;rw [ar e];exact ne,by unfold Vz.di;rw [ar e];exact .pQ⟩ rfl rfl rfl (Ap ?_);unfold Vz.di;rw [ar e];exact Sep.pick (Sep.vh vW) 11 [4,5,6,7,0,9,10,2]
 ·have e:=aCs e;refine af ⟨_,dI (k:=7) rl rfl h1 rfl,af ⟨_,Sep.iV rl rfl,af (Sep.E_ rl (aS rfl) λdW su=>?_)⟩⟩;refine hR dW ⟨v,r,b1 ih (W w)::PL,(⟨.load,room,keys,av,aj,dn,ah,ai⟩:Vz).di w,.func (.func F.J7) #[] #[P i1,P ih,P ia,P il],bk,be,ia⟩ ⟨by unfold Vz.di;rw [an e];exact nk,by unfold Vz.di;rw [an e];exact ne,by unfold Vz.di;rw [an e];exact .ask (.tail _ h1) (.head _) (.tail _ hl)⟩ rfl rfl rfl (Ap ?_);unfold Vz.di;rw [an e];have uU:Sep dW ([b1 ih (W w)]++many PL::aR c.g c.m (X.to (X.G.S.acc ah ai true id).2)::_::_::_::_::bx ia (.cells true 0 [I ah,I ai])::xA c::L):=Sep.pick su 9 [1,7,0,2,3,4,5,6,8];have JS:=Rj _ uU;have h55:=Sep.many1.2 (Sep.Fh JS);exact Sep.pick h55 8 [3,4,5,6,0,1,7,2]
theorem azH {room ah ai:Int}{keys:List Wd}{av:List Int}{aj dn:Bool}{w:Wd}{nv:Value}{bk be:Option Nat}{ia i1 ih il:Nat}(nk:bk=none->keys=[])(ne:be=none->av=[])(hlen:keys.length<=1000/\av.length<=1000)(h1:b1 i1 (P v)∈PL)(h2:b1 ih (W w)∈PL)(hl:b1 il (zh i1 ia il)∈PL)
  (h:Sep H (rA r c (zq ⟨.ask w,room,keys,av,aj,dn,ah,ai⟩) none nv::vA v r bk be ⟨.ask w,room,keys,av,aj,dn,ah,ai⟩::gl 1 bk (keys.map W)::gl 1 be (av.map I)::bx ia (.cells true 0 [I ah,I ai])::many PL::xA c::aR c.g c.m X::L))
  (hR:FW R c v r L X (⟨.load,room,keys++[(X.G.S.acc (ww w) 1 true id).1.1],av++[ww w],aj,dn,ww w,0⟩,(X.G.S.acc (ww w) 1 true id).2)):CA en F.J7 [P i1,P ih,P ia,P il] H R:=by
 apply aBy;have hB:=h.ae 18;refine af ⟨_,dI (k:=5) hB rfl h1 rfl,af ⟨_,Sep.bn hB rfl,af ⟨_,Sep.aG hB rfl,af ⟨_,Sep.wq hB rfl,af ⟨_,dI (k:=5) hB rfl h2 rfl,?_⟩⟩⟩⟩⟩;refine Gt (Sep.ZE hB) λaQ g_=>⟨_,_,rfl,⟨?_,trivial⟩⟩
 have hR:∀H' (V':Hv),V'.ok->V'.v=v->V'.r=r->V'.z=(⟨.load,room,keys++[(X.G.S.acc (ww w) 1 true id).1.1],av++[ww w],aj,dn,ww w,0⟩:Vz)->Sep H' (cf c V'::xA c::aR c.g c.m (X.to (X.G.S.acc (ww w) 1 true id).2)::L)->R undef H':=hR;generalize (X.G.S.acc (ww w) 1 true id).1.1=k at hR⊢;have ka:=g_.ae 23;have WL:=g_.yA (n:=23) (a:=7) (.cells true 1 [W k]) (by decide);have hp:=g_.arD (n:=23) (a:=7) (b:=15) (.cells true 1 [W k]) (.cells true 1 [I (ww w)]) (by decide) (by decide) (by decide);have kl:(keys.map W).length=keys.length*1:=by rw [gb,ou]
 have el:(av.map I).length=av.length*1:=by rw [gb,ou]
 refine af ⟨_,dI (k:=6) ka rfl h1 rfl,af ⟨_,dI (k:=6) ka rfl h1 rfl,af ⟨_,dI (k:=6) ka rfl h1 rfl,af ⟨_,_,Sep.eK ka rfl,[W k],oO (es:=1) (n:=1) (Sep.gL WL) (by decide) rfl,?_⟩⟩⟩⟩;refine apj (b:=bk) (cs:=keys.map W) (new:=[W k]) (Sep.wG WL) (λe=>by rw [nk e];rfl) (by decide) kl (by decide) rfl (by show (keys.length+1)*8<=_;omega) λmF q eq en qw=>?_
 have aE:aQ.next+15<mF.next:=by rw [en];show _<aQ.next+23+1;omega
 have xm:aQ.next+15∉ly (gl 1 (some q) (keys.map W++[W k])::(bx (aQ.next+7) (.cells true 1 [W k])::aR c.g c.m (X.to (X.G.S.acc (ww w) 1 true id).2)::rA r c (zq ⟨.ask w,room,keys,av,aj,dn,ah,ai⟩) none nv::vA v r bk be ⟨.ask w,room,keys,av,aj,dn,ah,ai⟩::gl 1 be (av.map I)::bx ia (.cells true 0 [I ah,I ai])::many PL::xA c::L)):=by
  intro hc;rw [oK] at hc;rcases dV.1 hc with h|h
  ·have h:aQ.next+15=q:=by simpa [gl,many,ly,bx] using h
   have e2:q=aQ.next+23:=eq;omega
  ·rw [oK] at h;rcases dV.1 h with h|h
   ·simp only [bx,fo] at h;omega
   ·have h3:=Sep.rm3 g_
    have:=h3.lt _ h
    omega
 have WK:=Sep.Vc (.cells true 1 [I (ww w)]) qw aE xm;refine af ⟨_,dI (k:=7) qw rfl h1 rfl,af ⟨_,_,Sep.lD qw rfl,af ⟨_,dI (k:=7) qw rfl h2 rfl,[I (ww w)],oO (es:=1) (n:=1) (Sep.gL WK) (by decide) rfl,?_⟩⟩⟩;refine qo (b:=be) (cs:=av.map I) (new:=[I (ww w)]) (Sep.Fh WK) (λe=>by rw [ne e];rfl) (by decide) el (by decide) rfl (by show (av.length+1)*8<=_;omega) λNJ q2 h50=>?_
 refine af (Sep.HS h50 (aS rfl) λH53 uU=>af (Sep.HS uU (aS rfl) λlN VA=>?_));clear VA uU h50 WK xm aE qw WL ka;refine af ⟨_,dI (k:=8) hp rfl h1 rfl,af ⟨_,dI (k:=8) hp rfl h1 rfl,af ⟨_,dI (k:=8) hp rfl h1 rfl,af ⟨_,_,Sep.lD hp rfl,[W k],oO (es:=1) (n:=1) (Sep.yB hp) (by decide) rfl,?_⟩⟩⟩⟩;refine qo (b:=bk) (cs:=keys.map W) (new:=[W k]) (Sep.MK hp) (λe=>by rw [nk e];rfl) (by decide) kl (by decide) rfl (by show (keys.length+1)*8<=_;omega) λkM q rn=>?_
 refine af ⟨_,dI (k:=8) rn rfl h1 rfl,af ⟨_,_,Sep.iL rn rfl,af ⟨_,dI (k:=8) rn rfl h2 rfl,[I (ww w)],oO (es:=1) (n:=1) (Sep.yB rn) (by decide) rfl,?_⟩⟩⟩;refine qo (b:=be) (cs:=av.map I) (new:=[I (ww w)]) (Sep.Fh rn) (λe=>by rw [ne e];rfl) (by decide) el (by decide) rfl (by show (av.length+1)*8<=_;omega) λFN q2 VE=>?_
 refine af (Sep.HS VE (aS rfl) λTd h90=>af (Sep.HS h90 (aS rfl) λnP Eg=>⟨?_,?_⟩))
 ·refine af ⟨_,dI (k:=8) Eg rfl h2 rfl,af (Sep.st7 Eg (aS rfl) λDu ar6=>?_)⟩;have hC:=ar6.ae 8;refine af ⟨_,dI (k:=8) hC rfl h1 rfl,af ⟨_,Sep.wq hC rfl,af ⟨_,dI (k:=8) hC rfl hl rfl,af (yn (Sep.MA hC (aS rfl) λFL ar7=>⟨?_,trivial⟩))⟩⟩⟩;refine hR FL ⟨v,r,PL,⟨.load,room,keys++[k],av++[ww w],aj,dn,ww w,0⟩,zh i1 ia il,some q,some q2,ia⟩ ⟨λe=>(by cases e),λe=>(by cases e),.load h1 hl⟩ rfl rfl rfl (Ap ?_);have ar8:=Sep.many1.2 (Sep.ZE ar7);have ar9:=Sep.pick ar8 10 [6,7,2,1,0,8,9,5];have e1:(keys++[k]).map W=keys.map W++[W k]:=by rw [fh];rfl
  have e2:(av++[ww w]).map I=av.map I++[I (ww w)]:=by rw [fh];rfl
  have e3:(keys++[k]).length=keys.length+1:=by simp
  have e4:(av++[ww w]).length=av.length+1:=by simp
  show Sep FL (rA r c _ none _::bx v (.cells true 0 [P r,.slice (addr (some q)) (keys++[k]).length 0,.slice (addr (some q2)) (av++[ww w]).length 0])::gl 1 (some q) ((keys++[k]).map W)::gl 1 (some q2) ((av++[ww w]).map I)::_);rw [e1,e2,e3,e4];exact ar9
 ·exact ⟨⟨⟨_,Sep.gL hp,Zc⟩,⟨_,Sep.yB rn,Zc⟩,trivial⟩,⟨af ⟨_,dI (k:=8) hp rfl h2 rfl,rfl⟩,af ⟨_,dI (k:=8) rn rfl h2 rfl,rfl⟩,trivial⟩,⟨⟨_,_,Sep.lD hp rfl,rfl,rfl,rfl⟩,⟨_,_,Sep.iL rn rfl,rfl,rfl,rfl⟩,trivial⟩,
   ⟨af ⟨_,dI (k:=8) hp rfl h1 rfl,rfl⟩,af ⟨_,dI (k:=8) rn rfl h1 rfl,rfl⟩,trivial⟩,⟨⟨_,Sep.yB hp,Zc⟩,trivial⟩,
   ⟨af ⟨_,dI (k:=8) hp rfl h1 rfl,rfl⟩,af ⟨_,dI (k:=8) rn rfl h1 rfl,rfl⟩,af ⟨_,dI (k:=8) VE rfl h1 rfl,rfl⟩,af ⟨_,dI (k:=8) h90 rfl h1 rfl,rfl⟩,trivial⟩,
   ⟨af ⟨_,dI (k:=8) hp rfl h1 rfl,rfl⟩,af ⟨_,dI (k:=8) rn rfl h1 rfl,rfl⟩,af ⟨_,dI (k:=8) VE rfl h1 rfl,rfl⟩,trivial⟩,trivial⟩
theorem azI {t:Tk}{room ah ai:Int}{keys:List Wd}{av:List Int}{aj dn:Bool}{bk be:Option Nat}{ia gt g2 g i5:Nat}(nk:bk=none->keys=[])(ne:be=none->av=[])
  (h1:b1 gt (P t.b)∈PL)(h2:b1 g2 (.func (.func F.z8) #[] #[P i5])∈PL)(h3:b1 g (P r)∈PL)(h5:b1 i5 (P v)∈PL)
  (h:Sep H (rA r c (zq ⟨.enter t,room,keys,av,aj,dn,ah,ai⟩) none (.func (.func F.uV) #[] #[P gt,P g2,P g])::vA v r bk be ⟨.enter t,room,keys,av,aj,dn,ah,ai⟩::gl 1 bk (keys.map W)::gl 1 be (av.map I)::many [qK c t]::many PL::xA c::aR c.g c.m X::L))
  (hR:FW R c v r L X (⟨if (t.step c X.G.S).1 then .th else .enter (t.step c X.G.S).2.1,room,keys,av,aj,dn,ah,ai⟩,(t.step c X.G.S).2.2)):CA en F.uV [P gt,P g2,P g] H R:=by
 apply alN;have a1:=Sep.many1.1 (Sep.wG h);have a2:Sep H (qK c t::aR c.g c.m X::rA r c _ none _::vA v r bk be _::_::_::many PL::xA c::L):=Sep.pick a1 8 [0,7,1,2,3,4,5,6];refine af ⟨_,dI (k:=6) a2 rfl h1 rfl,alo a2 λH5 a5=>⟨_,rfl,?_⟩⟩;have eb:(t.step c X.G.S).2.1.b=t.b:=aln;unfold FW at hR;generalize (t.step c X.G.S).1=gO at hR⊢;generalize (t.step c X.G.S).2.1=t' at hR a5 eb;generalize (t.step c X.G.S).2.2=S' at hR a5;cases gO with
 |true=>
  refine cm rfl (af ⟨_,dI (k:=6) a5 rfl h3 rfl,af ⟨_,dI (k:=6) a5 rfl h2 rfl,af (yn (Sep.E_ a5 (aS rfl) λcz dX=>?_))⟩⟩);exact hR cz ⟨v,r,PL,⟨.th,room,keys,av,aj,dn,ah,ai⟩,.func (.func F.z8) #[] #[P i5],bk,be,ia⟩ ⟨nk,ne,.th h5⟩ rfl rfl rfl (Ap (Sep.pick (Sep.vh dX) 9 [3,4,5,6,0,7,8,2]))
 |false=>
  refine bl rfl ?_;exact hR H5 ⟨v,r,PL,⟨.enter t',room,keys,av,aj,dn,ah,ai⟩,.func (.func F.uV) #[] #[P gt,P g2,P g],bk,be,ia⟩ ⟨nk,ne,.enter (by rw [eb];exact h1) h2 h3 h5⟩ rfl rfl rfl (Ap (Sep.pick (Sep.many1.2 a5) 8 [2,3,4,5,0,6,7,1]))
theorem aqv {z:Vz}{nv:Value}{bk be:Option Nat}
  (h:Sep H (rA r c (zq z) none nv::vA v r bk be z::gl 1 bk (z.keys.map W)::gl 1 be (z.av.map I)::many []::many PL::xA c::aR c.g c.m X::L))
  (hR:∀H' i1 ia il,Sep H' (rA r c (zq z) none (zh i1 ia il)::vA v r bk be z::gl 1 bk (z.keys.map W)::gl 1 be (z.av.map I)::bx ia (.cells true 0 [I c.h,I (hd z.room)])::many ([b1 i1 (P v),b1 il (zh i1 ia il)]++PL)::xA c::aR c.g c.m X::L)->R undef H') :
  CA en F.V_ [P v] H R:=by
 apply aBw;refine Sep.nw h λi1 H2 h2=>?_
 have hp:=h2.yA (n:=17) (a:=15) (.cells true 0 [.int .i64 0,.int .i64 0]) (by decide);generalize H2.next+15=ia at hp⊢;refine ⟨_,Sep.bn hp rfl,af ⟨_,Sep.iV hp rfl,af ⟨_,Sep.eK hp rfl,_,Sep.bn hp rfl,af ⟨_,Sep.iV hp rfl,af ⟨_,Sep.eK hp rfl,?_⟩⟩⟩⟩⟩;apply ZW;refine Sep.nw hp λj H3 h3=>af ⟨_,Sep.ld9 h3 rfl,Sep.dp h3 (aS rfl) λH6 h6=>⟨_,_,Sep.jK h6 rfl,?_⟩⟩
 refine ⟨_,_,rfl,Sep.lK h6 (aS rfl) λjZ mJ=>⟨Sep.nw mJ λil cR ij=>Sep.dp ij (aS rfl) λeC tK=>?_,⟨⟨_,Sep.gL hp,rfl⟩,⟨_,Sep.yB h6,rfl⟩,trivial⟩,trivial⟩⟩;have hB:=tK.ae 8;refine ⟨_,Sep.iV hB rfl,af ⟨_,Sep.iL hB rfl,_,Sep.aG hB rfl,af (yn (Sep.y_ hB (aS rfl) λgi Ec=>⟨?_,trivial⟩))⟩⟩;have a1:Sep gi ([b1 i1 (P v),b1 il (zh i1 ia il)]++many PL::rA r c (zq z) none (zh i1 ia il)::vA v r bk be z::gl 1 bk (z.keys.map W)::gl 1 be (z.av.map I)::bx ia (.cells true 0 [I c.h,I (hd z.room)])::xA c::aR c.g c.m X::L):=Sep.pick Ec 12 [3,0,9,4,5,6,7,2,10,11];exact hR gi i1 ia il (Sep.pick (Rj _ a1) 8 [1,2,3,4,5,0,6,7])
theorem azJ {room ah ai:Int}{keys:List Wd}{av:List Int}{aj dn:Bool}{nv:Value}{bk be:Option Nat}{i5:Nat}(nk:bk=none->keys=[])(ne:be=none->av=[])(h5:b1 i5 (P v)∈PL)
  (h:Sep H (rA r c (zq ⟨.th,room,keys,av,aj,dn,ah,ai⟩) none nv::vA v r bk be ⟨.th,room,keys,av,aj,dn,ah,ai⟩::gl 1 bk (keys.map W)::gl 1 be (av.map I)::many []::many PL::xA c::aR c.g c.m X::L))
  (hR:FW R c v r L X ((⟨.load,room,keys,av,aj,dn,c.h,hd room⟩:Vz).di (X.G.S.acc c.h (hd room) true id).1.1,(X.G.S.acc c.h (hd room) true id).2)):CA en F.z8 [P i5] H R:=by
 apply aAJ;refine af ⟨_,dI (k:=5) h rfl h5 rfl,?_⟩;refine aqv (z:=⟨.th,room,keys,av,aj,dn,ah,ai⟩) h λH5 i1 ia il a5=>⟨rfl,af ⟨_,dI (k:=5) a5 rfl (mE _ h5) rfl,af ⟨_,Sep.bn a5 rfl,af ⟨_,Sep.aG a5 rfl,eQ ⟨dG.1 (by kernel_rfl),?_⟩⟩⟩⟩⟩
 show CA en F.J6 [P i1,P ia,P il] H5 _;exact alE (il:=il) nk ne (.head _) (.tail _ (.head _)) a5 λH' V' a b d e hs=>⟨rfl,hR H' V' a b d e hs⟩
theorem aB8 {V:Hv}(cF:V.ok)(h:Sep H (cf c V::xA c::aR c.g c.m X::L))(fW:V.z.dn=false->V.z.st≠.pQ)(hlen:V.z.keys.length<=1000/\V.z.av.length<=1000)
  (hR:∀H' (V':Hv),V'.ok->V'.v=V.v->V'.r=V.r->V'.z=(V.z.step c X.G.S).1->Sep H' (cf c V'::xA c::aR c.g c.m (X.to (V.z.step c X.G.S).2)::L)->
   R (.tuple #[.bool (V.z.pX (V.z.step c X.G.S).1).1,.bool (V.z.pX (V.z.step c X.G.S).1).2]) H'):CA en F.BW [P V.r] H R:=by
 have⟨v,r,PL,⟨st,room,keys,av,aj,dn,ah,ai⟩,nv,bk,be,ia⟩:=V;have⟨nk,ne,vv⟩:=cF;have h0:=Ce h;apply ZX;cases dn with
 |true=>
  refine af ⟨_,Sep.aG h0 rfl,cm rfl ?_⟩;exact hR H _ ⟨nk,ne,vv⟩ rfl rfl rfl h
 |false=>
 refine af ⟨_,Sep.aG h0 rfl,bl rfl (af (Sep.dp h0 (aS rfl) λH6 h6=>af ⟨_,Sep.aG h6 rfl,?_⟩))⟩;have fW:st≠.pQ:=fW rfl;have vv:VV PL r v ia st nv:=vv;have nk:bk=none->keys=[]:=nk;have ne:be=none->av=[]:=ne;have hlen:keys.length<=1000/\av.length<=1000:=hlen;have h6:Sep H6 (rA r c (zq ⟨st,room,keys,av,false,false,ah,ai⟩) none nv::vA v r bk be ⟨st,room,keys,av,false,false,ah,ai⟩::gl 1 bk (keys.map W)::gl 1 be (av.map I)::many (AZ c ia ⟨st,room,keys,av,false,false,ah,ai⟩)::many PL::xA c::aR c.g c.m X::L):=h6;have fin:FW (λjC bt=>jC=undef/\AS.asAddr (.pointer (some ⟨r,0,none⟩)) λi15 i16=>∃q8,(bt.ae 10).cell i15 (i16+8)=some (.bool q8)/\AS.asAddr (.pointer (some ⟨r,0,none⟩)) λi18 i19=>∃nS,(bt.ae 10).cell i18 (i19+9)=some (.bool nS)/\(R (.tuple #[.bool q8,.bool nS]) (bt.ae 10))/\True) c v r L X (Vz.go c ⟨st,room,keys,av,false,false,ah,ai⟩ X.G.S):=by
  intro H' V' gz ev er ez hs;subst er;have hB:=(Ce hs).ae 10;refine ⟨rfl,af ⟨_,Sep.aG hB rfl,af ⟨_,Sep.aG hB rfl,?_,trivial⟩⟩⟩
  have:=hR (H'.ae 10) V' gz ev rfl ez (hs.ae 10)
  unfold Vz.pX at this;rw [an (by exact jY)] at this;have e2:V'.z=(Vz.step c ⟨st,room,keys,av,aj,false,ah,ai⟩ X.G.S).1:=ez;rw [<-e2] at this;exact this
 cases vv with
 |@enter gt g2 g i5 t h1 h2 h3 h5=>
  refine eQ ⟨dG.1 (by kernel_rfl),?_⟩;exact azI (ia:=ia) nk ne h1 h2 h3 h5 h6 fin
 |th h5=>
  refine eQ ⟨dG.1 (by kernel_rfl),?_⟩;exact azJ nk ne h5 h6 fin
 |load h1 hl=>
  refine eQ ⟨dG.1 (by kernel_rfl),?_⟩;have h7:=Sep.many1.1 (Sep.wG h6);exact alE nk ne h1 hl (Sep.pick h7 8 [1,2,3,4,0,5,6,7]) fin
 |ask h1 h2 hl=>
  refine eQ ⟨dG.1 (by kernel_rfl),?_⟩;have h7:=Sep.many1.1 (Sep.wG h6);exact azH nk ne hlen h1 h2 hl (Sep.pick h7 8 [1,2,3,4,0,5,6,7]) fin
 |pQ=>exact absurd rfl fW
end
section
variable {H H':aa} {R K:Value->aa->Prop} {L PL aT:List ax} {r v:Nat} {c:Lc} {X:Gx}
theorem aqs {ov:Option Nat}{vs:List Wd}(h:Sep H (gl 1 ov (vs.map W)::L))(hn:ov=none->vs=[])(hv:vs.length<100000)
  (hR:∀H' o',(o'=none->vs=[])->Sep H' (gl 1 o' (vs.map W)::gl 1 ov (vs.map W)::L)->R (.slice (addr o') vs.length 0) H'):CA en F.Mu [.slice (addr ov) vs.length 0] H R:=by
 apply alP;cases ov with
 |none=>
  have e:=hn rfl;subst e;exact cm rfl (hR H none (λ_=>rfl) (kx.2 h))
 |some g=>
  refine bl rfl (Sep.nw h λi1 H2 h2=>⟨vs.map W,?_,?_⟩)
  ·by_cases h0:vs.length=0
   ·have e:=zB h0;subst e;rfl
   ·refine oO (Pa (Sep.iE h2)) (by omega) ?_
    have:(vs.map W).length=vs.length*1:=by simp
    rw [<-this];exact Zy _
  ·by_cases h0:vs.length=0
   ·have e:=zB h0;subst e;exact .inl ⟨rfl,hR H2 (some i1) (λ_=>rfl) (dN.2 h2)⟩
   ·refine qo (b:=some i1) (cs:=[]) (new:=vs.map W) (len:=0) (n:=vs.length) (dN.2 h2) (λe=>by cases e) (by decide) rfl (by omega) (by simp) (by omega) λH6 o' h6=>?_
    rw [cG];exact hR H6 (some o') (λe=>by cases e) h6
theorem aB4 {V:Hv}(cF:V.ok)(h:Sep H (cf c V::L))(hl:V.z.keys.length<100000)
  (hR:∀H' o',(o'=none->V.z.keys=[])->Sep H' (gl 1 o' (V.z.keys.map W)::cf c V::L)->R (.slice (addr o') V.z.keys.length 0) H'):CA en F.V7 [P V.v] H R:=by
 have h0:=Ce h;apply aBp;refine af ⟨_,_,Sep.bn h0 rfl,aqs (Sep.qM h0) cF.nk hl λH6 o ho h6=>⟨_,_,rfl,?_⟩⟩;have h7:Sep H6 (rA V.r c (zq V.z) none V.nv::vA V.v V.r V.bk V.be V.z::gl 1 V.bk (V.z.keys.map W)::gl 1 V.be (V.z.av.map I)::many (AZ c V.ia V.z)::many V.PL::gl 1 o (V.z.keys.map W)::L):=Sep.pick h6 7 [2,3,1,4,5,6,0];exact hR H6 o ho (Sep.iE (Ap h7))
theorem alV {V:Hv}{i:Nat}{e:Int}(cF:V.ok)(h:Sep H (cf c V::L))(he:V.z.av[i]? =some e)
  (hR:∀H' r',Sep H' (rA r' c {Qr.zero with room:=V.z.room,cur:=e} none .nilFunc::cf c V::L)->R (P r') H'):CA en F.PW [P V.v,I i] H R:=by
 have hi:=(bJ.1 he).1;have h0:=Ce h;have hB:=h0.ae 24;have GF:∃b,V.be=some b:=by
  cases hb:V.be with
  |none=>have:=cF.ne hb;rw [this] at hi;simp at hi
  |some b=>exact ⟨b,rfl⟩
 have⟨b,hb⟩:=GF;apply aBz;refine af ⟨_,Sep.bn hB rfl,af ⟨_,Sep.aG hB rfl,af ⟨_,Sep.bn hB rfl,af ⟨_,Sep.aG hB rfl,af ⟨_,_,Sep.bn hB rfl,by unfold az;omega,?_⟩⟩⟩⟩⟩;rw [hb] at hB⊢;have hg:=dN.1 (Sep.k_ hB);refine bG ⟨e,Sep.aG hg (by rw [dr,cG,ou,jg,he];rfl),?_⟩;refine Sep.nw (h.ae 24) λi20 jZ mJ=>⟨hR jZ i20 mJ,trivial⟩
theorem aB6 {V:Hv}{i:Nat}{e:Int}(cF:V.ok)(h:Sep H (cf c V::xA c::aR c.g c.m X::L))(he:V.z.av[i]? =some e)
  (hR:∀H' r' aT,Rk H' aT r' c {Qr.zero with room:=V.z.room,cur:=e,nx:=.ot} X (cf c V::L)->R (P r') H'):CA en F.J4 [P V.v,I i] H R:=by
 apply aBr;refine alV cF h he λH2 r' h2=>⟨_,rfl,Sep.nw h2 λi4 H5 h5=>Sep.dp h5 (aS rfl) λH6 h6=>⟨_,Sep.aG h6 rfl,af (Sep.lK h6 (aS rfl) λeO eI=>⟨_,Sep.aG eI rfl,?_⟩)⟩⟩
 refine hR eO r' [b1 i4 (P r')] ⟨none,.func (.func F.J5) #[] #[P i4],.inl ⟨rfl,rfl⟩,.ot (.head _),?_⟩;have jo:=Sep.vh (Sep.many1.2 eI);exact Sep.pick jo 6 [2,1,4,5,0,3]
theorem aB5 {V:Hv}(cF:V.ok)(h:Sep H (cf c V::xA c::aR c.g c.m X::L))
  (hR:∀H' r' aT,Rk H' aT r' c {Qr.zero with room:=V.z.room,nx:=.leave} X (cf c V::L)->R (P r') H'):CA en F.V8 [P V.v] H R:=by
 have h0:=Ce h;have hB:=h0.ae 17;apply aBq;refine af ⟨_,Sep.bn hB rfl,af ⟨_,Sep.aG hB rfl,af ⟨_,Sep.bn hB rfl,af ⟨_,Sep.aG hB rfl,Sep.nw (h.ae 17) λi13 bt ig=>⟨Sep.dp ig (aS rfl) λcz sr=>?_,trivial⟩⟩⟩⟩⟩;refine hR cz i13 [] ⟨none,bound F.BZ i13,.inl ⟨rfl,rfl⟩,.leave,?_⟩;have iJ:=Sep.vh (Sep.vh sr);exact Sep.pick iJ 6 [2,0,4,5,1,3]
end
section
variable {H H':aa} {R K:Value->aa->Prop} {L PL aT:List ax} {r v:Nat} {c:Lc} {X:Gx}
def py (a:Int×Int)(av:List Int):Int×Int:=av.foldl (λa h=>if 0<h then (h,0) else a) a
theorem N4 {a:Int×Int}{av:List Int}{h:Int}:py a (av++[h])=if 0<h then (h,0) else py a av:=by
 unfold py;rw [List.foldl_append];rfl
abbrev wE (i1 i3 i10:Nat):Value:=.func (.func F.PU) #[] #[P i1,P i3,P i10]
abbrev qT (room e:Int)(a:Int×Int):Qr:={Qr.zero with room:=room,cur:=e,ah:=a.1,ai:=a.2}
theorem ace {a:Option Addr}{l:Nat}{K:Option Addr->Nat->Prop}(h:K a l):AS.asSlice (.slice a l 0) K:=h
theorem aB_ {V:Hv}{i:Nat}{e:Int}(cF:V.ok)(h:Sep H (cf c V::xA c::aR c.g c.m X::L))(he:V.z.av[i]? =some e)(hl:V.z.av.length<=1000)
  (hR:∀H' r' i1 i3 i10,Sep H' (rA r' c (qT V.z.room e (py (c.h,hd V.z.room) (V.z.av.take i))) none (wE i1 i3 i10)::many [b1 i1 (P V.v),b1 i3 (I i),b1 i10 (P r')]::cf c V::xA c::aR c.g c.m X::L)->R (P r') H'):CA en F.V9 [P V.v,I i] H R:=by
 have hi:=(bJ.1 he).1;have GF:∃b,V.be=some b:=by
  cases hb:V.be with
  |none=>have:=cF.ne hb;rw [this] at hi;simp at hi
  |some b=>exact ⟨b,rfl⟩
 have⟨b,hb⟩:=GF;apply aBt;refine Sep.nw h λi1 H2 h2=>Sep.nw h2 λi3 H4 h4=>⟨_,Sep.bn h4 rfl,_,Sep.aG h4 rfl,?_⟩
 have h5:Sep H4 (cf c V::b1 i3 (I i)::b1 i1 (P V.v)::xA c::aR c.g c.m X::L):=Sep.pick h4 5 [2,0,1,3,4];refine alV cF h5 he λH8 r' h8=>⟨_,rfl,Sep.nw h8 λi10 cj jo=>Sep.dp jo (aS rfl) λbO fA=>?_⟩
 have hB:=fA.ae 13;refine ⟨_,Sep.aG hB rfl,_,Sep.aG hB rfl,af ⟨_,Sep.bn hB rfl,_,Sep.aG hB rfl,af ⟨_,Sep.bn hB rfl,?_⟩⟩⟩;apply ZW;refine Sep.nw hB λj H3 h3=>af ⟨_,Sep.wq h3 rfl,Sep.dp h3 (aS rfl) λH6 h6=>⟨_,_,Sep.jK h6 rfl,?_⟩⟩
 refine ⟨_,_,rfl,af (Sep.E_ h6 (aS rfl) λbN tL=>⟨?_,⟨⟨_,Sep.aG hB rfl,rfl⟩,⟨_,Sep.bn h6 rfl,rfl⟩,trivial⟩,trivial⟩)⟩;have rm:=Ce (Sep.k_ tL);rw [hb] at rm;have hC:=rm.ae 8;have hg:=dN.1 (Sep.k_ hC);refine ⟨_,Sep.au8 hC rfl,af ⟨_,_,Sep.bn hC rfl,_,Sep.ld9 hC rfl,by unfold vc;omega,⟨⟨_,_,_,Sep.gL hg,.inr rfl⟩,ace ⟨?_,trivial⟩⟩⟩⟩;rw [show ((i:Nat):Int).toNat=i from dr i];have aE:(V.z.av.take i).length=i:=by rw [km];omega
 refine ayI (λn t H=>∃j0:Nat,t=(j0:Int)/\n=i - j0/\j0<=i/\Sep H (rA r' c (qT V.z.room e (py (c.h,hd V.z.room) (V.z.av.take j0))) none .nilFunc::gl 1 (some b) (V.z.av.map I)::rA V.r c (zq V.z) none V.nv::vA V.v V.r V.bk (some b) V.z::gl 1 V.bk (V.z.keys.map W)::many (AZ c V.ia V.z)::many V.PL::b1 i10 (P r')::b1 i3 (I i)::b1 i1 (P V.v)::xA c::aR c.g c.m X::L)) i ⟨0,rfl,rfl,h_ _,?_⟩ ?_
 ·have nV:=hC;exact Sep.pick nV 13 [8,3,0,1,2,4,5,7,9,10,11,12]
 rintro n t30 ys tv ⟨j0,rfl,rfl,hj,Gv⟩;refine aI (λAf=>?_) λvZ=>?_
 ·have Af:j0<i:=by
   have:=ga Af
   omega
  have⟨x,hx⟩:∃x,V.z.av[j0]? =some x:=⟨_,cM (by omega)⟩;have sC:=dN.1 (Sep.iE Gv);have et:V.z.av.take (j0+1)=V.z.av.take j0++[x]:=by
   rw [vC,hx];rfl
  have ew:IntKind.i64.wrap ((j0:Int)+1)=((j0+1:Nat):Int):=by
   rw [wrap_i64 ⟨by omega,by omega⟩];omega
  refine ace ⟨by unfold az;omega,bG ⟨x,Sep.aG sC (by rw [dr,cG,ou,jg,hx];rfl),aI (λhp=>?_) λhn=>?_⟩⟩
  ·have hp:0<x:=ga hp;refine ⟨_,Sep.Ck Gv rfl,af (Sep.dp Gv (aS rfl) λH9 h9=>⟨i - (j0+1),by omega,j0+1,ew,rfl,Af,?_⟩)⟩;rw [et,N4,ar hp];exact h9
  ·have hn:¬0<x:=fQ hn;refine ⟨i - (j0+1),by omega,j0+1,ew,rfl,Af,?_⟩;rw [et,N4,an hn];exact Gv
 ·have vZ:¬((j0:Int)<(i:Int)):=fQ vZ;have e0:j0=i:=by omega
  subst e0;refine ⟨_,Sep.Ck Gv rfl,af (Sep.dp Gv (aS rfl) λdw nW=>⟨_,Sep.Ck nW rfl,?_⟩)⟩;refine hR dw r' i1 i3 i10 ?_;have BU:Sep dw ([b1 i1 (P V.v),b1 i3 (I j0),b1 i10 (P r')]++(rA r' c (qT V.z.room e (py (c.h,hd V.z.room) (V.z.av.take j0))) none (wE i1 i3 i10)::rA V.r c (zq V.z) none V.nv::vA V.v V.r V.bk (some b) V.z::gl 1 V.bk (V.z.keys.map W)::gl 1 (some b) (V.z.av.map I)::many (AZ c V.ia V.z)::many V.PL::xA c::aR c.g c.m X::L)):=Sep.pick nW 12 [9,8,7,0,2,3,4,1,5,6,10,11];have Vy:=Sep.iE (Sep.fX.2 BU);have h48:Sep dw (rA V.r c (zq V.z) none V.nv::vA V.v V.r V.bk V.be V.z::gl 1 V.bk (V.z.keys.map W)::gl 1 V.be (V.z.av.map I)::many (AZ c V.ia V.z)::many V.PL::many [b1 i1 (P V.v),b1 i3 (I j0),b1 i10 (P r')]::rA r' c (qT V.z.room e (py (c.h,hd V.z.room) (V.z.av.take j0))) none (wE i1 i3 i10)::xA c::aR c.g c.m X::L):=by
   rw [hb];exact Sep.pick Vy 10 [2,3,4,5,6,7,1,0,8,9]
  exact Sep.pick (Ap h48) 5 [2,1,0,3,4]
def Hv.cut (V:Hv)(i:Nat):Hv:={V with z:={V.z with av:=V.z.av.set i 0}}
theorem Hv.JB {V:Hv}{i:Nat}(h:V.ok):(V.cut i).ok:=
 ⟨h.nk,λe=>by show V.z.av.set i 0=[];rw [h.ne e];rfl,h.vv⟩
theorem aB9 {V:Hv}{i i1 i3 i10 r':Nat}{room e:Int}{a:Int×Int}(cF:V.ok)(hi:i<V.z.av.length)(h:Sep H (rA r' c (qT room e a) none (wE i1 i3 i10)::many [b1 i1 (P V.v),b1 i3 (I i),b1 i10 (P r')]::cf c V::xA c::aR c.g c.m X::L))
  (hR:∀H' aT,Rk H' aT r' c {qT room e a with nx:=.change (.take .done)} (X.to (X.G.S.acc c.h 0 true (ic tick)).2) (cf c (V.cut i)::L)->R (.tuple #[.bool false,.bool false]) H'):CA en F.BW [P r'] H R:=by
 have GF:∃b,V.be=some b:=by
  cases hb:V.be with
  |none=>have:=cF.ne hb;rw [this] at hi;simp at hi
  |some b=>exact ⟨b,rfl⟩
 have⟨b,hb⟩:=GF;apply ZX;refine af ⟨_,Sep.aG h rfl,bl rfl (af (Sep.dp h (aS rfl) λH6 h6=>af ⟨_,Sep.aG h6 rfl,?_⟩))⟩;have h6:Sep H6 (rA r' c (qT room e a) none (wE i1 i3 i10)::many [b1 i1 (P V.v),b1 i3 (I i),b1 i10 (P r')]::cf c V::xA c::aR c.g c.m X::L):=h6;refine eQ ⟨dG.1 (by kernel_rfl),?_⟩;show CA en F.PU [P i1,P i3,P i10] H6 _;apply aBu;have h7:=Ce (Sep.qM h6);rw [hb] at h7;have hB:=h7.ae 7;have m1:b1 i1 (P V.v)∈[b1 i1 (P V.v),b1 i3 (I i),b1 i10 (P r')]:=.head _;have m3:b1 i3 (I i)∈[b1 i1 (P V.v),b1 i3 (I i),b1 i10 (P r')]:=.tail _ (.head _);have m10:b1 i10 (P r')∈[b1 i1 (P V.v),b1 i3 (I i),b1 i10 (P r')]:=.tail _ (.tail _ (.head _));have hg:=dN.1 (Sep.k_ hB);refine af ⟨_,dI (k:=7) hB rfl m1 rfl,af ⟨_,_,Sep.bn hB rfl,af ⟨_,dI (k:=7) hB rfl m3 rfl,by unfold az;omega,bG ?_⟩⟩⟩;refine Sep.dp hg (by rw [dr,cG,ou,gb];exact hi) λcE gP=>?_
 have es:setAt (V.z.av.map I) (0+(i:Int).toNat*1) [I 0]=((V.cut i).z.av).map I:=by
  rw [dr,cG,ou];exact (zC ..).symm
 rw [es] at gP;refine ⟨af ⟨_,dI (k:=7) gP rfl m10 rfl,?_⟩,trivial⟩;have ig:Sep cE (rA V.r c (zq V.z) none V.nv::vA V.v V.r V.bk V.be (V.cut i).z::gl 1 V.bk (V.z.keys.map W)::gl 1 V.be ((V.cut i).z.av.map I)::many (AZ c V.ia V.z)::many V.PL::rA r' c (qT room e a) none (wE i1 i3 i10)::many [b1 i1 (P V.v),b1 i3 (I i),b1 i10 (P r')]::xA c::aR c.g c.m X::L):=by
  have el:(V.cut i).z.av.length=V.z.av.length:=gT;show Sep cE (_::bx V.v (.cells true 0 [P V.r,.slice (addr V.bk) V.z.keys.length 0,.slice (addr V.be) (V.cut i).z.av.length 0])::_);rw [el,hb];exact Sep.pick (dN.2 gP) 10 [1,2,3,0,4,5,6,7,8,9]
 have sr:Sep cE (cf c (V.cut i)::rA r' c (qT room e a) none (wE i1 i3 i10)::many [b1 i1 (P V.v),b1 i3 (I i),b1 i10 (P r')]::xA c::aR c.g c.m X::L):=Ap ig;have iJ:=Sep.vh sr;have rk:Rk cE [b1 i1 (P V.v),b1 i3 (I i),b1 i10 (P r')] r' c (qT room e a) X (cf c (V.cut i)::L):=
  ⟨none,wE i1 i3 i10,.inl ⟨rfl,rfl⟩,.none,Sep.pick iJ 6 [2,3,4,5,0,1]⟩
 refine alk (.done m10) rk λH' aT hp o=>⟨rfl,?_⟩
 refine ⟨rfl,?_⟩;have oB:=o.ae 10;refine af ⟨_,oB.br 8 (λ_ _=>rfl),af ⟨_,oB.br 9 (λ_ _=>rfl),?_,trivial⟩⟩;exact hR _ aT oB
end
end Go.Proofs.YtjggeoghlicmdaaGreat
