/-
  hashAgrees.proved: part 3 of its proof. No condition.
  Written by a program out of the texts Vc3 DeclM.
-/
import Derived.Test.YtjggeoghlicmdaaGreatHashAgreesP2
set_option linter.unusedVariables false
namespace Go.Proofs.YtjggeoghlicmdaaGreat
open Go Go.AS Go.RowKit
section
variable (H:aa)(R:VH)
set_option maxRecDepth 100000
set_option maxHeartbeats 2000000
noncomputable def TM:Code:=kE Go.Proofs.Tryz.f103 0
theorem aAs (x0:Oa)(a_:Nat) :
  (bif (decide ((a_:Int)>10)) then (R (iI 19) H) else (LA en TM [(sl x0 a_),ud,(iI 0),ud,ud,ud,(sl x0 a_),(iI (a_:Int)),(bb false),(sl x0 a_),(iI (a_:Int)),(iI 0),ud,ud,ud,ud,ud,ud,ud,ud,ud,ud] H [(X.exit 0,λ(y1:Fr)(H2:aa)=>AS.asInt .i64 (y1.getD 2 undef) λn3=>R (iI 0) H2),(X.ret,λ(y4:Fr)(H5:aa)=>AS.asInt .i64 (y4.getD 2 undef) λn6=>R (iI n6) H5)]))->
  CA en F.OM [(sl x0 a_)] H R:=vz [[(2,(iI 0))]] (by kernel_rfl)
theorem ayG {t6 t7 t8:Value}{t0:Oa}{aU:Nat}{t9:Oa}{HT:Nat}{t10:Int}{K0 K1:FH}{t2 t11:Int}{t4 t5 t12 t13 t14 t15 t16 t17 t18 t19 t20 t21:Value}{H:aa}(I:Nat->Int->Int->aa->Prop)(n:Nat)(h0:I n t2 t11 H)
  (cY:∀(n:Nat)(t2 t11:Int)(ys:Fr)(H:aa),I n t2 t11 H->
  (bif (decide (t11<t10)) then (az t11 HT/\aV t9 λi1 i2=>∃n3 n4 n5 n6 n7,H.aM i1 (i2+(t11.toNat*5)) 5=some [(iI n3),(iI n4),(iI n5),(iI n6),(iI n7)]/\aC H (.cells true 0 [(iI 0),(iI 0),(iI 0),(iI 0),(iI 0)]) λi8 H9=>aq H9 i8 0 [(iI n3),(iI n4),(iI n5),(iI n6),(iI n7)] λeO=>∃bI bH gQ cO bC,eO.aM i8 0 5=some [(iI bI),(iI bH),(iI gQ),(iI cO),(iI bC)]/\CA en F.UH [(sl t0 aU),(.agg #[(iI bI),(iI bH),(iI gQ),(iI cO),(iI bC)])] eO λoX aQ=>∃aY,oX=(iI aY)/\bif (aY !=0) then (K1 [(sl t0 aU),ud,(iI aY),ud,(pt (ad i8)),(iI aY),t6,t7,t8,(sl t9 HT),(iI t10),(iI t11),(bb true),(pA i1 (i2+(t11.toNat*5))),(.agg #[(iI n3),(iI n4),(iI n5),(iI n6),(iI n7)]),(sl t0 aU),(.agg #[(iI bI),(iI bH),(iI gQ),(iI cO),(iI bC)]),(iI aY),(iI aY),(bb true),(iI aY),(gd ys 21)] aQ) else (∃KM,KM<n/\I KM t2 (IntKind.i64.wrap (t11+1)) aQ)) else (K0 [(sl t0 aU),ud,(iI t2),ud,(gd ys 4),(gd ys 5),t6,t7,t8,(sl t9 HT),(iI t10),(iI t11),(bb false),(gd ys 13),(gd ys 14),(gd ys 15),(gd ys 16),(gd ys 17),(gd ys 18),(gd ys 19),(gd ys 20),(gd ys 21)] H))) :
  LA en TM [(sl t0 aU),ud,(iI t2),ud,t4,t5,t6,t7,t8,(sl t9 HT),(iI t10),(iI t11),t12,t13,t14,t15,t16,t17,t18,t19,t20,t21] H [(X.exit 0,K0),(X.ret,K1)]:=by
 refine ko (Z:=[]) (λm xs H'=>AS.asInt .i64 (xs.getD 2 undef) λt2=>AS.asInt .i64 (xs.getD 11 undef) λt11=>I m t2 t11 H') ?_ n H ?_
 ·intro n H
  suffices hs:∀c6 c7 c8 s4 dA c9 cH s5 c_ dB db s2 dC dz:Value,((AS.asInt .i64 s2 λt2=>AS.asInt .i64 dz λt11=>I n t2 t11 H)->gr en TM [] [(sl t0 aU),ud,s2,ud,s4,s5,t6,t7,t8,(sl t9 HT),(iI t10),dz,c6,c7,c8,dA,c9,cH,c_,dB,db,dC] H (kh (λm xs H'=>AS.asInt .i64 (xs.getD 2 undef) λt2=>AS.asInt .i64 (xs.getD 11 undef) λt11=>I m t2 t11 H') n [(X.exit 0,K0),(X.ret,K1)])) by
   apply bL hs
   kernel_rfl
  intro c6 c7 c8 s4 dA c9 cH s5 c_ dB db s2 dC dz hP;replace hP:=gF hP;obtain ⟨t2,rfl,hP⟩:=hP;replace hP:=gF hP;obtain ⟨t11,rfl,hP⟩:=hP;apply bL (cY n t2 t11 [(sl t0 aU),ud,(iI t2),ud,s4,s5,t6,t7,t8,(sl t9 HT),(iI t10),(iI t11),c6,c7,c8,dA,c9,cH,c_,dB,db,dC] H hP);kernel_rfl
 ·apply bL h0
  kernel_rfl
theorem aAt (x0:Oa)(a_:Nat)(fc fe fg fP jD:Int) :
  (aC H (.cells true 0 [(iI fc),(iI fe),(iI fg),(iI fP),(iI jD)]) λi1 H2=>∃n3,H2.cell i1 0=some (iI n3)/\CA en F.nU [(iI n3)] H2 λv4 H5=>∃n6 b7 b8 a9 i10 DI w6,v4=(.tuple #[(.agg #[(iI n6),(bb b7),(bb b8),(sl a9 i10),(bb DI)]),(bb w6)])/\aC H5 (.cells true 0 [(iI 0),(bb false),(bb false),s0,(bb false)]) λi13 bt=>aq bt i13 0 [(iI n6),(bb b7),(bb b8),(sl a9 i10),(bb DI)] λcz=>bif (!w6) then (R (iI 1) cz) else (∃dy,cz.cell i1 1=some (iI dy)/\CA en F.zS [(iI dy),(iI 64)] cz λsY gv=>∃uO,sY=(bb uO)/\bif (!uO) then (R (iI 1) gv) else (∃cU,gv.cell i1 2=some (iI cU)/\∃bX,gv.cell i13 0=some (iI bX)/\CA en F.zS [(iI cU),(iI bX)] gv λqN aZ=>∃pC,qN=(bb pC)/\bif (!pC) then (R (iI 1) aZ) else (∃Oc,aZ.cell i13 1=some (bb Oc)/\bif Oc then (∃dL,aZ.cell i1 3=some (iI dL)/\CA en F.zS [(iI dL),(iI 32)] aZ λwH bN=>∃Je,wH=(bb Je)/\bif (!Je) then (R (iI 1) bN) else (∃jf,bN.cell i1 3=some (iI jf)/\CA en F.Q3 [(iU (IntKind.u64.wrap jf))] bN λwI bU=>∃jq,wI=(iI jq)/\bif (jq !=1) then (R (iI 1) bU) else (∃Jf,bU.cell i13 1=some (bb Jf)/\bif (!Jf) then (∃qF,bU.cell i1 3=some (iI qF)/\bif (qF !=0) then (R (iI 1) bU) else (∃BH,bU.cell i13 2=some (bb BH)/\bif BH then (∃iz,bU.cell i1 4=some (iI iz)/\CA en F.zS [(iI iz),(iI (a_:Int))] bU λFm ja=>∃w7,Fm=(bb w7)/\bif (!w7) then (R (iI 1) ja) else (∃b41,ja.cell i13 2=some (bb b41)/\bif (!b41) then (∃kW,ja.cell i1 4=some (iI kW)/\bif (kW !=0) then (R (iI 1) ja) else (∃BI,ja.cell i13 2=some (bb BI)/\bif BI then (∃my,ja.cell i1 4=some (iI my)/\az (IntKind.i64.wrap (my - 1)) a_/\aV x0 λi45 i46=>∃gR,ja.cell i45 (i46+((IntKind.i64.wrap (my - 1)).toNat*5))=some (iI gR)/\CA en F.nU [(iI gR)] ja λAX jl=>∃gS Ji BK lr i54 Jj vP,AX=(.tuple #[(.agg #[(iI gS),(bb Ji),(bb BK),(sl lr i54),(bb Jj)]),(bb vP)])/\aC jl (.cells true 0 [(iI 0),(bb false),(bb false),s0,(bb false)]) λi57 lh=>aq lh i57 0 [(iI gS),(bb Ji),(bb BK),(sl lr i54),(bb Jj)] λoy=>∃uQ,oy.cell i57 2=some (bb uQ)/\bif uQ then (R (iI 14) oy) else (R (iI 0) oy)) else (R (iI 0) ja))) else (∃Oe,ja.cell i13 2=some (bb Oe)/\bif Oe then (∃pP,ja.cell i1 4=some (iI pP)/\az (IntKind.i64.wrap (pP - 1)) a_/\aV x0 λi63 i64=>∃yV,ja.cell i63 (i64+((IntKind.i64.wrap (pP - 1)).toNat*5))=some (iI yV)/\CA en F.nU [(iI yV)] ja λv66 uE=>∃iW Jn DK oI i72 Jo Of,v66=(.tuple #[(.agg #[(iI iW),(bb Jn),(bb DK),(sl oI i72),(bb Jo)]),(bb Of)])/\aC uE (.cells true 0 [(iI 0),(bb false),(bb false),s0,(bb false)]) λi75 gW=>aq gW i75 0 [(iI iW),(bb Jn),(bb DK),(sl oI i72),(bb Jo)] λwR=>∃BM,wR.cell i75 2=some (bb BM)/\bif BM then (R (iI 14) wR) else (R (iI 0) wR)) else (R (iI 0) ja)))) else (∃Jp,bU.cell i13 2=some (bb Jp)/\bif (!Jp) then (∃qG,bU.cell i1 4=some (iI qG)/\bif (qG !=0) then (R (iI 1) bU) else (∃b81,bU.cell i13 2=some (bb b81)/\bif b81 then (∃Hk,bU.cell i1 4=some (iI Hk)/\az (IntKind.i64.wrap (Hk - 1)) a_/\aV x0 λi83 i84=>∃oM,bU.cell i83 (i84+((IntKind.i64.wrap (Hk - 1)).toNat*5))=some (iI oM)/\CA en F.nU [(iI oM)] bU λR_ FN=>∃sI b89 b90 a91 i92 Jr DL,R_=(.tuple #[(.agg #[(iI sI),(bb b89),(bb b90),(sl a91 i92),(bb Jr)]),(bb DL)])/\aC FN (.cells true 0 [(iI 0),(bb false),(bb false),s0,(bb false)]) λi95 Bu=>aq Bu i95 0 [(iI sI),(bb b89),(bb b90),(sl a91 i92),(bb Jr)] λvH=>∃BN,vH.cell i95 2=some (bb BN)/\bif BN then (R (iI 14) vH) else (R (iI 0) vH)) else (R (iI 0) bU))) else (∃b99,bU.cell i13 2=some (bb b99)/\bif b99 then (∃Hd,bU.cell i1 4=some (iI Hd)/\az (IntKind.i64.wrap (Hd - 1)) a_/\aV x0 λi101 i102=>∃tZ,bU.cell i101 (i102+((IntKind.i64.wrap (Hd - 1)).toNat*5))=some (iI tZ)/\CA en F.nU [(iI tZ)] bU λayL amU=>∃Cr I7 I8 abn i110 I9 apE,ayL=(.tuple #[(.agg #[(iI Cr),(bb I7),(bb I8),(sl abn i110),(bb I9)]),(bb apE)])/\aC amU (.cells true 0 [(iI 0),(bb false),(bb false),s0,(bb false)]) λi113 amX=>aq amX i113 0 [(iI Cr),(bb I7),(bb I8),(sl abn i110),(bb I9)] λwP=>∃ack,wP.cell i113 2=some (bb ack)/\bif ack then (R (iI 14) wP) else (R (iI 0) wP)) else (R (iI 0) bU))))) else (∃acm,bU.cell i13 2=some (bb acm)/\bif acm then (∃t_,bU.cell i1 4=some (iI t_)/\CA en F.zS [(iI t_),(iI (a_:Int))] bU λML jj=>∃BG,ML=(bb BG)/\bif (!BG) then (R (iI 1) jj) else (∃acp,jj.cell i13 2=some (bb acp)/\bif (!acp) then (∃Cw,jj.cell i1 4=some (iI Cw)/\bif (Cw !=0) then (R (iI 1) jj) else (∃acq,jj.cell i13 2=some (bb acq)/\bif acq then (∃Ay,jj.cell i1 4=some (iI Ay)/\az (IntKind.i64.wrap (Ay - 1)) a_/\aV x0 λi126 i127=>∃Lh,jj.cell i126 (i127+((IntKind.i64.wrap (Ay - 1)).toNat*5))=some (iI Lh)/\CA en F.nU [(iI Lh)] jj λayP am0=>∃Cx I_ acs Bz i135 acu Ob,ayP=(.tuple #[(.agg #[(iI Cx),(bb I_),(bb acs),(sl Bz i135),(bb acu)]),(bb Ob)])/\aC am0 (.cells true 0 [(iI 0),(bb false),(bb false),s0,(bb false)]) λi138 Du=>aq Du i138 0 [(iI Cx),(bb I_),(bb acs),(sl Bz i135),(bb acu)] λIw=>∃acw,Iw.cell i138 2=some (bb acw)/\bif acw then (R (iI 14) Iw) else (R (iI 0) Iw)) else (R (iI 0) jj))) else (∃acx,jj.cell i13 2=some (bb acx)/\bif acx then (∃Az,jj.cell i1 4=some (iI Az)/\az (IntKind.i64.wrap (Az - 1)) a_/\aV x0 λi144 i145=>∃aiS,jj.cell i144 (i145+((IntKind.i64.wrap (Az - 1)).toNat*5))=some (iI aiS)/\CA en F.nU [(iI aiS)] jj λayX am3=>∃Cz acz acA abE i153 Ja apF,ayX=(.tuple #[(.agg #[(iI Cz),(bb acz),(bb acA),(sl abE i153),(bb Ja)]),(bb apF)])/\aC am3 (.cells true 0 [(iI 0),(bb false),(bb false),s0,(bb false)]) λi156 NH=>aq NH i156 0 [(iI Cz),(bb acz),(bb acA),(sl abE i153),(bb Ja)] λIx=>∃acB,Ix.cell i156 2=some (bb acB)/\bif acB then (R (iI 14) Ix) else (R (iI 0) Ix)) else (R (iI 0) jj)))) else (∃acC,bU.cell i13 2=some (bb acC)/\bif (!acC) then (∃CC,bU.cell i1 4=some (iI CC)/\bif (CC !=0) then (R (iI 1) bU) else (∃acD,bU.cell i13 2=some (bb acD)/\bif acD then (∃AA,bU.cell i1 4=some (iI AA)/\az (IntKind.i64.wrap (AA - 1)) a_/\aV x0 λi164 i165=>∃Ly,bU.cell i164 (i165+((IntKind.i64.wrap (AA - 1)).toNat*5))=some (iI Ly)/\CA en F.nU [(iI Ly)] bU λay2 am7=>∃CD acF acG IS i173 Jb apG,ay2=(.tuple #[(.agg #[(iI CD),(bb acF),(bb acG),(sl IS i173),(bb Jb)]),(bb apG)])/\aC am7 (.cells true 0 [(iI 0),(bb false),(bb false),s0,(bb false)]) λi176 S0=>aq S0 i176 0 [(iI CD),(bb acF),(bb acG),(sl IS i173),(bb Jb)] λS1=>∃acH,S1.cell i176 2=some (bb acH)/\bif acH then (R (iI 14) S1) else (R (iI 0) S1)) else (R (iI 0) bU))) else (∃acJ,bU.cell i13 2=some (bb acJ)/\bif acJ then (∃Hg,bU.cell i1 4=some (iI Hg)/\az (IntKind.i64.wrap (Hg - 1)) a_/\aV x0 λi182 i183=>∃ai5,bU.cell i182 (i183+((IntKind.i64.wrap (Hg - 1)).toNat*5))=some (iI ai5)/\CA en F.nU [(iI ai5)] bU λay8 anb=>∃LI acM acN abJ i191 acP apH,ay8=(.tuple #[(.agg #[(iI LI),(bb acM),(bb acN),(sl abJ i191),(bb acP)]),(bb apH)])/\aC anb (.cells true 0 [(iI 0),(bb false),(bb false),s0,(bb false)]) λi194 anf=>aq anf i194 0 [(iI LI),(bb acM),(bb acN),(sl abJ i191),(bb acP)] λS3=>∃acQ,S3.cell i194 2=some (bb acQ)/\bif acQ then (R (iI 14) S3) else (R (iI 0) S3)) else (R (iI 0) bU))))))) else (∃acR,aZ.cell i13 1=some (bb acR)/\bif (!acR) then (∃aja,aZ.cell i1 3=some (iI aja)/\bif (aja !=0) then (R (iI 1) aZ) else (∃acS,aZ.cell i13 2=some (bb acS)/\bif acS then (∃LJ,aZ.cell i1 4=some (iI LJ)/\CA en F.zS [(iI LJ),(iI (a_:Int))] aZ λaza tq=>∃acU,aza=(bb acU)/\bif (!acU) then (R (iI 1) tq) else (∃acV,tq.cell i13 2=some (bb acV)/\bif (!acV) then (∃ajd,tq.cell i1 4=some (iI ajd)/\bif (ajd !=0) then (R (iI 1) tq) else (∃Jc,tq.cell i13 2=some (bb Jc)/\bif Jc then (∃Hi,tq.cell i1 4=some (iI Hi)/\az (IntKind.i64.wrap (Hi - 1)) a_/\aV x0 λi209 i210=>∃Hj,tq.cell i209 (i210+((IntKind.i64.wrap (Hi - 1)).toNat*5))=some (iI Hj)/\CA en F.nU [(iI Hj)] tq λazd anj=>∃LL acW acX abK i218 acZ apI,azd=(.tuple #[(.agg #[(iI LL),(bb acW),(bb acX),(sl abK i218),(bb acZ)]),(bb apI)])/\aC anj (.cells true 0 [(iI 0),(bb false),(bb false),s0,(bb false)]) λi221 anm=>aq anm i221 0 [(iI LL),(bb acW),(bb acX),(sl abK i218),(bb acZ)] λS4=>∃ac0,S4.cell i221 2=some (bb ac0)/\bif ac0 then (R (iI 14) S4) else (R (iI 0) S4)) else (R (iI 0) tq))) else (∃ac1,tq.cell i13 2=some (bb ac1)/\bif ac1 then (∃Xy,tq.cell i1 4=some (iI Xy)/\az (IntKind.i64.wrap (Xy - 1)) a_/\aV x0 λi227 i228=>∃LM,tq.cell i227 (i228+((IntKind.i64.wrap (Xy - 1)).toNat*5))=some (iI LM)/\CA en F.nU [(iI LM)] tq λazg anp=>∃aji ac2 ac3 abL i236 ac4 apJ,azg=(.tuple #[(.agg #[(iI aji),(bb ac2),(bb ac3),(sl abL i236),(bb ac4)]),(bb apJ)])/\aC anp (.cells true 0 [(iI 0),(bb false),(bb false),s0,(bb false)]) λi239 ans=>aq ans i239 0 [(iI aji),(bb ac2),(bb ac3),(sl abL i236),(bb ac4)] λIy=>∃ac5,Iy.cell i239 2=some (bb ac5)/\bif ac5 then (R (iI 14) Iy) else (R (iI 0) Iy)) else (R (iI 0) tq)))) else (∃ac6,aZ.cell i13 2=some (bb ac6)/\bif (!ac6) then (∃LN,aZ.cell i1 4=some (iI LN)/\bif (LN !=0) then (R (iI 1) aZ) else (∃ac7,aZ.cell i13 2=some (bb ac7)/\bif ac7 then (∃Xz,aZ.cell i1 4=some (iI Xz)/\az (IntKind.i64.wrap (Xz - 1)) a_/\aV x0 λi247 i248=>∃ajl,aZ.cell i247 (i248+((IntKind.i64.wrap (Xz - 1)).toNat*5))=some (iI ajl)/\CA en F.nU [(iI ajl)] aZ λazh anu=>∃ajm ac8 ac9 abM i256 ac_ apK,azh=(.tuple #[(.agg #[(iI ajm),(bb ac8),(bb ac9),(sl abM i256),(bb ac_)]),(bb apK)])/\aC anu (.cells true 0 [(iI 0),(bb false),(bb false),s0,(bb false)]) λi259 anx=>aq anx i259 0 [(iI ajm),(bb ac8),(bb ac9),(sl abM i256),(bb ac_)] λS5=>∃ada,S5.cell i259 2=some (bb ada)/\bif ada then (R (iI 14) S5) else (R (iI 0) S5)) else (R (iI 0) aZ))) else (∃adb,aZ.cell i13 2=some (bb adb)/\bif adb then (∃XA,aZ.cell i1 4=some (iI XA)/\az (IntKind.i64.wrap (XA - 1)) a_/\aV x0 λi265 i266=>∃ajp,aZ.cell i265 (i266+((IntKind.i64.wrap (XA - 1)).toNat*5))=some (iI ajp)/\CA en F.nU [(iI ajp)] aZ λZL S6=>∃ajq ade adf abN i274 adg apL,ZL=(.tuple #[(.agg #[(iI ajq),(bb ade),(bb adf),(sl abN i274),(bb adg)]),(bb apL)])/\aC S6 (.cells true 0 [(iI 0),(bb false),(bb false),s0,(bb false)]) λi277 anC=>aq anC i277 0 [(iI ajq),(bb ade),(bb adf),(sl abN i274),(bb adg)] λS7=>∃adh,S7.cell i277 2=some (bb adh)/\bif adh then (R (iI 14) S7) else (R (iI 0) S7)) else (R (iI 0) aZ))))) else (∃adi,aZ.cell i13 2=some (bb adi)/\bif adi then (∃ajt,aZ.cell i1 4=some (iI ajt)/\CA en F.zS [(iI ajt),(iI (a_:Int))] aZ λazj qX=>∃adj,azj=(bb adj)/\bif (!adj) then (R (iI 1) qX) else (∃adk,qX.cell i13 2=some (bb adk)/\bif (!adk) then (∃aju,qX.cell i1 4=some (iI aju)/\bif (aju !=0) then (R (iI 1) qX) else (∃adl,qX.cell i13 2=some (bb adl)/\bif adl then (∃XB,qX.cell i1 4=some (iI XB)/\az (IntKind.i64.wrap (XB - 1)) a_/\aV x0 λi290 i291=>∃ajv,qX.cell i290 (i291+((IntKind.i64.wrap (XB - 1)).toNat*5))=some (iI ajv)/\CA en F.nU [(iI ajv)] qX λazk anE=>∃ajw adm adn abO i299 ado apM,azk=(.tuple #[(.agg #[(iI ajw),(bb adm),(bb adn),(sl abO i299),(bb ado)]),(bb apM)])/\aC anE (.cells true 0 [(iI 0),(bb false),(bb false),s0,(bb false)]) λi302 anF=>aq anF i302 0 [(iI ajw),(bb adm),(bb adn),(sl abO i299),(bb ado)] λS8=>∃adp,S8.cell i302 2=some (bb adp)/\bif adp then (R (iI 14) S8) else (R (iI 0) S8)) else (R (iI 0) qX))) else (∃adq,qX.cell i13 2=some (bb adq)/\bif adq then (∃XC,qX.cell i1 4=some (iI XC)/\az (IntKind.i64.wrap (XC - 1)) a_/\aV x0 λi308 i309=>∃ajx,qX.cell i308 (i309+((IntKind.i64.wrap (XC - 1)).toNat*5))=some (iI ajx)/\CA en F.nU [(iI ajx)] qX λazl anG=>∃ajy adr ads abP ag7 adt apN,azl=(.tuple #[(.agg #[(iI ajy),(bb adr),(bb ads),(sl abP ag7),(bb adt)]),(bb apN)])/\aC anG (.cells true 0 [(iI 0),(bb false),(bb false),s0,(bb false)]) λag8 anH=>aq anH ag8 0 [(iI ajy),(bb adr),(bb ads),(sl abP ag7),(bb adt)] λS9=>∃adu,S9.cell ag8 2=some (bb adu)/\bif adu then (R (iI 14) S9) else (R (iI 0) S9)) else (R (iI 0) qX)))) else (∃adv,aZ.cell i13 2=some (bb adv)/\bif (!adv) then (∃ajz,aZ.cell i1 4=some (iI ajz)/\bif (ajz !=0) then (R (iI 1) aZ) else (∃adw,aZ.cell i13 2=some (bb adw)/\bif adw then (∃XD,aZ.cell i1 4=some (iI XD)/\az (IntKind.i64.wrap (XD - 1)) a_/\aV x0 λauo aup=>∃ajA,aZ.cell auo (aup+((IntKind.i64.wrap (XD - 1)).toNat*5))=some (iI ajA)/\CA en F.nU [(iI ajA)] aZ λazm anI=>∃ajB adx ady abQ ag9 adz apP,azm=(.tuple #[(.agg #[(iI ajB),(bb adx),(bb ady),(sl abQ ag9),(bb adz)]),(bb apP)])/\aC anI (.cells true 0 [(iI 0),(bb false),(bb false),s0,(bb false)]) λag_ anJ=>aq anJ ag_ 0 [(iI ajB),(bb adx),(bb ady),(sl abQ ag9),(bb adz)] λS_=>∃adA,S_.cell ag_ 2=some (bb adA)/\bif adA then (R (iI 14) S_) else (R (iI 0) S_)) else (R (iI 0) aZ))) else (∃adB,aZ.cell i13 2=some (bb adB)/\bif adB then (∃XE,aZ.cell i1 4=some (iI XE)/\az (IntKind.i64.wrap (XE - 1)) a_/\aV x0 λauq aur=>∃ajC,aZ.cell auq (aur+((IntKind.i64.wrap (XE - 1)).toNat*5))=some (iI ajC)/\CA en F.nU [(iI ajC)] aZ λazn anK=>∃ajD adC adD abR aha adE apQ,azn=(.tuple #[(.agg #[(iI ajD),(bb adC),(bb adD),(sl abR aha),(bb adE)]),(bb apQ)])/\aC anK (.cells true 0 [(iI 0),(bb false),(bb false),s0,(bb false)]) λahb anL=>aq anL ahb 0 [(iI ajD),(bb adC),(bb adD),(sl abR aha),(bb adE)] λTa=>∃adF,Ta.cell ahb 2=some (bb adF)/\bif adF then (R (iI 14) Ta) else (R (iI 0) Ta)) else (R (iI 0) aZ)))))))))->
  CA en F.UH [(sl x0 a_),(.agg #[(iI fc),(iI fe),(iI fg),(iI fP),(iI jD)])] H R:=vk (by kernel_rfl)
noncomputable def Tz:Code:=kE Go.Proofs.Tryz.f136 0
theorem azZ (x0:Oa)(a_:Nat) :
  (bif (decide ((a_:Int)>10)) then (R (iI 19) H) else (LA en Tz [(sl x0 a_),ud,(iI 0),(iI 0),ud,(sl x0 a_),(iI (a_:Int)),(bb false),ud,ud,ud,ud,ud,ud,ud,ud,ud,ud,ud,ud,ud,ud,ud] H [(X.exit 0,λ(y1:Fr)(H2:aa)=>AS.asInt .i64 (y1.getD 2 undef) λn3=>R (iI 0) H2),(X.ret,λ(y4:Fr)(H5:aa)=>AS.asInt .i64 (y4.getD 2 undef) λn6=>R (iI n6) H5)]))->
  CA en F.Uq [(sl x0 a_)] H R:=vz [[(2,(iI 0))]] (by kernel_rfl)
theorem ayv {t5 t6 t7:Value}{t0:Oa}{aU:Nat}{K0 K1:FH}{t2 t3:Int}{t4 t8 t9 t10 t11 t12 t13 t14 t15 t16 t17 t18 t19 t20 t21 t22:Value}{H:aa}(I:Nat->Int->Int->aa->Prop)(n:Nat)(h0:I n t2 t3 H)
  (cY:∀(n:Nat)(t2 t3:Int)(ys:Fr)(H:aa),I n t2 t3 H->
  (bif (decide (t3<(aU:Int))) then (az t3 aU/\aV t0 λi1 i2=>∃n3 n4 n5 n6 n7,H.aM i1 (i2+(t3.toNat*5)) 5=some [(iI n3),(iI n4),(iI n5),(iI n6),(iI n7)]/\CA en F.Us [(sl t0 aU),(.agg #[(iI n3),(iI n4),(iI n5),(iI n6),(iI n7)])] H λv8 H9=>∃fC,v8=(iI fC)/\bif (fC !=0) then (K1 [(sl t0 aU),ud,(iI fC),(iI t3),(iI fC),t5,t6,t7,(iI t3),(sl t0 aU),(iI (aU:Int)),(bb true),(gd ys 12),(gd ys 13),(sl t0 aU),(sl t0 aU),(iI t3),(pA i1 (i2+(t3.toNat*5))),(.agg #[(iI n3),(iI n4),(iI n5),(iI n6),(iI n7)]),(iI fC),(iI fC),(bb true),(iI fC)] H9) else (∃Ci,Ci<n/\I Ci t2 (IntKind.i64.wrap (t3+1)) H9)) else (K0 [(sl t0 aU),ud,(iI t2),(iI t3),(gd ys 4),t5,t6,t7,(iI t3),(sl t0 aU),(iI (aU:Int)),(bb false),(gd ys 12),(gd ys 13),(gd ys 14),(gd ys 15),(gd ys 16),(gd ys 17),(gd ys 18),(gd ys 19),(gd ys 20),(gd ys 21),(gd ys 22)] H))) :
  LA en Tz [(sl t0 aU),ud,(iI t2),(iI t3),t4,t5,t6,t7,t8,t9,t10,t11,t12,t13,t14,t15,t16,t17,t18,t19,t20,t21,t22] H [(X.exit 0,K0),(X.ret,K1)]:=by
 refine ko (Z:=[]) (λm xs H'=>AS.asInt .i64 (xs.getD 2 undef) λt2=>AS.asInt .i64 (xs.getD 3 undef) λt3=>I m t2 t3 H') ?_ n H ?_
 ·intro n H
  suffices hs:∀s8 s9 dR dz c8 dA c9 cH c_ dB s4 db dC dS s2 c6 c7 s3:Value,((AS.asInt .i64 s2 λt2=>AS.asInt .i64 s3 λt3=>I n t2 t3 H)->gr en Tz [] [(sl t0 aU),ud,s2,s3,s4,t5,t6,t7,s8,s9,dR,dz,c6,c7,c8,dA,c9,cH,c_,dB,db,dC,dS] H (kh (λm xs H'=>AS.asInt .i64 (xs.getD 2 undef) λt2=>AS.asInt .i64 (xs.getD 3 undef) λt3=>I m t2 t3 H') n [(X.exit 0,K0),(X.ret,K1)])) by
   apply bL hs
   kernel_rfl
  intro s8 s9 dR dz c8 dA c9 cH c_ dB s4 db dC dS s2 c6 c7 s3 hP;replace hP:=gF hP;obtain ⟨t2,rfl,hP⟩:=hP;replace hP:=gF hP;obtain ⟨t3,rfl,hP⟩:=hP;apply bL (cY n t2 t3 [(sl t0 aU),ud,(iI t2),(iI t3),s4,t5,t6,t7,s8,s9,dR,dz,c6,c7,c8,dA,c9,cH,c_,dB,db,dC,dS] H hP);kernel_rfl
 ·apply bL h0
  kernel_rfl
theorem az3 (x0:Oa)(a_:Nat)(fc fe fg fP jD:Int) :
  (aC H (.cells true 0 [(iI fc),(iI fe),(iI fg),(iI fP),(iI jD)]) λi1 H2=>∃n3,H2.cell i1 0=some (iI n3)/\bif (n3==3) then (∃n4,H2.cell i1 0=some (iI n4)/\bif (decide (n4<1)) then (R (iI 1) H2) else (∃n5,H2.cell i1 0=some (iI n5)/\bif (decide (n5>10)) then (R (iI 1) H2) else (∃n6,H2.cell i1 1=some (iI n6)/\bif (decide (n6<1)) then (R (iI 1) H2) else (∃n7,H2.cell i1 1=some (iI n7)/\bif (decide (n7>64)) then (R (iI 1) H2) else (∃n8,H2.cell i1 2=some (iI n8)/\bif (decide (n8<1)) then (R (iI 1) H2) else (∃n9,H2.cell i1 2=some (iI n9)/\bif (decide (n9>4)) then (R (iI 1) H2) else (∃fC,(H2.ae 18).cell i1 0=some (iI fC)/\CA en F.yq [(iI fC)] (H2.ae 18) λv11 bO=>∃pB,v11=(bb pB)/\∃cO,bO.cell i1 3=some (iI cO)/\bif (!(pB==(cO !=0))) then ((R (iI 1) bO)/\(((cO !=0)=(cO !=0))/\((cO !=0)=(cO !=0))/\True)/\((∃dy,(H2.ae 18).cell i1 3=some (iI dy)/\cO=dy)/\(∃bC,bO.cell i1 3=some (iI bC)/\cO=bC)/\True)/\True) else (∃dQ,bO.cell i1 0=some (iI dQ)/\CA en F.yq [(iI dQ)] bO λoY bf=>∃nS,oY=(bb nS)/\bif nS then (∃bX,bf.cell i1 3=some (iI bX)/\CA en F.Gb [(iI bX)] bf λqN aZ=>∃pC,qN=(bb pC)/\(bif (!pC) then (R (iI 1) aZ) else (∃jL,aZ.cell i1 0=some (iI jL)/\CA en F.iH [(iI jL)] aZ λvB fq=>∃m_,vB=(bb m_)/\bif (!m_) then (∃fY,fq.cell i1 4=some (iI fY)/\bif (fY !=0) then (R (iI 1) fq) else (R (iI 0) fq)) else (∃fZ,fq.cell i1 4=some (iI fZ)/\bif (decide (fZ<1)) then (R (iI 1) fq) else (∃jq,fq.cell i1 4=some (iI jq)/\bif (decide (jq>(a_:Int))) then (R (iI 1) fq) else (∃gn,fq.cell i1 4=some (iI gn)/\az (IntKind.i64.wrap (gn - 1)) a_/\aV x0 λi35 i36=>∃iz,fq.cell i35 (i36+((IntKind.i64.wrap (gn - 1)).toNat*5))=some (iI iz)/\CA en F.iH [(iI iz)] fq λFm ja=>∃w7,Fm=(bb w7)/\bif w7 then (R (iI 14) ja) else (R (iI 0) ja))))))/\(((cO !=0)=(cO !=0))/\((cO !=0)=(cO !=0))/\True)/\((∃dL,(H2.ae 18).cell i1 3=some (iI dL)/\cO=dL)/\(∃cc,bO.cell i1 3=some (iI cc)/\cO=cc)/\True)/\True) else ((∃mw,bf.cell i1 0=some (iI mw)/\CA en F.iH [(iI mw)] bf λAW dw=>∃w8,AW=(bb w8)/\bif (!w8) then (∃gR,dw.cell i1 4=some (iI gR)/\bif (gR !=0) then (R (iI 1) dw) else (R (iI 0) dw)) else (∃jW,dw.cell i1 4=some (iI jW)/\bif (decide (jW<1)) then (R (iI 1) dw) else (∃lX,dw.cell i1 4=some (iI lX)/\bif (decide (lX>(a_:Int))) then (R (iI 1) dw) else (∃gS,dw.cell i1 4=some (iI gS)/\az (IntKind.i64.wrap (gS - 1)) a_/\aV x0 λi51 i52=>∃kX,dw.cell i51 (i52+((IntKind.i64.wrap (gS - 1)).toNat*5))=some (iI kX)/\CA en F.iH [(iI kX)] dw λMQ yh=>∃vP,MQ=(bb vP)/\bif vP then (R (iI 14) yh) else (R (iI 0) yh)))))/\(((cO !=0)=(cO !=0))/\((cO !=0)=(cO !=0))/\True)/\((∃kW,(H2.ae 18).cell i1 3=some (iI kW)/\cO=kW)/\(∃kV,bO.cell i1 3=some (iI kV)/\cO=kV)/\True)/\True))))))))) else (∃xz,H2.cell i1 0=some (iI xz)/\bif (xz==6) then (∃pO,H2.cell i1 0=some (iI pO)/\bif (decide (pO<1)) then (R (iI 1) H2) else (∃uc,H2.cell i1 0=some (iI uc)/\bif (decide (uc>10)) then (R (iI 1) H2) else (∃lY,H2.cell i1 1=some (iI lY)/\bif (decide (lY<1)) then (R (iI 1) H2) else (∃ue,H2.cell i1 1=some (iI ue)/\bif (decide (ue>64)) then (R (iI 1) H2) else (∃pP,H2.cell i1 2=some (iI pP)/\bif (decide (pP<1)) then (R (iI 1) H2) else (∃xB,H2.cell i1 2=some (iI xB)/\bif (decide (xB>4)) then (R (iI 1) H2) else (∃xC,(H2.ae 18).cell i1 0=some (iI xC)/\CA en F.yq [(iI xC)] (H2.ae 18) λZP pk=>∃Jm,ZP=(bb Jm)/\∃iW,pk.cell i1 3=some (iI iW)/\bif (!(Jm==(iW !=0))) then ((R (iI 1) pk)/\(((iW !=0)=(iW !=0))/\((iW !=0)=(iW !=0))/\True)/\((∃xF,(H2.ae 18).cell i1 3=some (iI xF)/\iW=xF)/\(∃CF,pk.cell i1 3=some (iI CF)/\iW=CF)/\True)/\True) else (∃xG,pk.cell i1 0=some (iI xG)/\CA en F.yq [(iI xG)] pk λv72 kM=>∃Of,v72=(bb Of)/\bif Of then (∃LQ,kM.cell i1 3=some (iI LQ)/\CA en F.Gb [(iI LQ)] kM λv76 wR=>∃BM,v76=(bb BM)/\(bif (!BM) then (R (iI 1) wR) else (∃n81,wR.cell i1 0=some (iI n81)/\CA en F.iH [(iI n81)] wR λv82 vG=>∃pD,v82=(bb pD)/\bif (!pD) then (∃oM,vG.cell i1 4=some (iI oM)/\bif (oM !=0) then (R (iI 1) vG) else (R (iI 0) vG)) else (∃CG,vG.cell i1 4=some (iI CG)/\bif (decide (CG<1)) then (R (iI 1) vG) else (∃CH,vG.cell i1 4=some (iI CH)/\bif (decide (CH>(a_:Int))) then (R (iI 1) vG) else (∃sI,vG.cell i1 4=some (iI sI)/\az (IntKind.i64.wrap (sI - 1)) a_/\aV x0 λi89 i90=>∃xJ,vG.cell i89 (i90+((IntKind.i64.wrap (sI - 1)).toNat*5))=some (iI xJ)/\CA en F.iH [(iI xJ)] vG λv92 nP=>∃DL,v92=(bb DL)/\bif DL then (R (iI 14) nP) else (R (iI 0) nP))))))/\(((iW !=0)=(iW !=0))/\((iW !=0)=(iW !=0))/\True)/\((∃qG,(H2.ae 18).cell i1 3=some (iI qG)/\iW=qG)/\(∃rF,pk.cell i1 3=some (iI rF)/\iW=rF)/\True)/\True) else ((∃LU,kM.cell i1 0=some (iI LU)/\CA en F.iH [(iI LU)] kM λZV po=>∃acg,ZV=(bb acg)/\bif (!acg) then (∃xu,po.cell i1 4=some (iI xu)/\bif (xu !=0) then (R (iI 1) po) else (R (iI 0) po)) else (∃K6,po.cell i1 4=some (iI K6)/\bif (decide (K6<1)) then (R (iI 1) po) else (∃tZ,po.cell i1 4=some (iI tZ)/\bif (decide (tZ>(a_:Int))) then (R (iI 1) po) else (∃wv,po.cell i1 4=some (iI wv)/\az (IntKind.i64.wrap (wv - 1)) a_/\aV x0 λi105 i106=>∃Cs,po.cell i105 (i106+((IntKind.i64.wrap (wv - 1)).toNat*5))=some (iI Cs)/\CA en F.iH [(iI Cs)] po λR7 zF=>∃aci,R7=(bb aci)/\bif aci then (R (iI 14) zF) else (R (iI 0) zF)))))/\(((iW !=0)=(iW !=0))/\((iW !=0)=(iW !=0))/\True)/\((∃n96,(H2.ae 18).cell i1 3=some (iI n96)/\iW=n96)/\(∃uj,pk.cell i1 3=some (iI uj)/\iW=uj)/\True)/\True))))))))) else (∃xv,H2.cell i1 0=some (iI xv)/\bif (xv==7) then (∃K8,H2.cell i1 0=some (iI K8)/\bif (decide (K8<1)) then (R (iI 1) H2) else (∃Cu,H2.cell i1 0=some (iI Cu)/\bif (decide (Cu>10)) then (R (iI 1) H2) else (∃xw,H2.cell i1 1=some (iI xw)/\bif (decide (xw<1)) then (R (iI 1) H2) else (∃K9,H2.cell i1 1=some (iI K9)/\bif (decide (K9>64)) then (R (iI 1) H2) else (∃aiK,H2.cell i1 2=some (iI aiK)/\bif (decide (aiK<1)) then (R (iI 1) H2) else (∃Cv,H2.cell i1 2=some (iI Cv)/\bif (decide (Cv>4)) then (R (iI 1) H2) else (∃t_,(H2.ae 18).cell i1 0=some (iI t_)/\CA en F.yq [(iI t_)] (H2.ae 18) λML jj=>∃BG,ML=(bb BG)/\∃og,jj.cell i1 3=some (iI og)/\bif (!(BG==(og !=0))) then ((R (iI 1) jj)/\(((og !=0)=(og !=0))/\((og !=0)=(og !=0))/\True)/\((∃Ld,(H2.ae 18).cell i1 3=some (iI Ld)/\og=Ld)/\(∃Cw,jj.cell i1 3=some (iI Cw)/\og=Cw)/\True)/\True) else (∃Ay,jj.cell i1 0=some (iI Ay)/\CA en F.yq [(iI Ay)] jj λayO FK=>∃acr,ayO=(bb acr)/\bif acr then (∃Ll,FK.cell i1 3=some (iI Ll)/\CA en F.Gb [(iI Ll)] FK λayQ SY=>∃I_,ayQ=(bb I_)/\(bif (!I_) then (R (iI 1) SY) else (∃Lp,SY.cell i1 0=some (iI Lp)/\CA en F.iH [(iI Lp)] SY λayV yd=>∃acv,ayV=(bb acv)/\bif (!acv) then (∃Cy,yd.cell i1 4=some (iI Cy)/\bif (Cy !=0) then (R (iI 1) yd) else (R (iI 0) yd)) else (∃aiP,yd.cell i1 4=some (iI aiP)/\bif (decide (aiP<1)) then (R (iI 1) yd) else (∃aiQ,yd.cell i1 4=some (iI aiQ)/\bif (decide (aiQ>(a_:Int))) then (R (iI 1) yd) else (∃He,yd.cell i1 4=some (iI He)/\az (IntKind.i64.wrap (He - 1)) a_/\aV x0 λi143 i144=>∃Lu,yd.cell i143 (i144+((IntKind.i64.wrap (He - 1)).toNat*5))=some (iI Lu)/\CA en F.iH [(iI Lu)] yd λayW aaQ=>∃acy,ayW=(bb acy)/\bif acy then (R (iI 14) aaQ) else (R (iI 0) aaQ))))))/\(((og !=0)=(og !=0))/\((og !=0)=(og !=0))/\True)/\((∃aiN,(H2.ae 18).cell i1 3=some (iI aiN)/\og=aiN)/\(∃Lo,jj.cell i1 3=some (iI Lo)/\og=Lo)/\True)/\True) else ((∃aiV,FK.cell i1 0=some (iI aiV)/\CA en F.iH [(iI aiV)] FK λayZ ye=>∃Ja,ayZ=(bb Ja)/\bif (!Ja) then (∃CB,ye.cell i1 4=some (iI CB)/\bif (CB !=0) then (R (iI 1) ye) else (R (iI 0) ye)) else (∃Lx,ye.cell i1 4=some (iI Lx)/\bif (decide (Lx<1)) then (R (iI 1) ye) else (∃aiW,ye.cell i1 4=some (iI aiW)/\bif (decide (aiW>(a_:Int))) then (R (iI 1) ye) else (∃Hf,ye.cell i1 4=some (iI Hf)/\az (IntKind.i64.wrap (Hf - 1)) a_/\aV x0 λi159 i160=>∃CC,ye.cell i159 (i160+((IntKind.i64.wrap (Hf - 1)).toNat*5))=some (iI CC)/\CA en F.iH [(iI CC)] ye λay1 aaR=>∃acE,ay1=(bb acE)/\bif acE then (R (iI 14) aaR) else (R (iI 0) aaR)))))/\(((og !=0)=(og !=0))/\((og !=0)=(og !=0))/\True)/\((∃aiU,(H2.ae 18).cell i1 3=some (iI aiU)/\og=aiU)/\(∃Cz,jj.cell i1 3=some (iI Cz)/\og=Cz)/\True)/\True))))))))) else (∃aiZ,H2.cell i1 0=some (iI aiZ)/\bif (decide (aiZ<1)) then (R (iI 1) H2) else (∃Ly,H2.cell i1 0=some (iI Ly)/\bif (decide (Ly>10)) then (R (iI 1) H2) else (∃Lz,H2.cell i1 1=some (iI Lz)/\bif (decide (Lz<1)) then (R (iI 1) H2) else (∃LB,H2.cell i1 1=some (iI LB)/\bif (decide (LB>64)) then (R (iI 1) H2) else (∃CD,H2.cell i1 2=some (iI CD)/\bif (decide (CD<1)) then (R (iI 1) H2) else (∃ai0,H2.cell i1 2=some (iI ai0)/\bif (decide (ai0>1)) then (R (iI 1) H2) else (∃LC,(H2.ae 18).cell i1 0=some (iI LC)/\CA en F.yq [(iI LC)] (H2.ae 18) λay4 Dv=>∃Jb,ay4=(bb Jb)/\∃mu,Dv.cell i1 3=some (iI mu)/\bif (!(Jb==(mu !=0))) then ((R (iI 1) Dv)/\(((mu !=0)=(mu !=0))/\((mu !=0)=(mu !=0))/\True)/\((∃LD,(H2.ae 18).cell i1 3=some (iI LD)/\mu=LD)/\(∃ai2,Dv.cell i1 3=some (iI ai2)/\mu=ai2)/\True)/\True) else (∃ai3,Dv.cell i1 0=some (iI ai3)/\CA en F.yq [(iI ai3)] Dv λay6 NI=>∃acK,ay6=(bb acK)/\bif acK then (∃ai4,NI.cell i1 3=some (iI ai4)/\CA en F.Gb [(iI ai4)] NI λay7 S2=>∃acL,ay7=(bb acL)/\(bif (!acL) then (R (iI 1) S2) else (∃ai6,S2.cell i1 0=some (iI ai6)/\CA en F.iH [(iI ai6)] S2 λay9 yf=>∃acO,ay9=(bb acO)/\bif (!acO) then (∃ai7,yf.cell i1 4=some (iI ai7)/\bif (ai7 !=0) then (R (iI 1) yf) else (R (iI 0) yf)) else (∃ai8,yf.cell i1 4=some (iI ai8)/\bif (decide (ai8<1)) then (R (iI 1) yf) else (∃ai9,yf.cell i1 4=some (iI ai9)/\bif (decide (ai9>(a_:Int))) then (R (iI 1) yf) else (∃Hh,yf.cell i1 4=some (iI Hh)/\az (IntKind.i64.wrap (Hh - 1)) a_/\aV x0 λi196 i197=>∃ai_,yf.cell i196 (i197+((IntKind.i64.wrap (Hh - 1)).toNat*5))=some (iI ai_)/\CA en F.iH [(iI ai_)] yf λay_ aaT=>∃acT,ay_=(bb acT)/\bif acT then (R (iI 14) aaT) else (R (iI 0) aaT))))))/\(((mu !=0)=(mu !=0))/\((mu !=0)=(mu !=0))/\True)/\((∃LI,(H2.ae 18).cell i1 3=some (iI LI)/\mu=LI)/\(∃LG,Dv.cell i1 3=some (iI LG)/\mu=LG)/\True)/\True) else ((∃LK,NI.cell i1 0=some (iI LK)/\CA en F.iH [(iI LK)] NI λazb yg=>∃Jc,azb=(bb Jc)/\bif (!Jc) then (∃Hi,yg.cell i1 4=some (iI Hi)/\bif (Hi !=0) then (R (iI 1) yg) else (R (iI 0) yg)) else (∃aje,yg.cell i1 4=some (iI aje)/\bif (decide (aje<1)) then (R (iI 1) yg) else (∃ajf,yg.cell i1 4=some (iI ajf)/\bif (decide (ajf>(a_:Int))) then (R (iI 1) yg) else (∃Hj,yg.cell i1 4=some (iI Hj)/\az (IntKind.i64.wrap (Hj - 1)) a_/\aV x0 λi212 i213=>∃LL,yg.cell i212 (i213+((IntKind.i64.wrap (Hj - 1)).toNat*5))=some (iI LL)/\CA en F.iH [(iI LL)] yg λaze aaU=>∃acY,aze=(bb acY)/\bif acY then (R (iI 14) aaU) else (R (iI 0) aaU)))))/\(((mu !=0)=(mu !=0))/\((mu !=0)=(mu !=0))/\True)/\((∃ajc,(H2.ae 18).cell i1 3=some (iI ajc)/\mu=ajc)/\(∃ajb,Dv.cell i1 3=some (iI ajb)/\mu=ajb)/\True)/\True))))))))))))->
  CA en F.Us [(sl x0 a_),(.agg #[(iI fc),(iI fe),(iI fg),(iI fP),(iI jD)])] H R:=vk (by kernel_rfl)
end
section
variable {H:aa} {R:Value->aa->Prop}
def n_ (k:BitVec 64):Nat:=(k*11400714819323198485#64).toNat / 4294967296
def bZ (k:BitVec 64)(n:Int):Int:=if n<1 then 0 else (n_ k:Int) % n
theorem agW (k:BitVec 64):n_ k<4294967296:=by
 have:=(k*11400714819323198485#64).isLt
 unfold n_;omega
theorem Xx (k:BitVec 64)(c:Nat)(hc:c<18446744073709551616):IntKind.u64.wrap ((k.toNat:Int)*(c:Int))=(((k*BitVec.ofNat 64 c).toNat:Nat):Int):=by
 rw [wrap_u64]
 congr 2
 have e:(c:Int)=((BitVec.ofNat 64 c).toNat:Int):=by simp [Io,Da hc]
 rw [e,BitVec.ofInt_mul,rI,rI]
theorem AT {n:Int}(h0:0<=n)(h1:n<18446744073709551616):IntKind.u64.wrap n=n:=by
 have e:IntKind.u64.wrap n=n % 18446744073709551616:=rfl;rw [e];omega
theorem aaJ {k:BitVec 64}{n:Int}(hn:n<9223372036854775808)(hR:R (I (bZ k n)) H):CA en F.Gd [W k,I n] H R:=by
 apply aAr;by_cases h:n<1
 ·refine cm (by simpa using h) ?_
  have:bZ k n=0:=by unfold bZ;rw [ar h]
  rw [this] at hR;exact hR
 ·refine bl (by simpa using h) ⟨by unfold nn;decide,?_,?_⟩
  ·rw [AT (by omega) (by omega)];unfold nz;omega
  ·rw [AT (n:=n) (by omega) (by omega)];have e:=Xx k 11400714819323198485 (by decide);rw [show ((k.toNat:Int)*11400714819323198485)=((k.toNat:Int)*((11400714819323198485:Nat):Int)) from rfl,e];have e2:((((k*BitVec.ofNat 64 11400714819323198485).toNat:Nat):Int).fdiv 4294967296)=(n_ k:Int):=by
    unfold n_;rw [Ip _ (by decide)];rfl
   rw [e2,Dj (by omega)];have hb:=agW k;have e3:(n_ k:Int) % n=((n_ k % n.toNat:Nat):Int):=by rw [Int.natCast_emod,Int.toNat_of_nonneg (by omega)]
   have e4:=Nat.mod_le (n_ k) n.toNat;have h1:(n_ k:Int) % n<4294967296:=by omega
   have h2:0<=(n_ k:Int) % n:=Np _ (by omega);rw [wrap_i64 (by omega)]
   have:bZ k n=(n_ k:Int) % n:=by unfold bZ;rw [an h]
   rw [this] at hR;exact hR
structure Kind where
 words:Int
 buckets:Bool
 nested:Bool
 tH:List Int
 DM:Bool
def lV (k:Int):Option Kind:=
 if k=1 then some ⟨1,false,false,[1,2,4],false⟩
 else if k=2 then some ⟨1,false,false,[1,2,4],false⟩
 else if k=3 then some ⟨4,false,false,[1,2,4],false⟩
 else if k=4 then some ⟨1,true,false,[3,5,1,2,4],true⟩
 else if k=5 then some ⟨1,false,false,[3,5,1,2,4],false⟩
 else if k=6 then some ⟨4,false,false,[6,7,8],false⟩
 else if k=7 then some ⟨4,false,false,[6,7,8],false⟩
 else if k=8 then some ⟨1,true,false,[6,8],false⟩
 else if k=9 then some ⟨1,false,true,[3,1,2,4],false⟩
 else if k=10 then some ⟨1,true,true,[3,1,2,4],true⟩
 else none
def d_ (k:Int):Kind:=(lV k).getD ⟨0,false,false,[],false⟩
def anR (H:aa)(a:Option Addr)(l:Nat)(xs:List Int):Prop:=
 l=xs.length/\(xs=[]∨∃i w,a=some ⟨i,0,none⟩/\i<H.next/\H.get i=some (.cells w 1 (xs.map I)))
theorem ahE {x:Int}(hR:∀H' a l,aX [] H H'->anR H' a l (d_ x).tH->R (.tuple #[.agg #[I (d_ x).words,.bool (d_ x).buckets,.bool (d_ x).nested,.slice a l 0,.bool (d_ x).DM],.bool (lV x).isSome]) H') :
  CA en F.nU [I x] H R:=by
 apply aAu;refine sJ λi1 H2 e1 h2=>sJ λi3 H4 e3 h4=>sJ λi5 H6 e5 h6=>sJ λi7 H8 e7 h8=>?_
 have g8:H8.get i1=some (.cells true 0 [I 0,.bool false,.bool false,.slice none 0 0,.bool false])/\H8.get i3=some (.cells true 1 [I 1,I 2,I 4])/\H8.get i5=some (.cells true 1 [I 6,I 7,I 8])/\H8.get i7=some (.cells true 1 [I 3,I 5])/\H8.next=H.next+4/\i1=H.next/\i3=H.next+1/\i5=H.next+2/\i7=H.next+3:=by
  subst_vars;simp only [tJ,iN];refine ⟨?_,?_,?_,?_,?_,?_,?_,?_,?_⟩<;>first|trivial|omega|((repeat (first|rw [ar trivial]|rw [ar rfl]|rw [an (by omega)]));try (first|rfl|assumption))
 have f8:aX [] H H8:=by subst_vars;exact ((((aX.refl _ _).new _).new _).new _).new _
 clear e1 h2 e3 h4 e5 h6 e7 h8;have⟨g1,g3,g5,g7,n8,i1e,i3e,i5e,i7e⟩:=g8;refine ⟨[I 1,I 2,I 4],by simp [rowOf,yz,g3,fm],?_⟩;refine IZ (old:=[I 3,I 5]) g7 (by decide) (by decide) rfl (by decide) λj cj ej hj=>?_
 refine sJ λi12 cE UO gP=>?_
 have JN:cE.get i1=some (.cells true 0 [I 0,.bool false,.bool false,.slice none 0 0,.bool false])/\cE.get i3=some (.cells true 1 [I 1,I 2,I 4])/\cE.get i5=some (.cells true 1 [I 6,I 7,I 8])/\cE.get j=some (.cells true 1 [I 3,I 5,I 1,I 2,I 4])/\cE.get i12=some (.cells true 1 [I 3])/\cE.next=H.next+6/\j=H.next+4/\i12=H.next+5:=by
  subst UO gP ej hj;simp only [tJ,j9,iN,rG];refine ⟨?_,?_,?_,?_,?_,by omega,by omega,by omega⟩<;>(first|trivial|omega|((repeat (first|rw [ar trivial]|rw [ar rfl]|rw [an (by omega)]));try (first|rfl|assumption)))
 have f13:aX [] H cE:=by subst UO gP ej hj;exact ((f8.set _ (by right;omega)).new _).new _
 clear UO gP ej hj g1 g3 g5 g7;have⟨g1,g3,g5,gj,g12,gQ,je,aDT⟩:=JN;refine ⟨[I 1,I 2,I 4],by simp [rowOf,yz,g3,fm],?_⟩;refine IZ (old:=[I 3]) g12 (by decide) (by decide) rfl (by decide) λq gC eq hq=>?_
 refine sJ λi17 gv UP pJ=>sJ λi19 bu UQ fV=>?_
 have g20:bu.get i1=some (.cells true 0 [I 0,.bool false,.bool false,.slice none 0 0,.bool false])/\bu.get i3=some (.cells true 1 [I 1,I 2,I 4])/\bu.get i5=some (.cells true 1 [I 6,I 7,I 8])/\bu.get j=some (.cells true 1 [I 3,I 5,I 1,I 2,I 4])/\bu.get q=some (.cells true 1 [I 3,I 1,I 2,I 4])/\bu.get i17=some (.cells true 1 [I 6,I 8])/\(∃c,bu.get i19=some (.cells true 0 c)/\c.length=55)/\bu.next=H.next+9/\q=H.next+6/\i17=H.next+7/\i19=H.next+8:=by
  subst UP pJ UQ fV eq hq;simp only [tJ,j9,iN,rG];refine ⟨?_,?_,?_,?_,?_,?_,⟨_,ar trivial,rfl⟩,by omega,by omega,by omega,by omega⟩<;>(first|trivial|omega|((repeat (first|rw [ar trivial]|rw [ar rfl]|rw [an (by omega)]));try (first|rfl|assumption)))
 have f20:aX [] H bu:=by subst UP pJ UQ fV eq hq;exact (((f13.set _ (by right;omega)).new _).new _).new _
 clear UP pJ UQ fV eq hq g1 g3 g5 gj g12;have⟨g1,g3,g5,gj,gq,g17,⟨c,g19,hc⟩,cU,qe,aDU,aDV⟩:=g20;refine xW g19 (by rw [hc];exact bq _) λaZ xd=>?_
 have wg:∀vs:List Value,vs.length=55->setAt c 0 vs=vs:=by
  intro vs hv;have key:∀(vs c pre:List Value),vs.length=c.length->setAt (pre++c) pre.length vs=pre++vs:=by
   intro vs
   induction vs with
   |nil=>intro c pre h;cases c with|nil=>simp [setAt]|cons=>simp at h
   |cons v vs ih=>
    intro c pre h;cases c with
    |nil=>simp at h
    |cons x c=>
     simp only [setAt];rw [M8 _ _ (bq _),x6,Nd]
     have:=ih c (pre++[v]) (by simpa using h)
     simpa using this
  have:=key vs c [] (by omega)
  simpa using this
 rw [wg _ rfl] at xd;have t19:=(hZ (λh:aa=>h.get i19) xd).trans (uT _ _ _);have f23:aX [] H aZ:=by rw [xd];exact f20.set _ (by right;omega)
 have lF:aZ.next=H.next+9:=by rw [xd,rG];exact cU
 have s1:aZ.get i1=some (.cells true 0 [I 0,.bool false,.bool false,.slice none 0 0,.bool false]):=by rw [xd,oL (by omega)];exact g1
 have s3:aZ.get i3=some (.cells true 1 [I 1,I 2,I 4]):=by rw [xd,oL (by omega)];exact g3
 have s5:aZ.get i5=some (.cells true 1 [I 6,I 7,I 8]):=by rw [xd,oL (by omega)];exact g5
 have sj:aZ.get j=some (.cells true 1 [I 3,I 5,I 1,I 2,I 4]):=by rw [xd,oL (by omega)];exact gj
 have sq:aZ.get q=some (.cells true 1 [I 3,I 1,I 2,I 4]):=by rw [xd,oL (by omega)];exact gq
 have cH:aZ.get i17=some (.cells true 1 [I 6,I 8]):=by rw [xd,oL (by omega)];exact g17
 clear xd g1 g3 g5 gj gq g17 g19;have ajZ:lV x=none->aq aZ i1 0 [I 0,.bool false,.bool false,.slice none 0 0,.bool false] λbM=>∃cc q_ se eF i29 m_,bM.aM i1 0 5=some [I cc,.bool q_,.bool se,.slice eF i29 0,.bool m_]/\R (.tuple #[.agg #[I cc,.bool q_,.bool se,.slice eF i29 0,.bool m_],.bool false]) bM:=by
  intro hk;refine xW s1 (by decide) λbM e24=>?_
  have hD:d_ x=⟨0,false,false,[],false⟩:=by unfold d_;rw [hk];rfl
  have:=hR bM none 0 (by rw [e24];exact f23.set _ (by right;omega)) (by rw [hD];exact ⟨rfl,.inl rfl⟩)
  rw [hD,hk] at this;exact ⟨0,false,false,none,0,false,by rw [e24,nT (uT _ _ _)];rfl,this⟩
 have y8:∀(K:Kind)(a:Option Addr)(i:Nat)(b:Bool),lV x=some K->a=some ⟨i,0,none⟩->i≠i1->i<H.next+9->aZ.get i=some (.cells b 1 (K.tH.map I))->∀l,l=K.tH.length->
   aZ.aM i19 (0+x.toNat*5) 5=some [I K.words,.bool K.buckets,.bool K.nested,.slice a l 0,.bool K.DM]->
   ∃mv Jg w7 gY i42 BI,aZ.aM i19 (0+x.toNat*5) 5=some [I mv,.bool Jg,.bool w7,.slice gY i42 0,.bool BI]/\
    aq aZ i1 0 [I mv,.bool Jg,.bool w7,.slice gY i42 0,.bool BI] λgV=>∃ua w8 BJ m7 i49 w9,gV.aM i1 0 5=some [I ua,.bool w8,.bool BJ,.slice m7 i49 0,.bool w9]/\
     R (.tuple #[.agg #[I ua,.bool w8,.bool BJ,.slice m7 i49 0,.bool w9],.bool true]) gV:=by
  intro K a i b hk ha aW aE hg l hl yK;refine ⟨_,_,_,_,_,_,yK,?_⟩;refine xW s1 (bq _) λgV OR=>?_
  have hD:d_ x=K:=by unfold d_;rw [hk];rfl
  have:=hR gV a l (by rw [OR];exact f23.set _ (by right;omega)) (by rw [hD];exact ⟨hl,.inr ⟨i,b,ha,by rw [OR,rG];omega,by rw [OR,oL aW];exact hg⟩⟩)
  rw [hD,hk] at this;exact ⟨K.words,K.buckets,K.nested,a,l,K.DM,by rw [OR,nT (uT _ _ _)];rfl,this⟩
 refine aI (λh=>ajZ ?_) λh=>aI (λh'=>ajZ ?_) λh'=>⟨?_,?_⟩
 ·simp only [gf] at h;unfold lV
  repeat rw [an (by omega)]
 ·simp only [gf,ge_iff_le] at h';unfold lV
  repeat rw [an (by omega)]
 ·simp only [jF,ge_iff_le] at h h';exact ⟨by omega,by omega⟩
 ·simp only [jF,ge_iff_le] at h h';have hx:x=1∨x=2∨x=3∨x=4∨x=5∨x=6∨x=7∨x=8∨x=9∨x=10:=by omega
  rcases hx with rfl|rfl|rfl|rfl|rfl|rfl|rfl|rfl|rfl|rfl
  ·exact y8 ⟨1,false,false,[1,2,4],false⟩ _ i3 true rfl rfl (by omega) (by omega) s3 _ rfl (by rw [nT t19];rfl)
  ·exact y8 ⟨1,false,false,[1,2,4],false⟩ _ i3 true rfl rfl (by omega) (by omega) s3 _ rfl (by rw [nT t19];rfl)
  ·exact y8 ⟨4,false,false,[1,2,4],false⟩ _ i3 true rfl rfl (by omega) (by omega) s3 _ rfl (by rw [nT t19];rfl)
  ·exact y8 ⟨1,true,false,[3,5,1,2,4],true⟩ _ j true rfl rfl (by omega) (by omega) sj _ rfl (by rw [nT t19];rfl)
  ·exact y8 ⟨1,false,false,[3,5,1,2,4],false⟩ _ j true rfl rfl (by omega) (by omega) sj _ rfl (by rw [nT t19];rfl)
  ·exact y8 ⟨4,false,false,[6,7,8],false⟩ _ i5 true rfl rfl (by omega) (by omega) s5 _ rfl (by rw [nT t19];rfl)
  ·exact y8 ⟨4,false,false,[6,7,8],false⟩ _ i5 true rfl rfl (by omega) (by omega) s5 _ rfl (by rw [nT t19];rfl)
  ·exact y8 ⟨1,true,false,[6,8],false⟩ _ i17 true rfl rfl (by omega) (by omega) cH _ rfl (by rw [nT t19];rfl)
  ·exact y8 ⟨1,false,true,[3,1,2,4],false⟩ _ q true rfl rfl (by omega) (by omega) sq _ rfl (by rw [nT t19];rfl)
  ·exact y8 ⟨1,true,true,[3,1,2,4],true⟩ _ q true rfl rfl (by omega) (by omega) sq _ rfl (by rw [nT t19];rfl)
def N3 (k n:Int)(a b:BitVec 64):Bool:=
 let m:=if (d_ k).DM then n else 0
 if bZ a m≠bZ b m then decide (bZ a m<bZ b m) else decide ((a.toNat:Int)<(b.toNat:Int))
structure Dc where
 kind:Int
 entries:Int
 words:Int
 buckets:Int
 inner:Int
abbrev Dc.cells (d:Dc):List Value:=[I d.kind,I d.entries,I d.words,I d.buckets,I d.inner]
abbrev Dc.val (d:Dc):Value:=.agg #[I d.kind,I d.entries,I d.words,I d.buckets,I d.inner]
end
section
variable {H:aa} {R:Value->aa->Prop}
def xa (k:BitVec 64):BitVec 64:=k*14029467366897019727#64
def AE (k:BitVec 64):Nat:=(xa k).toNat / 288230376151711744
def AF (k:BitVec 64):Nat:=(xa k).toNat / 4503599627370496 % 64
def AG (k:BitVec 64):Nat:=(xa k).toNat / 70368744177664 % 64
def bitsOf (k:BitVec 64):BitVec 64:=BitVec.twoPow 64 (AE k)|||BitVec.twoPow 64 (AF k)|||BitVec.twoPow 64 (AG k)
theorem ako (k:BitVec 64):AE k<64/\AF k<64/\AG k<64:=by
 have:=(xa k).isLt
 unfold AE AF AG;omega
theorem axF {p:Nat}(hp:p<64):IntKind.u64.wrap (1*2 ^ min p 64)=((BitVec.twoPow 64 p).toNat:Int):=by
 rw [Nl (by omega),Int.one_mul,wrap_u64]
 congr 2
 apply tf;rw [BitVec.toNat_twoPow]
 have:((2:Int) ^ p)=((2 ^ p:Nat):Int):=by simp
 rw [this,BitVec.ofInt_natCast,Io]
theorem ap2 (k:BitVec 64):IntKind.u64.wrap ((k.toNat:Int)*14029467366897019727)=((xa k).toNat:Int):=by
 have e:=Xx k 14029467366897019727 (by decide);rw [show ((k.toNat:Int)*14029467366897019727)=((k.toNat:Int)*((14029467366897019727:Nat):Int)) from rfl,e];rfl
theorem ap1 (k:BitVec 64):((xa k).toNat:Int).fdiv 288230376151711744=(AE k:Int):=by
 rw [Ip _ (by decide)];unfold AE;generalize (xa k).toNat=a;omega
def tR (k:BitVec 64)(j:Nat):Bool:=decide (AE k=j)||decide (AF k=j)||decide (AG k=j)
def ay (k:BitVec 64):Nat->Nat
 |0=>0
 |i+1=>ay k i+if tR k i then 1 else 0
theorem aDh (k:BitVec 64){i:Nat}(hi:i<64):((((bitsOf k).toNat:Int).fdiv (2 ^ min i 64)).tmod 2==1)=tR k i:=by
 have e1:((bitsOf k).toNat:Int).fdiv (2 ^ min i 64)=(((bitsOf k).toNat / 2 ^ i:Nat):Int):=by
  rw [Nl (by omega),Ip _ (Int.pow_nonneg (by decide))];simp
 rw [e1,Dj (Int.natCast_nonneg _)];have e2:(bitsOf k).getLsbD i=tR k i:=by
  have p:=ako k;unfold bitsOf tR;simp [aaC,Su,p.1,p.2.1,p.2.2]
 rw [<-e2];unfold BitVec.getLsbD;rw [Nat.testBit_eq_decide_div_mod_eq,p7];simp only [rP,gf];omega
end
section
variable {H:aa} {R:Value->aa->Prop}
theorem FQ {k:BitVec 64}{n:Int}(hn:n<9223372036854775808)(hR:R (I (bZ k n)) H):CA en F.BO [W k,I n] H R:=by
 apply azY;by_cases h:n<1
 ·refine cm (by simpa using h) ?_
  have:bZ k n=0:=by unfold bZ;rw [ar h]
  rw [this] at hR;exact hR
 ·refine bl (by simpa using h) ⟨by unfold nz;decide,?_,?_⟩
  ·rw [AT (by omega) (by omega)];unfold nz;omega
  ·rw [AT (n:=n) (by omega) (by omega)];have e:=Xx k 11400714819323198485 (by decide);rw [show ((k.toNat:Int)*11400714819323198485)=((k.toNat:Int)*((11400714819323198485:Nat):Int)) from rfl,e];have e2:((((k*BitVec.ofNat 64 11400714819323198485).toNat:Nat):Int).tdiv 4294967296)=(n_ k:Int):=by
    unfold n_;rw [Int.tdiv_eq_ediv_of_nonneg (Int.natCast_nonneg _)];rfl
   have hb:=agW k;rw [e2,AT (n:=(n_ k:Int)) (by omega) (by omega),Dj (by omega)];have e3:(n_ k:Int) % n=((n_ k % n.toNat:Nat):Int):=by rw [Int.natCast_emod,Int.toNat_of_nonneg (by omega)]
   have e4:=Nat.mod_le (n_ k) n.toNat;have h1:(n_ k:Int) % n<4294967296:=by omega
   have h2:0<=(n_ k:Int) % n:=Np _ (by omega);rw [wrap_i64 (by omega)]
   have:bZ k n=(n_ k:Int) % n:=by unfold bZ;rw [an h]
   rw [this] at hR;exact hR
theorem ap9 (k:Int):(d_ k).DM=(k==4||k==10):=by
 by_cases h:1<=k/\k<=10
 ·have hx:k=1∨k=2∨k=3∨k=4∨k=5∨k=6∨k=7∨k=8∨k=9∨k=10:=by omega
  rcases hx with rfl|rfl|rfl|rfl|rfl|rfl|rfl|rfl|rfl|rfl<;>rfl
 ·have e:lV k=none:=by
   unfold lV
   repeat rw [an (by omega)]
  have e2:(k==4||k==10)=false:=by simp;omega
  rw [e2];unfold d_;rw [e];rfl
theorem apY (k:BitVec 64):bZ k 0=0:=rfl
theorem TU {d:Dc}{a b:BitVec 64}(hn:d.buckets<9223372036854775808)(hR:∀H',aX [] H H'->R (.bool (N3 d.kind d.buckets a b)) H'):CA en F.Jx [d.val,W a,W b] H R:=by
 apply azW;refine sJ λi1 H2 e1 h2=>?_
 have g2:H2.get i1=some (.cells true 0 d.cells):=by subst e1 h2;exact nm _ _
 have f2:aX [] H H2:=by subst h2;exact (aX.refl _ _).new _
 clear e1 h2;have this:=hR H2 f2;unfold N3 at this;rw [ap9] at this;have fin:(d.kind==4||d.kind==10)=true->cond (bZ a d.buckets !=bZ b d.buckets) (R (.bool (decide (bZ a d.buckets<bZ b d.buckets))) H2) (R (.bool (decide ((a.toNat:Int)<(b.toNat:Int)))) H2):=by
  intro hk;rw [hk] at this;simp only [pc] at this;refine aI (λh=>?_) λh=>?_
  ·rw [zi] at h;rw [ar h] at this;exact this
  ·rw [aay] at h;rw [an (by simpa using h)] at this;exact this
 refine ⟨d.kind,by rw [cell_of g2];rfl,aI (λh=>?_) λh=>?_⟩
 ·exact ⟨d.buckets,by rw [cell_of g2];rfl,FQ hn ⟨_,rfl,d.buckets,by rw [cell_of g2];rfl,FQ hn ⟨_,rfl,fin (by rw [h];rfl)⟩⟩⟩
 ·refine ⟨d.kind,by rw [cell_of g2];rfl,aI (λh'=>?_) λh'=>?_⟩
  ·exact ⟨d.buckets,by rw [cell_of g2];rfl,FQ hn ⟨_,rfl,d.buckets,by rw [cell_of g2];rfl,FQ hn ⟨_,rfl,fin (by rw [h'];simp)⟩⟩⟩
  ·rw [h,h'] at this;simpa [apY] using this
def acc (k:BitVec 64):Nat->BitVec 64
 |0=>0#64
 |j+1=>if tR k j then acc k j+BitVec.twoPow 64 j else acc k j
theorem abX (k:BitVec 64):∀j,j<=64->∀i,i<64->(acc k j).getLsbD i=(decide (i<j)&&tR k i)
 |0,_,i,_=>by simp [acc]
 |j+1,hj,i,hi=>by
  have ih:=abX k j (by omega);unfold acc;by_cases h:tR k j=true
  ·rw [ar h,BitVec.add_eq_or_of_and_eq_zero,aaC,ih i hi,Su]
   ·by_cases e:i=j
    ·subst e;simp [h,hi]
    ·have:decide (i<j+1)=decide (i<j):=by rw [p7];simp;omega
     rw [this];simp [x7 e]
   ·apply aar;intro m hm;rw [BitVec.getLsbD_and,ih m hm,Su];by_cases e:j=m
    ·subst e;simp
    ·simp [e]
  ·rw [an h,ih i hi];by_cases e:i=j
   ·subst e;simp [h]
   ·have:decide (i<j+1)=decide (i<j):=by rw [p7];simp;omega
    rw [this]
theorem ao2 (k:BitVec 64):acc k 64=bitsOf k:=by
 apply aar;intro i hi;rw [abX k 64 (bq _) i hi];have p:=ako k;unfold bitsOf tR;have c:∀a b:Nat,decide (a=b)=decide (b=a):=λa b=>decide_eq_decide.2 eq_comm
 simp [aaC,Su,p.1,p.2.1,p.2.2,hi];rw [c (AE k),c (AF k),c (AG k)]
theorem ao4 (a b:BitVec 64):IntKind.u64.wrap ((a.toNat:Int)+(b.toNat:Int))=(((a+b).toNat:Nat):Int):=by
 rw [wrap_u64,BitVec.ofInt_add,rI,rI]
theorem awO (k:BitVec 64):(((xa k).toNat:Int).fdiv 4503599627370496).tmod 64=(AF k:Int):=by
 unfold AF;generalize (xa k).toNat=a;rw [Ip _ (by decide),Dj (by omega)];omega
theorem awP (k:BitVec 64):(((xa k).toNat:Int).fdiv 70368744177664).tmod 64=(AG k:Int):=by
 unfold AG;generalize (xa k).toNat=a;rw [Ip _ (by decide),Dj (by omega)];omega
theorem aDc {k:BitVec 64}{n:Int}(hn:n<9223372036854775808)(hR:R (.tuple #[I (bZ k n),W (bitsOf k)]) H):CA en F.aeE [W k,I n] H R:=by
 apply azX;rw [ap2];refine ayu (λm b i H'=>∃j:Nat,j<=64/\m=64 - j/\i=(j:Int)/\b=((acc k j).toNat:Int)/\H'=H) 64 ⟨0,by omega,rfl,rfl,rfl,rfl⟩ ?_;rintro m b i ys H' ⟨j,hj,rfl,rfl,rfl,rfl⟩;refine aI (λh=>?_) λh=>?_
 ·simp only [gf] at h;have hG:j<64:=by omega
  rw [AT (n:=(j:Int)) (by omega) (by omega),wrap_i64 (n:=(j:Int)+1) (by omega),ap1,awO,awP];rw [dr,axF hG,ao4];have yes:tR k j=true->∃i1,i1<64 - j/\∃j':Nat,j'<=64/\i1=64 - j'/\(j:Int)+1=(j':Int)/\(((acc k j+BitVec.twoPow 64 j).toNat:Nat):Int)=((acc k j').toNat:Int)/\H'=H':=
   λhh=>⟨64 - (j+1),by omega,j+1,by omega,rfl,by omega,by simp [acc,hh],rfl⟩
  have no:tR k j=false->∃i1,i1<64 - j/\∃j':Nat,j'<=64/\i1=64 - j'/\(j:Int)+1=(j':Int)/\(((acc k j).toNat:Nat):Int)=((acc k j').toNat:Int)/\H'=H':=
   λhh=>⟨64 - (j+1),by omega,j+1,by omega,rfl,by omega,by simp [acc,hh],rfl⟩
  have EA:nn (j:Int):=by unfold nn;omega
  refine ⟨by unfold nn;decide,aI (λh1=>⟨EA,yes ?_⟩) λh1=>⟨by unfold nn;decide,by unfold nz;decide,aI (λh2=>⟨EA,yes ?_⟩) λh2=>⟨by unfold nn;decide,by unfold nz;decide,aI (λh3=>⟨EA,yes ?_⟩) λh3=>no ?_⟩⟩⟩
  ·simp only [rP] at h1;simp [tR,show AE k=j by omega]
  ·simp only [rP] at h2;simp [tR,show AF k=j by omega]
  ·simp only [rP] at h3;simp [tR,show AG k=j by omega]
  ·simp only [mc,ne_eq] at h1 h2 h3;simp [tR,show AE k≠j by omega,show AF k≠j by omega,show AG k≠j by omega]
 ·simp only [jF] at h;obtain rfl:j=64:=by omega
  simp only [Na,Nb,FZ];rw [ao2];exact FQ hn ⟨_,rfl,hR⟩
end
section
variable {H:aa} {R:Value->aa->Prop}
theorem NP {x:Int}(hR:R (.bool (x==9||x==10)) H):CA en F.iH [I x] H R:=by
 apply alJ;refine aI (λh=>?_) λh=>?_
 ·rw [h] at hR;exact hR
 ·rw [h] at hR;exact hR
theorem an7 {x op:Int}(hR:R (.bool (decide (op∈(d_ x).tH))) H):CA en F.Ur [I x,I op] H R:=by
 apply az1;have bB:op=1∨op=2∨op=3∨op=4∨op=5∨op=6∨op=7∨op=8∨((op==1)=false/\(op==2)=false/\(op==3)=false/\(op==4)=false/\(op==5)=false/\(op==6)=false/\(op==7)=false/\(op==8)=false):=by
  simp only [mc,ne_eq];omega
 by_cases h:1<=x/\x<=10
 ·have hx:x=1∨x=2∨x=3∨x=4∨x=5∨x=6∨x=7∨x=8∨x=9∨x=10:=by omega
  rcases hx with rfl|rfl|rfl|rfl|rfl|rfl|rfl|rfl|rfl|rfl<;>clear h<;>simp only [Int.reduceBEq,bQ,cQ]
  all_goals
   rcases bB with rfl|rfl|rfl|rfl|rfl|rfl|rfl|rfl|⟨h1,h2,h3,h4,h5,h6,h7,h8⟩
   all_goals first
    |(simp only [Int.reduceBEq,bQ,cQ];first|exact hR|exact NP ⟨_,rfl,hR⟩|exact NP hR)
    |(simp only [h1,h2,h3,h4,h5,h6,h7,h8,cQ]
      simp only [mc,ne_eq] at h1 h2 h3 h4 h5 h6 h7 h8;have e:∀xs:List Int,(∀y∈xs,y=1∨y=2∨y=3∨y=4∨y=5∨y=6∨y=7∨y=8)->decide (op∈xs)=false:=by
       intro xs hxs;rw [jF];intro hm
       have:=hxs op hm
       omega
      rw [e _ (by decide)] at hR;exact hR)
 ·have e:lV x=none:=by
   unfold lV
   repeat rw [an (by omega)]
  have e2:decide (op∈(d_ x).tH)=false:=by unfold d_;rw [e];rfl
  rw [e2] at hR;have n1:(x==1)=false:=by rw [mc];omega
  have n2:(x==2)=false:=by rw [mc];omega
  have n3:(x==3)=false:=by rw [mc];omega
  have n4:(x==4)=false:=by rw [mc];omega
  have n5:(x==5)=false:=by rw [mc];omega
  have n6:(x==6)=false:=by rw [mc];omega
  have n7:(x==7)=false:=by rw [mc];omega
  have n8:(x==8)=false:=by rw [mc];omega
  have n9:(x==9)=false:=by rw [mc];omega
  have fC:(x==10)=false:=by rw [mc];omega
  have ne:∀{R':Value->aa->Prop},R' (.bool false) H->CA en F.iH [I x] H R':=λhr=>NP (by rw [n9,fC];exact hr)
  simp only [n1,n2,n3,n4,n5,n6,n7,n8,cQ]
  repeat' (first|exact hR|exact ne ⟨_,rfl,hR⟩|(refine aI (λ_=>?_) λ_=>?_))
def G8 (d e:Dc):Bool:=d.kind==e.kind&&(d.entries==e.entries&&(d.words==e.words&&(d.buckets==e.buckets&&d.inner==e.inner)))
theorem an6 {d e:Dc}(hR:∀H',aX [] H H'->R (.bool (G8 d e)) H'):CA en F.Oy [d.val,e.val] H R:=by
 apply az0;refine sJ λi1 H2 e1 h2=>sJ λi3 H4 e3 h4=>?_
 have g:H4.get i1=some (.cells true 0 d.cells)/\H4.get i3=some (.cells true 0 e.cells):=by
  subst e1 h2 e3 h4;exact ⟨by rw [uS (by rw [iN];omega)];exact nm _ _,nm _ _⟩
 have f:aX [] H H4:=by subst h2 h4;exact ((aX.refl _ _).new _).new _
 have hR:=hR _ f;unfold G8 at hR;refine ⟨d.kind,by rw [cell_of g.1];rfl,e.kind,by rw [cell_of g.2];rfl,aI (λh=>?_) λh=>by rw [h] at hR;exact hR⟩;rw [h,Ij] at hR;refine ⟨d.entries,by rw [cell_of g.1];rfl,e.entries,by rw [cell_of g.2];rfl,aI (λh=>?_) λh=>by rw [h] at hR;exact hR⟩;rw [h,Ij] at hR;refine ⟨d.words,by rw [cell_of g.1];rfl,e.words,by rw [cell_of g.2];rfl,aI (λh=>?_) λh=>by rw [h] at hR;exact hR⟩;rw [h,Ij] at hR;refine ⟨d.buckets,by rw [cell_of g.1];rfl,e.buckets,by rw [cell_of g.2];rfl,aI (λh=>?_) λh=>by rw [h] at hR;exact hR⟩;rw [h,Ij] at hR;exact ⟨d.inner,by rw [cell_of g.1];rfl,e.inner,by rw [cell_of g.2];rfl,hR⟩
end
section
variable {H:aa} {R:Value->aa->Prop}
def flat (l:List Dc):List Value:=(l.map Dc.cells).flatten
def Rows (H:aa)(a:Option Addr)(n:Nat)(l:List Dc):Prop:=
 n=l.length/\(l=[]∨∃i w z,a=some ⟨i,0,none⟩/\i<H.next/\H.get i=some (.cells w z (flat l)))
theorem Rows.JL {H H':aa} {a n l}(h:Rows H a n l)(f:aX [] H H'):Rows H' a n l:=by
 refine ⟨h.1,h.2.imp_right λ⟨i,w,z,h1,h2,h3⟩=>⟨i,w,z,h1,?_,?_⟩⟩
 ·have:=f.1;omega
 ·rw [f.2 i h2 (by simp)];exact h3
def re:Dc:=⟨0,0,0,0,0⟩
theorem U_:∀(l:List Dc)(j:Nat),j<l.length->(flat l)[j*5]? =some (I (l.getD j re).kind)
 |[],j,h=>by simp at h
 |d::l,0,_=>rfl
 |d::l,j+1,h=>by
  have ih:=U_ l j (by simpa using h);have e:flat (d::l)=d.cells++flat l:=rfl;rw [e,ya (by simp only [gU,nM];omega)];have e2:(j+1)*5 - d.cells.length=j*5:=by simp only [gU,nM];omega
  rw [e2,ih];simp
theorem afn:∀(l:List Dc)(j:Nat),j<l.length->fm (flat l) (j*5) 5=some (l.getD j re).cells
 |[],j,h=>by simp at h
 |d::l,0,_=>rfl
 |d::l,j+1,h=>by
  have ih:=afn l j (by simpa using h);have e:flat (d::l)=d.cells++flat l:=rfl;have e2:(j+1)*5=(j*5)+1+1+1+1+1:=by omega
  rw [e,e2];simpa [fm] using ih
def pow (n:Int):Prop:=n=1∨n=2∨n=4∨n=8∨n=16∨n=32
instance (n:Int):Decidable (pow n):=inferInstanceAs (Decidable (n=1∨n=2∨n=4∨n=8∨n=16∨n=32))
def pE (l:List Dc)(d:Dc):Int:=
 if (lV d.kind).isSome=false then 1
 else if d.entries<1∨d.entries>64∨d.words<1∨d.words>(d_ d.kind).words then 1
 else if (d_ d.kind).buckets=true/\¬pow d.buckets∨(d_ d.kind).buckets=false/\d.buckets≠0 then 1
 else if (d_ d.kind).nested=true then
  (if d.inner<1∨d.inner>(l.length:Int) then 1 else if (d_ (l.getD (d.inner - 1).toNat re).kind).nested=true then 14 else 0)
 else if d.inner≠0 then 1 else 0
theorem aof {x m:Int}(hR:R (.bool (decide (1<=x/\x<=m))) H):CA en F.zS [I x,I m] H R:=by
 apply aAv;refine aI (λh=>?_) λh=>?_
 ·have e:decide (1<=x/\x<=m)=decide (x<=m):=by
   simp only [gf] at h;rw [p7];simp only [gf];omega
  rw [e] at hR;exact hR
 ·have e:decide (1<=x/\x<=m)=false:=by
   simp only [jF] at h⊢;omega
  rw [e] at hR;exact hR
def akn (n:Int):Int:=(((List.range 6).filter λi=>n.toNat.testBit i).length:Nat)
theorem awl {n:Int}(h:aF en 50 F.Q3 [.int .u64 (IntKind.u64.wrap n)] H=some (I (akn n),H))(hp:akn n=1↔pow n)(hR:∀c:Int,(c=1↔pow n)->R (I c) H):CA en F.Q3 [.int .u64 (IntKind.u64.wrap n)] H R:=⟨50,_,H,h,hR _ hp⟩
theorem an1 {n:Int}(h:1<=n/\n<=32)(hR:∀c:Int,(c=1↔pow n)->R (I c) H):CA en F.Q3 [.int .u64 (IntKind.u64.wrap n)] H R:=by
 have hx:n=1∨n=2∨n=3∨n=4∨n=5∨n=6∨n=7∨n=8∨n=9∨n=10∨n=11∨n=12∨n=13∨n=14∨n=15∨n=16∨n=17∨n=18∨n=19∨n=20∨n=21∨n=22∨n=23∨n=24∨n=25∨n=26∨n=27∨n=28∨n=29∨n=30∨n=31∨n=32:=by omega
 rcases hx with rfl|rfl|rfl|rfl|rfl|rfl|rfl|rfl|rfl|rfl|rfl|rfl|rfl|rfl|rfl|rfl|rfl|rfl|rfl|rfl|rfl|rfl|rfl|rfl|rfl|rfl|rfl|rfl|rfl|rfl|rfl|rfl<;>exact awl (by kernel_rfl) (by decide) hR
theorem aqn {a:Option Addr}{n:Nat}{l:List Dc}{d:Dc}(hr:Rows H a n l)(hl:l.length<9223372036854775808)(hR:∀H',aX [] H H'->R (I (pE l d)) H'):CA en F.UH [.slice a n 0,d.val] H R:=by
 obtain ⟨rfl,hr⟩:=hr;apply aAt;refine sJ λi1 H2 e1 h2=>?_
 have g2:H2.get i1=some (.cells true 0 d.cells):=by subst e1 h2;exact nm _ _
 have l2:i1<H2.next:=by subst e1 h2;rw [iN];omega
 have f2:aX [] H H2:=by subst h2;exact (aX.refl _ _).new _
 clear e1 h2;refine ⟨d.kind,by rw [cell_of g2];rfl,ahE λH5 al ll f5 hi=>⟨_,_,_,_,_,_,_,rfl,?_⟩⟩;refine sJ λi13 bt e13 ig=>?_
 have g14:bt.get i13=some (.cells true 0 [I 0,.bool false,.bool false,.slice none 0 0,.bool false]):=by subst e13 ig;exact nm _ _
 refine xW g14 (bq _) λcz DV=>?_
 have f15:aX [] H2 cz:=by
  subst DV ig;exact (f5.new _).set _ (by right;have:=f5.1;omega)
 have g1:cz.get i1=some (.cells true 0 d.cells):=by rw [f15.2 _ l2 (by simp)];exact g2
 have JN:cz.get i13=some (.cells true 0 [I (d_ d.kind).words,.bool (d_ d.kind).buckets,.bool (d_ d.kind).nested,.slice al ll 0,.bool (d_ d.kind).DM]):=by rw [DV];exact uT _ _ _
 have f:aX [] H cz:=f2.trans f15 (by simp);clear DV ig g14 e13 hi f5 f2 g2;have KB:l=[]∨∃(i:Nat)(w:Bool)(z:Nat),a=some ⟨i,0,none⟩/\i<cz.next/\cz.get i=some (AS.Obj.cells w z (flat l)):=
  hr.imp_right λ⟨i,w,z,h1,h2,h3⟩=>⟨i,w,z,h1,De h2 f.1,by rw [f.2 i h2 (by simp)];exact h3⟩
 have nested:(1<=d.inner/\d.inner<=(l.length:Int))->(∀H',aX [] H H'->R (I (if (d_ (l.getD (d.inner - 1).toNat re).kind).nested=true then 14 else 0)) H')->
   ∃my,cz.cell i1 4=some (I my)/\az (IntKind.i64.wrap (my - 1)) l.length/\aV a λi45 i46=>
    ∃gR,cz.cell i45 (i46+(IntKind.i64.wrap (my - 1)).toNat*5)=some (I gR)/\CA en F.nU [I gR] cz λAX jl=>
     ∃gS Ji BK lr i54 Jj vP,AX=.tuple #[.agg #[I gS,.bool Ji,.bool BK,.slice lr i54 0,.bool Jj],.bool vP]/\
      aC jl (.cells true 0 [I 0,.bool false,.bool false,.slice none 0 0,.bool false]) λi57 lh=>
       aq lh i57 0 [I gS,.bool Ji,.bool BK,.slice lr i54 0,.bool Jj] λoy=>∃uQ,oy.cell i57 2=some (.bool uQ)/\cond uQ (R (I 14) oy) (R (I 0) oy):=by
  intro dZ hR;refine ⟨d.inner,by rw [cell_of g1];rfl,?_⟩;rw [wrap_i64 (by omega)];refine ⟨by unfold az;omega,?_⟩;rcases KB with rfl|⟨i,w,z,rfl,hb,hg⟩
  ·simp only [nM] at dZ;omega
  ·rw [I3];refine ⟨(l.getD (d.inner - 1).toNat re).kind,by rw [cell_of hg,cG];exact U_ l _ (by omega),?_⟩;refine ahE λjl a2 l3 f49 hi=>⟨_,_,_,_,_,_,_,rfl,?_⟩
   refine sJ λi57 lh e57 vX=>?_
   have g58:lh.get i57=some (.cells true 0 [I 0,.bool false,.bool false,.slice none 0 0,.bool false]):=by subst e57 vX;exact nm _ _
   refine xW g58 (bq _) λoy e59=>?_
   have f59:aX [] H oy:=by
    subst e59 vX;exact ((f.trans f49 (by simp)).new _).set _ (by right;have:=f49.1;have:=f.1;omega)
   refine ⟨(d_ (l.getD (d.inner - 1).toNat re).kind).nested,by rw [e59,cell_of (uT _ _ _)];rfl,?_⟩
   have:=hR _ f59
   refine aI (λh=>?_) λh=>?_
   ·rw [ar h] at this;exact this
   ·rw [an (by rw [h];decide)] at this;exact this
 have leaf:∀c,pE l d=c->R (I c) cz:=λc e=>by have:=hR _ f;rw [e] at this;exact this
 have deep:∀c,pE l d=c->∀H',aX [] H H'->R (I c) H':=λc e H' f'=>by have:=hR _ f';rw [e] at this;exact this
 clear hR KB hr f15 f;cases eJ:(lV d.kind).isSome
 ·exact leaf _ (by unfold pE;rw [ar eJ])
 cases B8:(d_ d.kind).buckets<;>cases B9:(d_ d.kind).nested<;>rw [B8,B9] at JN
 all_goals
  repeat' first
   |refine leaf _ ?_
   |refine aof ⟨_,rfl,?_⟩
   |refine nested ?_ (deep _ ?_)
   |refine ⟨_,by rw [cell_of g1];rfl,?_⟩
   |refine ⟨_,by rw [cell_of JN];rfl,?_⟩
   |(refine an1 (by simp only [SI,gf,aaD] at *;omega) λc hc=>⟨_,rfl,?_⟩)
   |refine aI (λh=>?_) λh=>?_
 all_goals
  clear leaf nested deep g1 JN
  try unfold pE
  try unfold pow at *
  simp only [eJ,B8,B9,Dd,SI,Bool.not_eq_true,aaD,gf,jF,zi,aay,Ii,Bool.not_false,Bool.true_eq_false,Iq,pc,Bb,true_and,false_and,Db,false_or,ne_eq,reduceCtorEq] at *
  try ((repeat' split)<;>omega)
end
section
variable {H:aa} {R:Value->aa->Prop}
theorem axL (k:Int):(lV k).isSome=decide (1<=k/\k<=10):=by
 by_cases h:1<=k/\k<=10
 ·have hx:k=1∨k=2∨k=3∨k=4∨k=5∨k=6∨k=7∨k=8∨k=9∨k=10:=by omega
  rcases hx with rfl|rfl|rfl|rfl|rfl|rfl|rfl|rfl|rfl|rfl<;>rfl
 ·have e:lV k=none:=by
   unfold lV
   repeat rw [an (by omega)]
  rw [e,Bc h];rfl
theorem ad0 (k:Int):(d_ k).buckets=decide (k=4∨k=8∨k=10):=by
 by_cases h:1<=k/\k<=10
 ·have hx:k=1∨k=2∨k=3∨k=4∨k=5∨k=6∨k=7∨k=8∨k=9∨k=10:=by omega
  rcases hx with rfl|rfl|rfl|rfl|rfl|rfl|rfl|rfl|rfl|rfl<;>rfl
 ·have e:lV k=none:=by
   unfold lV
   repeat rw [an (by omega)]
  unfold d_;rw [e,Bc (by omega)];rfl
theorem ajQ (k:Int):(d_ k).nested=decide (k=9∨k=10):=by
 by_cases h:1<=k/\k<=10
 ·have hx:k=1∨k=2∨k=3∨k=4∨k=5∨k=6∨k=7∨k=8∨k=9∨k=10:=by omega
  rcases hx with rfl|rfl|rfl|rfl|rfl|rfl|rfl|rfl|rfl|rfl<;>rfl
 ·have e:lV k=none:=by
   unfold lV
   repeat rw [an (by omega)]
  unfold d_;rw [e,Bc (by omega)];rfl
theorem aCN (k:Int):(d_ k).words=if k=3∨k=6∨k=7 then 4 else if 1<=k/\k<=10 then 1 else 0:=by
 by_cases h:1<=k/\k<=10
 ·have hx:k=1∨k=2∨k=3∨k=4∨k=5∨k=6∨k=7∨k=8∨k=9∨k=10:=by omega
  rcases hx with rfl|rfl|rfl|rfl|rfl|rfl|rfl|rfl|rfl|rfl<;>rfl
 ·have e:lV k=none:=by
   unfold lV
   repeat rw [an (by omega)]
  unfold d_;rw [e,an (by omega),an h];rfl
theorem an4 {x:Int}(hR:R (.bool (d_ x).buckets) H):CA en F.yq [I x] H R:=by
 apply az2;rw [ad0] at hR;have e:decide (x=4∨x=8∨x=10)=(x==4||(x==8||x==10)):=by rw [p7];simp
 rw [e] at hR;exact aI (λh=>by rw [h] at hR;exact hR) λh=>aI (λh'=>by rw [h,h'] at hR;exact hR) λh'=>by rw [h,h'] at hR;exact hR
theorem aa2 {x:Int}(hR:R (.bool (d_ x).nested) H):CA en F.iH [I x] H R:=by
 apply NP;rw [ajQ] at hR;have e:decide (x=9∨x=10)=(x==9||x==10):=by rw [p7];simp
 rw [e] at hR;exact hR
theorem an8 {x:Int}(hR:R (.bool (decide (x=1∨x=2∨x=4∨x=8∨x=16∨x=32))) H):CA en F.Gb [I x] H R:=by
 apply az4;have e:decide (x=1∨x=2∨x=4∨x=8∨x=16∨x=32)=(x==1||(x==2||(x==4||(x==8||(x==16||x==32))))):=by rw [p7,Df];simp
 rw [e] at hR
 repeat' (refine aI (λh=>?_) λh=>?_)
 all_goals simp_all
set_option maxHeartbeats 4000000 in
theorem awk {a:Option Addr}{n:Nat}{l:List Dc}{d:Dc}(hr:Rows H a n l)(hl:l.length<9223372036854775808)(hR:∀H',aX [] H H'->R (I (pE l d)) H'):CA en F.Us [.slice a n 0,d.val] H R:=by
 obtain ⟨rfl,hr⟩:=hr;apply az3;refine sJ λi1 H2 e1 h2=>?_
 have g1:H2.get i1=some (.cells true 0 d.cells):=by subst e1 h2;exact nm _ _
 have f2:aX [] H H2:=by subst h2;exact (aX.refl _ _).new _
 clear e1 h2;have JM:(H2.ae 18).get i1=some (.cells true 0 d.cells):=g1;have f3:aX [] H (H2.ae 18):=f2.ae _;have KB:l=[]∨∃(i:Nat)(w:Bool)(z:Nat),a=some ⟨i,0,none⟩/\i<H.next/\(H2.ae 18).get i=some (AS.Obj.cells w z (flat l)):=
  hr.imp_right λ⟨i,w,z,h1,h2,h3⟩=>⟨i,w,z,h1,h2,by rw [f3.2 i h2 (by simp)];exact h3⟩
 have nested:(1<=d.inner/\d.inner<=(l.length:Int))->pE l d=(if (d_ (l.getD (d.inner - 1).toNat re).kind).nested=true then 14 else 0)->
   ∃my,(H2.ae 18).cell i1 4=some (I my)/\az (IntKind.i64.wrap (my - 1)) l.length/\aV a λi45 i46=>
    ∃gR,(H2.ae 18).cell i45 (i46+(IntKind.i64.wrap (my - 1)).toNat*5)=some (I gR)/\CA en F.iH [I gR] (H2.ae 18) λAX jl=>
     ∃w9,AX=.bool w9/\cond w9 (R (I 14) jl) (R (I 0) jl):=by
  intro dZ hc
  have:=hR _ f3
  refine ⟨d.inner,by rw [cell_of JM];rfl,?_⟩;rw [wrap_i64 (by omega)];refine ⟨by unfold az;omega,?_⟩;rcases KB with rfl|⟨i,w,z,rfl,hb,hg⟩
  ·simp only [nM] at dZ;omega
  ·rw [I3];refine ⟨(l.getD (d.inner - 1).toNat re).kind,by rw [cell_of hg,cG];exact U_ l _ (by omega),?_⟩;refine aa2 ⟨_,rfl,?_⟩;rw [hc] at this;refine aI (λh=>?_) λh=>?_
   ·rw [ar h] at this;exact this
   ·rw [an (by rw [h];decide)] at this;exact this
 have ah7:∀c,pE l d=c->R (I c) H2:=λc e=>by have:=hR _ f2;rw [e] at this;exact this
 have ah8:∀c,pE l d=c->R (I c) (H2.ae 18):=λc e=>by have:=hR _ f3;rw [e] at this;exact this
 clear hR KB hr f2 f3;have hb:=(ad0 d.kind).symm;have hn:=(ajQ d.kind).symm;cases B8:(d_ d.kind).buckets<;>cases B9:(d_ d.kind).nested<;>rw [B8] at hb<;>rw [B9] at hn
 all_goals
  repeat' first
   |refine ah7 _ ?_
   |refine ah8 _ ?_
   |refine an4 ⟨_,rfl,?_⟩
   |refine aa2 ⟨_,rfl,?_⟩
   |refine an8 ⟨_,rfl,?_⟩
   |refine nested ?_ ?_
   |refine ⟨_,by rw [cell_of g1];rfl,?_⟩
   |refine ⟨_,by rw [cell_of JM];rfl,?_⟩
   |refine aI (λh=>?_) λh=>?_
   |refine ⟨?_,⟨rfl,rfl,trivial⟩,⟨⟨_,by rw [cell_of JM];rfl,rfl⟩,⟨_,by rw [cell_of JM];rfl,rfl⟩,trivial⟩,trivial⟩
   |fail
 all_goals
  clear ah7 ah8 nested g1 JM
  try unfold pE
  try rw [axL,aCN]
  try unfold pow at *
  simp only [B8,B9,rP,mc,Bool.true_beq,Bool.false_beq,Dd,SI,Bool.not_eq_true,aaD,gf,jF,zi,aay,Ii,Bool.not_false,Bool.true_eq_false,Iq,pc,Bb,true_and,false_and,Db,false_or,ne_eq,reduceCtorEq] at *
  try ((repeat' split)<;>omega)
end
section
variable {H:aa} {R:Value->aa->Prop}
def yx (l:List Dc):List Dc->Int
 |[]=>0
 |d::r=>if pE l d≠0 then pE l d else yx l r
def vR (l:List Dc):Int:=if (l.length:Int)>10 then 19 else yx l l
theorem aeQ (l:List Dc)(j:Nat)(h:j<l.length):l.drop j=l.getD j re::l.drop (j+1):=by
 rw [gu,cM h,zr];exact zy h
theorem Yo {a n l}(hr:Rows H a n l){j:Nat}(hj:j<l.length):∃i,a=some ⟨i,0,none⟩/\i<H.next/\H.aM i (0+j*5) 5=some (l.getD j re).cells:=by
 rcases hr.2 with rfl|⟨i,w,z,rfl,h1,h2⟩
 ·simp at hj
 ·exact ⟨i,rfl,h1,by rw [nT h2,cG];exact afn l j hj⟩
theorem aaO {a:Option Addr}{n:Nat}{l:List Dc}(hr:Rows H a n l)(hR:∀H',aX [] H H'->R (I (vR l)) H'):CA en F.OM [.slice a n 0] H R:=by
 obtain rfl:=hr.1;apply aAs;refine aI (λh=>?_) λh=>?_
 ·have:=hR H (aX.refl _ _)
  unfold vR at this;rw [ar (by simpa using h)] at this;exact this
 simp only [jF] at h;refine ayG (λm _ i H'=>∃j:Nat,j<=l.length/\m=l.length - j/\i=(j:Int)/\aX [] H H'/\vR l=yx l (l.drop j)) l.length ⟨0,by omega,rfl,rfl,aX.refl _ _,by unfold vR;rw [an h];rfl⟩ ?_;rintro m t2 i ys H' ⟨j,hj,rfl,rfl,fr,hc⟩;refine aI (λh=>?_) λh=>?_
 ·simp only [gf] at h;have hG:j<l.length:=by omega
  refine ⟨by unfold az;omega,?_⟩;have qC:=hr.JL fr;obtain ⟨b,rfl,hb,hg⟩:=Yo qC hG;rw [I3];refine ⟨_,_,_,_,_,by rw [dr];exact hg,?_⟩;have h0:Sep H' []:=Sep.nil;refine sJ λi8 H9 e8 e9=>?_
  have g9:H9.get i8=some (.cells true 0 [I 0,I 0,I 0,I 0,I 0]):=by subst e8 e9;exact nm _ _
  refine xW g9 (bq _) λeO rf=>?_
  have afs:aX [] H eO:=by subst e8 e9 rf;exact (fr.new _).set _ (by right;exact fr.1)
  refine ⟨_,_,_,_,_,by rw [rf,nT (uT _ _ _)];rfl,?_⟩;refine aqn (d:=l.getD j re) (hr.JL afs) (by omega) λaQ Ve=>⟨_,rfl,?_⟩
  have qt:=afs.trans Ve (by simp);rw [aeQ l j hG] at hc;refine aI (λh1=>?_) λh1=>⟨l.length - (j+1),by omega,j+1,by omega,rfl,?_,qt,?_⟩
  ·simp only [Na,Nb,FZ]
   have:=hR _ qt
   rw [hc] at this;unfold yx at this;rw [ar (by simpa using h1)] at this;exact this
  ·rw [wrap_i64 (by omega)];omega
  ·rw [hc];show (if pE l (l.getD j re)≠0 then pE l (l.getD j re) else yx l (l.drop (j+1)))=_;rw [an (by simpa using h1)]
 ·simp only [jF] at h;obtain rfl:j=l.length:=by omega
  rw [Nj] at hc;simp only [Na,Nb,FZ]
  have:=hR _ fr
  rw [hc] at this;exact this
theorem an5 {a:Option Addr}{n:Nat}{l:List Dc}(hr:Rows H a n l)(hR:∀H',aX [] H H'->R (I (vR l)) H'):CA en F.Uq [.slice a n 0] H R:=by
 obtain rfl:=hr.1;apply azZ;refine aI (λh=>?_) λh=>?_
 ·have:=hR H (aX.refl _ _)
  unfold vR at this;rw [ar (by simpa using h)] at this;exact this
 simp only [jF] at h;refine ayv (λm _ i H'=>∃j:Nat,j<=l.length/\m=l.length - j/\i=(j:Int)/\aX [] H H'/\vR l=yx l (l.drop j)) l.length ⟨0,by omega,rfl,rfl,aX.refl _ _,by unfold vR;rw [an h];rfl⟩ ?_;rintro m t2 i ys H' ⟨j,hj,rfl,rfl,fr,hc⟩;refine aI (λh=>?_) λh=>?_
 ·simp only [gf] at h;have hG:j<l.length:=by omega
  refine ⟨by unfold az;omega,?_⟩;have qC:=hr.JL fr;obtain ⟨b,rfl,hb,hg⟩:=Yo qC hG;rw [I3];refine ⟨_,_,_,_,_,by rw [dr];exact hg,?_⟩;refine awk (d:=l.getD j re) qC (by omega) λaQ Ve=>⟨_,rfl,?_⟩
  have qt:=fr.trans Ve (by simp);rw [aeQ l j hG] at hc;refine aI (λh1=>?_) λh1=>⟨l.length - (j+1),by omega,j+1,by omega,rfl,?_,qt,?_⟩
  ·simp only [Na,Nb,FZ]
   have:=hR _ qt
   rw [hc] at this;unfold yx at this;rw [ar (by simpa using h1)] at this;exact this
  ·rw [wrap_i64 (by omega)];omega
  ·rw [hc];show (if pE l (l.getD j re)≠0 then pE l (l.getD j re) else yx l (l.drop (j+1)))=_;rw [an (by simpa using h1)]
 ·simp only [jF] at h;obtain rfl:j=l.length:=by omega
  rw [Nj] at hc;simp only [Na,Nb,FZ]
  have:=hR _ fr
  rw [hc] at this;exact this
end
end Go.Proofs.YtjggeoghlicmdaaGreat
