/-
  hashAgrees.proved: part 7 of its proof. No condition.
  Written by a program out of the texts Hash11b Hash11c Hash11d Hash11e Hash11f VcHf Hash11g HashMo HashMo2 HashV5 VcHg HashPlay HashPlay2 HashPlay3 HashPlay4 HashPlay5 HashPlay6 HashTurn HashTurn2 HashTurn3 HashTurn4 HashTurn5 HashTurn6 HashTurn7 HashTurn8 HashTurn9 HashTurn10.
-/
import Derived.Test.YtjggeoghlicmdaaGreatHashAgreesP6
set_option linter.unusedVariables false
namespace Go.Proofs.YtjggeoghlicmdaaGreat
open Go Go.AS Go.RowKit
section
variable {H H' H0:aa} {R:Value->aa->Prop} {L:List ax} {A B:ax} {va:Option Addr} {y vn:Nat} {lb eb:Option Nat} {ok flag bW:Int} {key val:BitVec 64} {d:Dk} {D:Dm} {e:En}
def Dm.put (D:Dm)(i:Nat)(e:En)(q:Nat)(w:BitVec 64):Dm:=if 0<e.el then {D with vs:=D.vs.set (e.el - 1) w} else {D with es:=D.es.set i ⟨e.k,q,w,e.el⟩}
theorem Dm.Mx (o:D.Ok d){i:Nat}(he:D.es[i]? =some e):∃b,D.lb=some b:=by
 cases hb:D.lb with
 |none=>have:=o.n1 hb;rw [this] at he;simp at he
 |some b=>exact ⟨b,rfl⟩
theorem Dm.aeZ (o:D.Ok d)(he:e∈D.es):e.el<=D.vs.length:=by
 rcases o.el e he with h|h
 ·exact h.2.2
 ·omega
theorem Dm.awz (o:D.Ok d){i q:Nat}{w:BitVec 64}(he:D.es[i]? =some e):(D.put i e q w).Ok d:=by
 unfold Dm.put;split
 ·refine ⟨o.n1,λh=>?_,o.le,by show (D.vs.set _ _).length<=_;rw [gT];exact o.lv,λx hx=>by show _∨_;rw [show ({D with vs:=D.vs.set (e.el - 1) w}:Dm).vs.length=D.vs.length from gT];exact o.el x hx⟩;show D.vs.set _ _=[];rw [o.n2 h];rfl
 ·refine ⟨λh=>?_,o.n2,by show (D.es.set _ _).length<=_;rw [gT];exact o.le,o.lv,λx hx=>?_⟩
  ·show D.es.set _ _=[];rw [o.n1 h];rfl
  ·rcases aap hx with h|h
   ·exact o.el x h
   ·subst h;exact o.el e (dF he)
theorem Mo {l:List (BitVec 64)}{i:Nat}{w:BitVec 64}:setAt (l.map W) i [W w]=(l.set i w).map W:=by
 show (l.map W).set i (W w)=_;exact (zC ..).symm
theorem atY {i:Nat}(o:D.Ok d)(h:Sep H (yE y d D::lE D::vE D::xE D::L))(he:D.es[i]? =some e)(ra:∀L,old H0∈L->lO L va [val])(ho:old H0∈L)
  (hR:∀H' q,Sep H' (yE y d (D.put i e q val)::lE (D.put i e q val)::vE (D.put i e q val)::xE (D.put i e q val)::L)->R undef H') :
  CA en F.Uu [P y,I i,.slice va 1 0] H R:=by
 have hi:=(bJ.1 he).1;have nr:=Dm.aeZ o (dF he);have wc:=o.lv;have⟨b,hb⟩:=Dm.Mx o he;apply az_;have hg:Sep H (lE D::yE y d D::vE D::xE D::L):=Sep.iE h;unfold lE at hg;rw [hb] at hg;have hg:=dN.1 hg;have sF:(j8 D.es)[i]? =some (nj e):=by rw [jg,he];rfl
 refine af ⟨_,_,Sep.aG h rfl,by unfold az;omega,?_⟩;rw [hb];refine bG ⟨_,by rw [dr];exact Gs (o:=2) hg (k:=0) rfl (yv _) sF rfl,aI (λz=>?_) λz=>?_⟩
 ·have z:0<e.el:=by have:=ga z;omega
  have hB:=h.ae 18;have hgB:=hg.ae 18;have ew:IntKind.i64.wrap ((e.el:Int) - 1)=((e.el - 1:Nat):Int):=by rw [wrap_i64 (by omega)];omega
  have⟨x,hx⟩:∃b,D.eb=some b:=by
   cases hb:D.eb with
   |none=>have:=o.n2 hb;rw [this] at nr;simp at nr;omega
   |some b=>exact ⟨b,rfl⟩
  have Kk:Sep (H.ae 18) (xE D::_):=Sep.k_ hB;unfold xE at Kk;rw [hx] at Kk;have Kk:=dN.1 Kk;obtain ⟨iv,rfl,Kf⟩:=ra (yE y d D::lE D::vE D::xE D::L) (by simp [ho]) _ hB 0 val rfl;refine af ⟨_,_,Sep.aG hB rfl,af ⟨_,_,Sep.aG hB rfl,by unfold az;omega,?_⟩⟩;rw [hb,hx];refine bG ⟨_,by rw [dr];exact Gs (o:=2) hgB (k:=0) rfl (yv _) sF rfl,by unfold az;omega,bG ⟨_,Kf,?_⟩⟩;rw [ew];refine ⟨by unfold az;omega,bG (Sep.dp Kk (by rw [dr,gb];simp only [gU,nM];omega) λbM kA=>⟨hR bM 0 ?_,trivial⟩)⟩;have eP:D.put i e 0 val={D with vs:=D.vs.set (e.el - 1) val}:=ar z;rw [dr,cG,ou,Mo] at kA;rw [eP];have ij:Sep bM (gl 1 (some x) ((D.vs.set (e.el - 1) val).map W)::yE y d D::lE D::vE D::L):=dN.2 kA;rw [<-hx] at ij;have tK:=Sep.pick ij 4 [1,2,3,0];show Sep bM (bx y (.cells true 0 [I d.kd,I d.en,I 1,I d.bk,I d.jJ,.slice (addr D.lb) D.es.length 0,.slice (addr D.eb) (D.vs.set (e.el - 1) val).length 0])::_);rw [gT];exact tK
 ·have z:¬0<e.el:=by have:=fQ z;omega
  have hB:=h.ae 10;refine af ⟨_,_,Sep.aG hB rfl,Ny hB (ra _ (by simp [ho])) rfl (by show 1<1000000000;decide) λgI q hq nV=>⟨_,_,rfl,by unfold az;omega,?_⟩⟩;obtain ⟨q,rfl⟩:∃v,q=some v:=by
   cases q with
   |none=>cases hq rfl
   |some v=>exact ⟨v,rfl⟩
  have sC:Sep gI (lE D::gl 1 (some q) (bS [val])::yE y d D::vE D::xE D::L):=Sep.qM nV;unfold lE at sC;rw [hb] at sC⊢;have sC:=dN.1 sC;have es:j8 D.es=(j8 D.es).set i (nj e):=(RN sF).symm;rw [es] at sC;refine bG ?_;rw [dr];refine kI (o:=1) (vs:=[.slice (some ⟨q,0,none⟩) 1 0]) sC 0 rfl (yv _) rfl (by rw [gb];exact hi) (by show 1+1<=3;decide) λjk vU=>⟨hR jk q ?_,⟨⟨_,_,Sep.aG hB rfl,?_,rfl,rfl⟩,⟨_,_,Sep.bn nV rfl,?_,rfl,rfl⟩,trivial⟩,trivial⟩
  ·have eP:D.put i e q val={D with es:=D.es.set i ⟨e.k,q,val,e.el⟩}:=an z;rw [eP];have er:(j8 D.es).set i (setAt (nj e) 1 [.slice (some ⟨q,0,none⟩) 1 0])=j8 (D.es.set i ⟨e.k,q,val,e.el⟩):=by
    rw [show setAt (nj e) 1 [.slice (some ⟨q,0,none⟩) 1 0]=nj ⟨e.k,q,val,e.el⟩ from rfl];exact (zC ..).symm
   have vU:Sep jk (bx b (.cells true 3 ((j8 D.es).set i (setAt (nj e) 1 [.slice (some ⟨q,0,none⟩) 1 0])).flatten)::gl 1 (some q) (bS [val])::yE y d D::vE D::xE D::L):=vU;rw [er] at vU;have qw:Sep jk (gl 3 (some b) (j8 (D.es.set i ⟨e.k,q,val,e.el⟩)).flatten::gl 1 (some q) (bS [val])::yE y d D::vE D::xE D::L):=dN.2 vU;rw [<-hb] at qw;have vV:=Q4 (k:=i) (A:=lx e) (by rw [jg,he];rfl) (Sep.k_ qw);have yD:Sep jk (gl 1 (some q) (bS [val])::many ((D.es.map lx).eraseIdx i)::gl 3 D.lb (j8 (D.es.set i ⟨e.k,q,val,e.el⟩)).flatten::yE y d D::xE D::L):=Sep.pick vV 6 [3,1,2,4,5];have JR:=aiH (k:=i) (B:=lx ⟨e.k,q,val,e.el⟩) (by rw [gb];exact hi) (dN.1 yD);have ev:(D.es.map lx).set i (lx ⟨e.k,q,val,e.el⟩)=(D.es.set i ⟨e.k,q,val,e.el⟩).map lx:=(zC ..).symm;rw [ev] at JR;show Sep jk (bx y (.cells true 0 [I d.kd,I d.en,I 1,I d.bk,I d.jJ,.slice (addr D.lb) (D.es.set i ⟨e.k,q,val,e.el⟩).length 0,.slice (addr D.eb) D.vs.length 0])::_);rw [gT];exact Sep.pick JR 4 [2,1,0,3]
  ·rw [hb]
  ·rw [hb]
def lC (n:Int)(a b:BitVec 64):Prop:=bZ a n<bZ b n∨(bZ a n=bZ b n/\a.toNat<b.toNat)
instance {n:Int}{a b:BitVec 64}:Decidable (lC n a b):=by unfold lC;infer_instance
theorem TZ {k n:Int}(hk:k=4∨k=10){a b:BitVec 64}:N3 k n a b=decide (lC n a b):=by
 have e:(d_ k).DM=true:=by rcases hk with rfl|rfl<;>rfl
 unfold N3;simp only [e,pc];rw [p7];by_cases h:bZ a n=bZ b n
 ·rw [an (by simpa using h),Df,Df];unfold lC;omega
 ·rw [ar h,Df,Df];unfold lC;omega
theorem auV {n:Int}{a b c:BitVec 64}(h1:lC n a b)(h2:lC n b c):lC n a c:=by
 unfold lC at *;omega
def rH (d:Dk)(fl:Int)(ky k:BitVec 64):Prop:=fl=1∨lC d.bk ky k
def Dl (d:Dk)(fl:Int)(ky:BitVec 64)(l:List En)(t:Int)(es:List En):Prop:=(t= -1/\∀x∈l,¬rH d fl ky x.k)∨∃(i:Nat)(e:En),t=(i:Int)/\es[i]? =some e/\rH d fl ky e.k/\∀x∈l,rH d fl ky x.k->¬lC d.bk x.k e.k
theorem av0 (hk:d.kd=4∨d.kd=10) (qx:d.bk<9223372036854775808) (o:D.Ok d) (h:Sep H (yE y d D::lE D::L))
  (h1:∀H' e,e∈D.es->rH d flag key e.k->(∀x∈D.es,rH d flag key x.k->¬lC d.bk x.k e.k)->Sep H' (yE y d D::lE D::L)->R (.agg #[I 0,.slice none 0 0,W e.k,I 0]) H')
  (h2:∀H',(∀x∈D.es,¬rH d flag key x.k)->Sep H' (yE y d D::lE D::L)->R (.agg #[I 2,.slice none 0 0,W 0,I 0]) H') :
  CA en F.Ut [P y,.agg #[I ok,W key,.slice va vn 0,I flag,I bW]] H R:=by
 have hle:=o.le;apply az9;refine Sep.nw h λi1 H2 BT=>Sep.nw BT λi3 H4 h4=>?_
 refine ayy (λk t5 t6 H'=>∃j:Nat,j<=D.es.length/\k=D.es.length - j/\t6=(j:Int)/\Dl d flag key (D.es.take j) t5 D.es/\Sep H' (bx i3 (.cells true 0 [I 0,.slice none 0 0,W 0,I 0])::bx i1 (.cells true 0 [I ok,W key,.slice va vn 0,I flag,I bW])::yE y d D::lE D::L)) D.es.length ⟨0,h_ _,rfl,rfl,.inl ⟨rfl,λx hx=>by simp at hx⟩,h4⟩ ?_;clear h4 BT h;rintro k t5 t6 ys H3 ⟨j,hj,rfl,rfl,B2,hs⟩;refine af ⟨_,_,Sep.eK hs rfl,aI (λz=>?_) λz=>?_⟩
 ·have z:j<D.es.length:=by have:=ga z;omega
  have⟨e,he⟩:∃e,D.es[j]? =some e:=⟨_,cM z⟩;have⟨b,hb⟩:=Dm.Mx o he;have ht:D.es.take (j+1)=D.es.take j++[e]:=by rw [vC,he];rfl
  have ew:IntKind.i64.wrap ((j:Int)+1)=((j+1:Nat):Int):=by rw [wrap_i64 (by omega)];omega
  have row:∀{H:aa} (i:Nat) (x:En),AS.Sep H (bx i3 (.cells true 0 [I 0,.slice none 0 0,W 0,I 0])::bx i1 (.cells true 0 [I ok,W key,.slice va vn 0,I flag,I bW])::yE y d D::lE D::L)->D.es[i]? =some x->H.cell b (0+((i:Nat):Int).toNat*3)=some (W x.k):=λ{H} i x hs hx=>by
   have hg:AS.Sep H (lE D::_):=Sep.k_ hs;unfold lE at hg;rw [hb] at hg;rw [dr];exact Gs (o:=0) (dN.1 hg) (k:=0) rfl (yv _) (by rw [jg,hx];rfl) rfl
  have D8:∀{H:aa} (t:Int),Dl d flag key (D.es.take (j+1)) t D.es->AS.Sep H (bx i3 (.cells true 0 [I 0,.slice none 0 0,W 0,I 0])::bx i1 (.cells true 0 [I ok,W key,.slice va vn 0,I flag,I bW])::yE y d D::lE D::L)->
    ∃k',k'<D.es.length - j/\∃j':Nat,j'<=D.es.length/\k'=D.es.length - j'/\IntKind.i64.wrap ((j:Int)+1)=(j':Int)/\Dl d flag key (D.es.take j') t D.es/\AS.Sep H (bx i3 (.cells true 0 [I 0,.slice none 0 0,W 0,I 0])::bx i1 (.cells true 0 [I ok,W key,.slice va vn 0,I flag,I bW])::yE y d D::lE D::L):=
   λt hB hs=>⟨D.es.length - (j+1),by omega,j+1,z,rfl,ew,hB,hs⟩
  have skip:¬rH d flag key e.k->Dl d flag key (D.es.take (j+1)) t5 D.es:=λhn=>by
   rw [ht];rcases B2 with ⟨rfl,g⟩|⟨i,x,g1,g2,g3,g4⟩
   ·refine .inl ⟨rfl,λu hu=>?_⟩;rcases dV.1 hu with hu|hu
    ·exact g u hu
    ·simp only [fo] at hu;subst hu;exact hn
   ·refine .inr ⟨i,x,g1,g2,g3,λu hu cF=>?_⟩;rcases dV.1 hu with hu|hu
    ·exact g4 u hu cF
    ·simp only [fo] at hu;subst hu;exact absurd cF hn
  have ahH:∀{k:BitVec 64},¬lC d.bk k k:=λh=>by unfold lC at h;omega
  have aej:∀{H:aa},rH d flag key e.k->AS.Sep H (bx i3 (.cells true 0 [I 0,.slice none 0 0,W 0,I 0])::bx i1 (.cells true 0 [I ok,W key,.slice va vn 0,I flag,I bW])::yE y d D::lE D::L)->(t5<0->Dl d flag key (D.es.take (j+1)) (j:Int) D.es)/\
    ∀(i:Nat) (x:En),t5=(i:Int)->D.es[i]? =some x->(lC d.bk e.k x.k->Dl d flag key (D.es.take (j+1)) (j:Int) D.es)/\(¬lC d.bk e.k x.k->Dl d flag key (D.es.take (j+1)) t5 D.es):=λ{H} hn hs=>by
   rw [ht];refine ⟨λaDM=>?_,λi x e1 hx=>⟨λaE=>?_,λKy=>?_⟩⟩
   ·rcases B2 with ⟨_,g⟩|⟨i,x,g1,_⟩
    ·refine .inr ⟨j,e,rfl,he,hn,λu hu cF=>?_⟩;rcases dV.1 hu with hu|hu
     ·exact absurd cF (g u hu)
     ·simp only [fo] at hu;subst hu;exact ahH
    ·omega
   ·rcases B2 with ⟨g1,g⟩|⟨i',x',g1,g2,g3,g4⟩
    ·omega
    ·have:i'=i:=by omega
     subst this;rw [hx] at g2;obtain rfl:=dM g2;refine .inr ⟨j,e,rfl,he,hn,λu hu cF hl=>?_⟩;rcases dV.1 hu with hu|hu
     ·exact g4 u hu cF (auV hl aE)
     ·simp only [fo] at hu;subst hu;exact ahH hl
   ·rcases B2 with ⟨g1,g⟩|⟨i',x',g1,g2,g3,g4⟩
    ·omega
    ·have:i'=i:=by omega
     subst this;rw [hx] at g2;obtain rfl:=dM g2;refine .inr ⟨i',x,g1,hx,g3,λu hu cF=>?_⟩;rcases dV.1 hu with hu|hu
     ·exact g4 u hu cF
     ·simp only [fo] at hu;subst hu;exact Ky
  have t5c:¬t5<0->∃(i:Nat) (x:En),t5=(i:Int)/\D.es[i]? =some x:=λvZ=>by
   rcases B2 with ⟨g1,_⟩|⟨i,x,g1,g2,_⟩
   ·omega
   ·exact ⟨i,x,g1,g2⟩
  have hB:=hs.ae 14;refine af ⟨_,_,Sep.eK hs rfl,by unfold az;omega,?_⟩;rw [hb];refine bG ⟨_,row j e hs he,_,Sep.bn hB rfl,aI (λzf=>?_) λzf=>?_⟩
  ·have zf:flag≠1:=by simpa using zf
   refine af ⟨_,_,_,_,_,Sep.yT hB rfl,_,Sep.bn hB rfl,?_⟩;refine TU (d:=⟨d.kd,d.en,1,d.bk,d.jJ⟩) qx λgg fr=>⟨_,rfl,?_⟩
   have j_:=hB.iy fr;rw [TZ hk];refine ⟨aI (λzn=>?_) λzn=>?_,trivial⟩
   ·have zn:¬lC d.bk key e.k:=by simpa using zn
    exact D8 t5 (skip λhn=>hn.elim zf zn) j_
   ·have zn:lC d.bk key e.k:=by simpa using zn
    have hc:=aej (.inr zn) j_;refine aI (λz0=>?_) λz0=>?_
    ·exact ⟨D8 _ (hc.1 (ga z0)) (j_.ae 18),trivial⟩
    ·have z0:¬t5<0:=fQ z0;have⟨i,x,e1,hx⟩:=t5c z0;have hC:=j_.ae 18;have hi:=(bJ.1 hx).1;refine af ⟨_,_,_,_,_,Sep.yT hC rfl,af ⟨_,_,Sep.eK hC rfl,by unfold az;omega,?_⟩⟩;rw [hb,e1];refine bG ⟨_,row i x hC hx,?_⟩;refine TU (d:=⟨d.kd,d.en,1,d.bk,d.jJ⟩) qx λp8 Gn=>⟨_,rfl,?_⟩
     have zX:=hC.iy Gn;rw [TZ hk];refine ⟨aI (λzl=>?_) λzl=>?_,trivial⟩
     ·exact D8 _ ((hc.2 i x e1 hx).1 (by simpa using zl)) zX
     ·rw [<-e1];exact D8 _ ((hc.2 i x e1 hx).2 (by simpa using zl)) zX
  ·have zf:flag=1:=by simpa using zf
   have hc:=aej (.inl zf) hB;refine ⟨aI (λz0=>?_) λz0=>?_,trivial⟩
   ·exact ⟨D8 _ (hc.1 (ga z0)) (hB.ae 18),trivial⟩
   ·have z0:¬t5<0:=fQ z0;have⟨i,x,e1,hx⟩:=t5c z0;have hC:=hB.ae 18;have hi:=(bJ.1 hx).1;refine af ⟨_,_,_,_,_,Sep.yT hC rfl,af ⟨_,_,Sep.eK hC rfl,by unfold az;omega,?_⟩⟩;rw [hb,e1];refine bG ⟨_,row i x hC hx,?_⟩;refine TU (d:=⟨d.kd,d.en,1,d.bk,d.jJ⟩) qx λp8 Gn=>⟨_,rfl,?_⟩
    have zX:=hC.iy Gn;rw [TZ hk];refine ⟨aI (λzl=>?_) λzl=>?_,trivial⟩
    ·exact D8 _ ((hc.2 i x e1 hx).1 (by simpa using zl)) zX
    ·rw [<-e1];exact D8 _ ((hc.2 i x e1 hx).2 (by simpa using zl)) zX
 ·have z:j=D.es.length:=by have:=fQ z;omega
  subst z;rw [wM] at B2;refine wZ (aI (λz0=>?_) λz0=>?_)
  ·have z0:t5<0:=ga z0;rcases B2 with ⟨_,g⟩|⟨i,x,g1,_⟩
   ·refine Sep.dp hs (aS rfl) λH8 h8=>⟨_,_,_,_,_,Sep.jK h8 rfl,?_⟩
    exact h2 H8 g (Sep.uu (Sep.uu h8))
   ·omega
  ·have z0:¬t5<0:=fQ z0;rcases B2 with ⟨g1,_⟩|⟨i,x,g1,g2,g3,g4⟩
   ·omega
   ·have⟨b,hb⟩:=Dm.Mx o g2;have hi:=(bJ.1 g2).1;have hg:Sep H3 (lE D::_):=Sep.k_ hs;unfold lE at hg;rw [hb] at hg;refine af ⟨_,_,Sep.eK hs rfl,by unfold az;omega,?_⟩;rw [hb,g1];refine bG ⟨_,by rw [dr];exact Gs (o:=0) (dN.1 hg) (k:=0) rfl (yv _) (by rw [jg,g2];rfl) rfl,?_⟩;refine Sep.dp hs (aS rfl) λH8 h8=>⟨_,_,_,_,_,Sep.jK h8 rfl,?_⟩
    exact h1 H8 x (dF g2) g3 g4 (Sep.uu (Sep.uu h8))
end
section
variable {H H' H0:aa} {R:Value->aa->Prop} {L M:List ax} {A:ax} {va:Option Addr} {y vn:Nat} {lb eb:Option Nat} {ok flag bW:Int} {key val:BitVec 64} {d:Dk} {D D':Dm} {e:En}
inductive iQ (d:Dk)(D:Dm)(kd:Int)(ky:BitVec 64)(fl:Int)(val:BitVec 64):Int->List (BitVec 64)->BitVec 64->Int->Dm->Prop where
 |uo:kd=2->fl=2->(∀x∈D.es,x.k≠ky)->iQ d D kd ky fl val 2 [] 0 0 D
 |um:kd≠2->kd≠4->(∀x∈D.es,x.k≠ky)->iQ d D kd ky fl val 2 [] 0 0 D
 |oq {i:Nat}{e:En}:kd=2->fl=1->D.es[i]? =some e->e.k=ky->iQ d D kd ky fl val 3 [] 0 0 D
 |set {i q:Nat}{e:En}:kd=2->fl≠1->D.es[i]? =some e->e.k=ky->iQ d D kd ky fl val 0 [] 0 0 (D.put i e q val)
 |full:kd=2->fl≠2->(∀x∈D.es,x.k≠ky)->d.en<=D.es.length->iQ d D kd ky fl val 4 [] 0 0 D
 |lay {q b:Nat}{eb:Option Nat}:kd=2->fl≠2->(∀x∈D.es,x.k≠ky)->(D.es.length:Int)<d.en->iQ d D kd ky fl val 0 [] 0 0 (D.lay d ky q val b eb)
 |look {i:Nat}{e:En}:kd=1->D.es[i]? =some e->e.k=ky->iQ d D kd ky fl val 0 [kS D e] 0 (if d.kd=10 then IntKind.i64.wrap e.w.toNat else e.el) D
 |take {i:Nat}{e:En}{lb:Option Nat}:kd=5->D.es[i]? =some e->e.k=ky->iQ d D kd ky fl val 0 [kS D e] 0 0 (D.cut i lb)
 |del {i:Nat}{e:En}{lb:Option Nat}:kd≠1->kd≠2->kd≠4->kd≠5->D.es[i]? =some e->e.k=ky->iQ d D kd ky fl val 0 [] 0 0 (D.cut i lb)
 |om:kd=4->(∀x∈D.es,¬rH d fl ky x.k)->iQ d D kd ky fl val 2 [] 0 0 D
 |next {e:En}:kd=4->e∈D.es->rH d fl ky e.k->(∀x∈D.es,rH d fl ky x.k->¬lC d.bk x.k e.k)->iQ d D kd ky fl val 0 [] e.k 0 D
theorem alA {x1:Int}(hk:d.kd=4∨d.kd=10)(h:Sep H (yE y d D::L))(hR:R undef H):CA en F.OF [P y,I x1] H R:=by
 apply aAb;exact af ⟨_,Sep.aG h rfl,bl (by rcases hk with e|e<;>rw [e]<;>rfl) hR⟩
abbrev aa7 (R:Value->aa->Prop)(d:Dk)(D:Dm)(y:Nat)(kd:Int)(ky:BitVec 64)(fl:Int)(val:BitVec 64)(L:List ax):Prop:=
 ∀H' no rv rk el D' g,iQ d D kd ky fl val no rv rk el D'->D'.Ok d->(g=none->rv=[])->AS.Sep H' (gl 1 g (bS rv)::yE y d D'::lE D'::vE D'::xE D'::L)->R (.agg #[I no,.slice (addr g) rv.length 0,W rk,I el]) H'
theorem ayj (hk:d.kd=4∨d.kd=10)(hen:d.en<=64)(o:D.Ok d)(hv:D.vs.length<1000000000)(h:Sep H (yE y d D::lE D::vE D::xE D::L))(ra:∀L,old H0∈L->lO L va [val])(ho:old H0∈L)(hR:aa7 R d D y 2 key flag val L) :
  CA en F.Uv [P y,.agg #[I 2,W key,.slice va 1 0,I flag,I bW]] H R:=by
 apply aAa;refine Sep.nw h λi1 H2 h2=>Sep.nw h2 λi3 H4 h4=>⟨_,Sep.bn h4 rfl,?_⟩
 have h5:=Sep.pick h4 6 [2,3,4,5,0,1];have out:∀{H:aa}{D':Dm}(no:Int),iQ d D 2 key flag val no [] 0 0 D'->D'.Ok d->AS.Sep H (yE y d D'::lE D'::vE D'::xE D'::bx i3 (.cells true 0 [I 0,.slice none 0 0,W 0,I 0])::bx i1 (.cells true 0 [I 2,W key,.slice va 1 0,I flag,I bW])::L)->
   aq H i3 0 [I no,.slice none 0 0,W 0,I 0] λeO=>∃bI,∃bY i13,∃cO,∃bC,eO.aM i3 0 4=some [(.int .i64 bI),(.slice bY i13 0),(.int .u64 cO),(.int .i64 bC)]/\R (.agg #[(.int .i64 bI),(.slice bY i13 0),(.int .u64 cO),(.int .i64 bC)]) eO:=λ{H D'} no hd cF hs=>by
  refine Sep.y_ hs (aS rfl) λeO eI=>⟨_,_,_,_,_,Sep.ah5 eI rfl,?_⟩
  exact hR eO no [] 0 0 D' none hd cF (λ_=>rfl) (kx.2 (Sep.pick eI 6 [0,1,2,3]))
 refine afg (d:=d) (D:=D) o h5 (λi e he ek as5=>⟨_,rfl,?_⟩) (λfW=>⟨_,rfl,?_⟩)
 ·have hi:=(bJ.1 he).1;refine cm (by rw [gf];omega) ⟨_,Sep.iL h5 rfl,aI (λz=>?_) λz=>?_⟩
  ·have z:flag=1:=by simpa using z
   exact out 3 (.oq rfl z he ek) o h5
  ·have z:flag≠1:=by simpa using z
   refine ⟨_,_,Sep.iL h5 rfl,atY o h5 he ra (by simp [ho]) λbf q gy=>⟨rfl,?_⟩⟩;refine alA hk gy ⟨rfl,?_⟩;exact out 0 (.set rfl z he ek) (Dm.awz o he) gy
 ·refine bl (by rw [jF];decide) ⟨_,Sep.iL h5 rfl,aI (λz=>?_) λz=>?_⟩
  ·have z:flag=2:=by simpa using z
   exact out 2 (.uo rfl z fW) o h5
  ·have z:flag≠2:=by simpa using z
   have hB:=h5.ae 11;refine af ⟨_,_,Sep.aG hB rfl,af ⟨_,Sep.aG hB rfl,aI (λzf=>?_) λzf=>?_,trivial⟩⟩
   ·have zf:d.en<=D.es.length:=by have:=ga zf;omega
    refine af ⟨_,Sep.aG hB rfl,cm (by rcases hk with e|e<;>rw [e]<;>rfl) ?_⟩;exact out 4 (.full rfl z fW zf) o hB
   ·have zf:(D.es.length:Int)<d.en:=by have:=fQ zf;omega
    refine ⟨_,Sep.iL hB rfl,_,_,Sep.iL hB rfl,?_⟩;refine atm hk o hB (by omega) hv ra (by simp [ho]) λyi q b sk gz Pn=>⟨rfl,?_⟩
    exact out 0 (.lay rfl z fW zf) gz Pn
theorem asz (hk:d.kd=4∨d.kd=10)(hen:d.en<=64)(qx:d.bk<9223372036854775808)(o:D.Ok d)(hv:D.vs.length<1000000000)(nr:d.kd=10->∀e∈D.es,e.el=0)(h:Sep H (yE y d D::lE D::vE D::xE D::L))(ra:ok=2->vn=1/\∀L,old H0∈L->lO L va [val])(ho:old H0∈L)(hR:aa7 R d D y ok key flag val L) :
  CA en F.OD [P y,.agg #[I ok,W key,.slice va vn 0,I flag,I bW]] H R:=by
 apply az7;refine Sep.nw h λi1 H2 h2=>Sep.nw h2 λi3 H4 h4=>⟨_,Sep.bn h4 rfl,?_⟩
 have fin:∀{H:aa}{no:Int}{rv:List (BitVec 64)}{rk:BitVec 64}{el:Int}{D':Dm}{g:Option Nat}{w:List Value},w.length=4->iQ d D ok key flag val no rv rk el D'->D'.Ok d->(g=none->rv=[])->AS.Sep H (bx i3 (.cells true 0 w)::gl 1 g (bS rv)::yE y d D'::lE D'::vE D'::xE D'::bx i1 (.cells true 0 [I ok,W key,.slice va vn 0,I flag,I bW])::L)->
   aq H i3 0 [I no,.slice (addr g) rv.length 0,W rk,I el] λeO=>∃bI,∃bY i13,∃cO,∃bC,eO.aM i3 0 4=some [(.int .i64 bI),(.slice bY i13 0),(.int .u64 cO),(.int .i64 bC)]/\R (.agg #[(.int .i64 bI),(.slice bY i13 0),(.int .u64 cO),(.int .i64 bC)]) eO:=λ{H no rv rk el D' g w} hw hd cF hg hs=>by
  obtain ⟨w0,w1,w2,w3,rfl⟩:∃a b c d,w=[a,b,c,d]:=by
   match w,hw with
   |[a,b,c,d],_=>exact ⟨a,b,c,d,rfl⟩
  refine Sep.dp hs (aS rfl) λeO eI=>⟨_,_,_,_,_,Sep.jK eI rfl,?_⟩
  exact hR eO no rv rk el D' g hd cF hg (Sep.rm5 (Sep.uu eI))
 have z3:[I 0,.slice none 0 0,W 0,I 0].length=4:=rfl;have h5:=Sep.pick h4 6 [2,3,4,5,0,1];refine aI (λz=>?_) λz=>?_
 ·have z:ok=4:=by simpa using z
  refine ⟨_,_,_,_,_,_,Sep.wu h4 rfl,av0 hk qx o h5 (λcE e he hn hb gP=>⟨_,_,_,_,_,rfl,?_⟩) λcE fW gP=>⟨_,_,_,_,_,rfl,?_⟩⟩
  ·exact fin (g:=none) (rv:=[]) z3 (.next z he hn hb) o (λ_=>rfl) (Sep.iE (kx.2 (Sep.pick gP 6 [4,0,1,2,3,5])))
  ·exact fin (g:=none) (rv:=[]) z3 (.om z fW) o (λ_=>rfl) (Sep.iE (kx.2 (Sep.pick gP 6 [4,0,1,2,3,5])))
 ·have z:ok≠4:=by simpa using z
  refine ⟨_,Sep.bn h4 rfl,aI (λzu=>?_) λzu=>?_⟩
  ·have zu:ok=2:=by simpa using zu
   subst zu;obtain ⟨rfl,ra2⟩:=ra rfl;refine ⟨_,_,_,_,_,_,Sep.wu h4 rfl,ayj hk hen o hv h5 ra2 (by simp [ho]) λnO no rv rk el D' g hd cF hg JQ=>⟨_,_,_,_,_,rfl,?_⟩⟩;exact fin z3 hd cF hg (Sep.pick JQ 7 [5,0,1,2,3,4,6])
  ·have zu:ok≠2:=by simpa using zu
   refine ⟨_,Sep.bn h4 rfl,afg (d:=d) (D:=D) o h5 (λi e he ek as5=>⟨_,rfl,?_⟩) (λfW=>⟨_,rfl,?_⟩)⟩
   ·have hi:=(bJ.1 he).1;have qB:=dF he;have agj:=Dm.aeZ o qB;have⟨b,hb⟩:=Dm.Mx o he;have hg:Sep H4 (lE D::_):=Sep.iE h5;unfold lE at hg;rw [hb] at hg;refine bl (by rw [jF];omega) (af ⟨_,_,Sep.aG h5 rfl,by unfold az;omega,?_⟩);rw [hb];refine bG ⟨_,_,_,_,by rw [dr];exact glr (dN.1 hg) (k:=0) rfl (yv _) (by rw [jg,he];rfl),?_⟩;refine Sep.nw h5 λi65 pk Pm=>Sep.dp Pm (aS rfl) λuE yF=>⟨_,Sep.wq yF rfl,?_⟩
    have yF:AS.Sep uE (bx i65 (.cells true 0 [W e.k,.slice (some ⟨e.q,0,none⟩) 1 0,I e.el])::yE y d D::lE D::vE D::xE D::bx i3 (.cells true 0 [I 0,.slice none 0 0,W 0,I 0])::bx i1 (.cells true 0 [I ok,W key,.slice va vn 0,I flag,I bW])::L):=yF;have rd:∀{M:List ax},lO (yE y d D::lE D::vE D::xE D::M) (some ⟨e.q,0,none⟩) [e.w]:=λ{M} H' hs=>by
     have h1:=Q4 (k:=i) (A:=lx e) (by rw [jg,he];rfl) (Sep.qM hs);exact HE (q:=some e.q) (ws:=[e.w]) (.head _) (λe=>by cases e) H' (dN.2 h1)
    refine aI (λz1=>?_) λz1=>?_
    ·have z1:ok=1:=by simpa using z1
     refine alA hk (Sep.iE yF) ⟨rfl,?_⟩;have hp:=yF.yA (n:=8) (a:=6) (.cells true 0 [I 0,.slice none 0 0,W 0,I 0]) (by decide);generalize uE.next+6=ir at hp⊢;have hq:=Sep.pick hp 8 [2,3,4,5,0,1,6,7];refine ⟨_,_,_,_,Sep.wu hp rfl,ag1 (d:=d) o hq agj rd λgW g zY=>⟨_,_,rfl,_,Sep.wq zY rfl,?_⟩⟩;refine Sep.MA zY (aS rfl) λmG yG=>⟨?_,?_⟩
     ·refine af ⟨_,Sep.bn yG rfl,aI (λzt=>?_) λzt=>?_⟩
      ·have zt:d.kd=10:=by simpa using zt
       have⟨i90,UT,c90⟩:=rd _ (Sep.pick yG 9 [1,2,3,4,0,5,6,7,8]) 0 e.w rfl;obtain rfl:e.q=i90:=by injection UT with UT;injection UT
       refine ⟨_,_,Sep.wq yG rfl,⟨by decide,by decide⟩,bG ⟨_,c90,Sep.MA yG (aS rfl) λnP Eg=>⟨_,_,_,_,_,Sep.QO Eg rfl,?_⟩⟩⟩;have hd:iQ d D ok key flag val 0 [kS D e] 0 (IntKind.i64.wrap e.w.toNat) D:=by
        have:=iQ.look (d:=d) (D:=D) (kd:=ok) (ky:=key) (fl:=flag) (val:=val) z1 he ek
        rw [ar zt] at this;exact this
       exact fin (g:=some g) (rv:=[kS D e]) z3 hd o (λh=>by cases h) (Sep.pick Eg 9 [7,0,1,2,3,4,8])
      ·have zt:d.kd≠10:=by simpa using zt
       have hd:iQ d D ok key flag val 0 [kS D e] 0 e.el D:=by
        have:=iQ.look (d:=d) (D:=D) (kd:=ok) (ky:=key) (fl:=flag) (val:=val) z1 he ek
        rw [an zt] at this;exact this
       refine ⟨_,_,_,_,_,Sep.QO yG rfl,?_⟩;exact fin (g:=some g) (rv:=[kS D e]) z3 hd o (λh=>by cases h) (Sep.pick yG 9 [7,0,1,2,3,4,8])
     ·refine ⟨⟨⟨_,Sep.gL hp,rfl⟩,⟨_,Sep.arT zY,rfl⟩,trivial⟩,⟨⟨_,Sep.bn hp rfl,rfl⟩,⟨_,Sep.wq zY rfl,rfl⟩,trivial⟩,trivial⟩
    ·have z1:ok≠1:=by simpa using z1
     have hq:=Sep.pick yF 7 [1,2,3,4,0,5,6];refine aI (λz5=>?_) λz5=>?_
     ·have z5:ok=5:=by simpa using z5
      refine agr o hq he λBn tX gz Pj=>⟨rfl,_,_,_,_,Sep.QO Pj rfl,?_⟩
      have Rw:lO (yE y d (D.cut i tX)::lE (D.cut i tX)::vE (D.cut i tX)::xE (D.cut i tX)::lx e::bx i65 (.cells true 0 [W e.k,.slice (some ⟨e.q,0,none⟩) 1 0,I e.el])::bx i3 (.cells true 0 [I 0,.slice none 0 0,W 0,I 0])::bx i1 (.cells true 0 [I ok,W key,.slice va vn 0,I flag,I bW])::L) (some ⟨e.q,0,none⟩) [e.w]:=λH' hs=>HE (q:=some e.q) (ws:=[e.w]) (.head _) (λe=>by cases e) H' (dN.2 (Sep.wG hs))
      refine ag1 (d:=d) gz Pj agj Rw λDt g afQ=>⟨_,_,rfl,?_⟩
      have ed:kS (D.cut i tX) e=kS D e:=rfl;rw [ed] at afQ;exact fin (g:=some g) (rv:=[kS D e]) z3 (.take z5 he ek) gz (λh=>by cases h) (Sep.pick afQ 9 [7,0,1,2,3,4,8])
     ·have z5:ok≠5:=by simpa using z5
      refine agr o hq he λBn tX gz Pj=>⟨rfl,?_⟩
      exact fin (g:=none) (rv:=[]) z3 (.del z1 zu z z5 he ek) gz (λ_=>rfl) (Sep.iE (kx.2 (Sep.pick Pj 8 [6,0,1,2,3,7])))
   ·refine cm (by rw [gf];decide) ?_;exact fin (g:=none) (rv:=[]) z3 (.um zu z fW) o (λ_=>rfl) (Sep.iE (kx.2 (Sep.pick h5 6 [4,0,1,2,3,5])))
end
section
variable {H H' H0:aa} {R:Value->aa->Prop} {L:List ax} {va:Option Addr} {vn:Nat} {ok flag bW:Int} {key:BitVec 64} {val:List (BitVec 64)} {d:Dk} {D:Dm} {e:En}
structure My where
 mx:Nat
 al:Nat
 y:Nat
 y2:Nat
 y3:Nat
 s1:Option Addr
 n1:Nat
 s2:Option Addr
 n2:Nat
 t1:Option Addr
 m1:Nat
 t2:Option Addr
 m2:Nat
abbrev rE (y:Nat)(s1:Option Addr)(n1:Nat)(s2:Option Addr)(n2:Nat):ax:=bx y (.cells true 0 [I 1,I 2,I 1,I 0,I 0,.slice s1 n1 0,.slice s2 n2 0])
abbrev cZ (m:My)(d:Dk)(D:Dm)(L:List ax):List ax:=yE m.y d D::lE D::vE D::xE D::bx m.mx (.cells true 0 [.slice (some ⟨m.al,0,none⟩) 3 0,I 1])::bx m.al (.cells true 1 [P m.y,P m.y2,P m.y3])::rE m.y2 m.s1 m.n1 m.s2 m.n2::rE m.y3 m.t1 m.m1 m.t2 m.m2::L
structure Dk.Ok (d:Dk):Prop where
 kd:(d.kd=4/\d.jJ=0)∨(d.kd=10/\d.jJ=2)
 en:1<=d.en/\d.en<=64
 bk:1<=d.bk/\d.bk<=32
theorem Dk.Ok.k2 (k:d.Ok):d.kd=4∨d.kd=10:=k.kd.imp And.left And.left
def zU (ok flag:Int):Prop:=if ok=2 then 0<=flag/\flag<=2 else if ok=4 then flag=0∨flag=1 else flag=0
def tz (d:Dk)(ok flag:Int)(val:List (BitVec 64)):Prop:=ok∈(d_ d.kd).tH/\(ok=2->val.length=1/\(d.kd=10->val.getD 0 0=2∨val.getD 0 0=3))/\zU ok flag
theorem UM (k:d.Ok)(h:ok∈(d_ d.kd).tH):ok=1∨ok=2∨ok=3∨ok=4∨(ok=5/\d.kd=4):=by
 rcases k.k2 with e|e<;>rw [e] at h<;>simp [d_,lV] at h<;>omega
theorem awj {x:Value}{b:Bool}(h:[x]=[Value.bool b]):x=.bool b:=by simpa using h
theorem arA {k0 k1 k2 k3 k4:Int}(h:Sep H L)(bB:ok≠6)(hR:∀H' b,(b=true↔zU ok flag)->Sep H' L->R (.bool b) H') :
  CA en F.Uy [.agg #[I k0,I k1,I k2,I k3,I k4],.agg #[I ok,W key,.slice va vn 0,I flag,I bW]] H R:=by
 apply aAi;refine Sep.nw h λi1 H2 h2=>Sep.nw h2 λi3 H4 h4=>⟨_,Sep.aG h4 rfl,?_⟩
 have hR:∀b,(b=true↔zU ok flag)->R (.bool b) H4:=λb hb=>hR H4 b hb h4.tail.tail
 refine aI (λz=>?_) λz=>?_
 ·have z:ok=2:=by simpa using z
  refine ⟨_,Sep.aG h4 rfl,aI (λz0=>⟨_,Sep.aG h4 rfl,hR _ ?_⟩) λz0=>hR _ ?_⟩
  ·have z0:=ga z0;unfold zU;rw [ar z,Df];omega
  ·have z0:=fQ z0;unfold zU;rw [ar z];constructor
   ·intro h;cases h
   ·intro h;omega
 ·have z:ok≠2:=by simpa using z
  refine bl (by rw [mc];exact bB) (aI (λz4=>⟨_,Sep.aG h4 rfl,aI (λz0=>hR _ ?_) λz0=>⟨_,Sep.aG h4 rfl,hR _ ?_⟩⟩) λz4=>⟨_,Sep.aG h4 rfl,hR _ ?_⟩)
  ·have z4:ok=4:=by simpa using z4
   have z0:flag=0:=by simpa using z0
   unfold zU;rw [an z,ar z4];simp [z0]
  ·have z4:ok=4:=by simpa using z4
   have z0:flag≠0:=by simpa using z0
   unfold zU;rw [an z,ar z4,rP];omega
  ·have z4:ok≠4:=by simpa using z4
   unfold zU;rw [an z,an z4,rP]
theorem atQ {m:My}(k:d.Ok)(h:Sep H (cZ m d D L))(hm:old H0∈L)(ra:∀L,old H0∈L->lO L va val)(tW:vn=val.length)(xp:val.length<=8)
  (hR:∀H' b,(b=true↔tz d ok flag val)->Sep H' (cZ m d D L)->R (.bool b) H') :
  CA en F.Ux [P m.mx,I 1,.agg #[I ok,W key,.slice va vn 0,I flag,I bW]] H R:=by
 apply aAg;have k2:=k.k2;refine Sep.nw h λi1 H2 h2=>bl rfl (af ⟨_,_,Sep.iL h2 rfl,bl rfl (af ⟨_,_,Sep.iL h2 rfl,⟨by decide,by decide⟩,bG ⟨_,Sep.wq h2 rfl,af ⟨_,_,_,_,_,Sep.wu h2 rfl,?_⟩⟩⟩)⟩)
 refine Sep.nw h2 λi21 gg j_=>Sep.dp j_ (aS rfl) λaZ rl=>?_
 have hB:=rl.ae 25
 let Ls:List ax:=bx i21 (.cells true 0 [I d.kd,I d.en,I 1,I d.bk,I d.jJ])::bx i1 (.cells true 0 [I ok,W key,.slice va vn 0,I flag,I bW])::cZ m d D L
 have hB:Sep (aZ.ae 25) Ls:=hB;have no:∀{H:aa},¬tz d ok flag val->AS.Sep H Ls->R (.bool false) H:=λ{H} hn hs=>hR H false ⟨λh=>(by cases h),λh=>absurd h hn⟩ hs.tail.tail
 refine ⟨λ_ H'=>ok∈(d_ d.kd).tH/\AS.Sep H' Ls,?_,?_⟩
 ·refine ⟨_,Sep.aG hB rfl,_,Sep.bn hB rfl,an7 ⟨_,rfl,?_⟩⟩;refine aI (λzm=>⟨?_,trivial⟩) λzm=>⟨_,Sep.aG hB rfl,bl (by rcases k2 with e|e<;>rw [e]<;>rfl) ⟨⟨?_,hB⟩,trivial⟩⟩
  ·have zm:¬ok∈(d_ d.kd).tH:=by rw [Dd] at zm;exact fQ zm
   exact no (λp=>zm p.1) hB
  ·rw [SI] at zm;exact ga zm
 rintro aC8 i_ ⟨bB,vV⟩;have aDQ:=UM k bB;refine ⟨λvs H'=>vs=[.bool (decide (ok=2))]/\AS.Sep H' Ls,?_,?_⟩
 ·refine ⟨_,Sep.bn vV rfl,aI (λz=>⟨?_,vV⟩) λz=>?_⟩
  ·have z:ok=2:=by simpa using z
   rw [x8 z]
  ·have z:ok≠2:=by simpa using z
   refine ⟨_,Sep.bn vV rfl,bl (by rw [mc];omega) ⟨_,Sep.bn vV rfl,bl (by rw [mc];omega) ⟨by rw [Bc z],vV⟩⟩⟩
 rintro aC9 gV DJ ⟨UR,Ed⟩;have UR:=awj UR;obtain rfl:DJ=decide (ok=2):=by injection UR
 refine ⟨λ_ H'=>(ok=2->val.length=1)/\AS.Sep H' Ls,?_,?_⟩
 ·refine aI (λz=>⟨_,_,Sep.bn Ed rfl,_,Sep.aG Ed rfl,aI (λzl=>?_) λzl=>?_⟩) λz=>⟨λe=>absurd e (fQ z),Ed⟩
  ·have z:=ga z;refine no (λp=>?_) Ed
   have:=(p.2.1 z).1
   rw [tW,this] at zl;cases zl
  ·have zl:((vn:Nat):Int)=1:=by simpa using zl
   exact ⟨λ_=>by omega,Ed⟩
 rintro aC_ rV ⟨c3,Ee⟩;refine ⟨λ_ H'=>(ok=2->d.kd=10->val.getD 0 0=2∨val.getD 0 0=3)/\AS.Sep H' Ls,?_,?_⟩
 ·refine ⟨_,Sep.bn Ee rfl,aI (λz=>?_) λz=>⟨λe=>absurd e (by simpa using z),Ee⟩⟩;have z:ok=2:=by simpa using z
  have hv1:=c3 z;have⟨w,hw⟩:∃w,val=[w]:=by
   match val,hv1 with
   |[w],_=>exact ⟨w,rfl⟩
  have hgd:val.getD 0 0=w:=by rw [hw];rfl
  refine ⟨_,Sep.aG Ee rfl,?_⟩;apply alJ;rcases k.kd with ⟨e4,_⟩|⟨rf,aeY⟩
  ·exact bl (by rw [e4];rfl) ⟨_,rfl,bl (by rw [e4];rfl) ⟨λ_ e=>by omega,Ee⟩⟩
  ·have Wv:old H0∈Ls:=by simp [Ls,hm]
   have WC:¬(w=2∨w=3)->¬tz d ok flag val:=λh p=>by
    have:=(p.2.1 z).2 rf
    rw [hgd] at this;exact h this
   have bad:∀{H:aa},¬(w=2∨w=3)->AS.Sep H Ls->R (.bool false) H:=λh hs=>no (WC h) hs
   refine bl (by rw [rf];rfl) ⟨_,rfl,cm (by rw [rf];rfl) ⟨_,_,Sep.bn Ee rfl,⟨by decide,by omega⟩,?_⟩⟩;obtain ⟨iv,rfl,Kf⟩:=ra Ls Wv _ Ee 0 w (by rw [hw];rfl);refine bG ⟨_,Kf,?_⟩;have hC:=Ee.ae 39;have e2:((2:BitVec 64).toNat)=2:=rfl;have e3:((3:BitVec 64).toNat)=3:=rfl;have ne:∀{n:Nat}{x:BitVec 64},x.toNat=n->w.toNat≠n->w≠x:=λh1 h2 h3=>h2 (h3▸h1)
   refine aI (λz1=>⟨?_,trivial⟩) λz1=>?_
   ·have z1:(w.toNat:Int)<1:=ga z1;exact bad (λh=>h.elim (ne e2 (by omega)) (ne e3 (by omega))) hC
   have z1:¬(w.toNat:Int)<1:=fQ z1;refine af ⟨_,_,Sep.wq hC rfl,?_⟩;rw [show IntKind.u64.wrap ((3:Nat):Int)=3 from rfl];refine aI (λz3=>⟨?_,trivial⟩) λz3=>?_
   ·have z3:(w.toNat:Int)>3:=ga z3;exact bad (λh=>h.elim (ne e2 (by omega)) (ne e3 (by omega))) hC
   have z3:¬(w.toNat:Int)>3:=fQ z3;have i2:(rV.ae 39).aM m.y2 0 5=some [I 1,I 2,I 1,I 0,I 0]:=Sep.QP hC rfl;have p1:∃vM,(rV.ae 39).cell m.al (0+(IntKind.i64.wrap (d.jJ - 1)).toNat*1)=some (.pointer vM)/\vM=some ⟨m.y2,0,none⟩:=⟨_,by rw [aeY];exact Sep.Ck hC rfl,rfl⟩;have jJ:az (IntKind.i64.wrap (d.jJ - 1)) 3:=by rw [aeY];exact ⟨by decide,by decide⟩
   have w1:w.toNat=1∨w.toNat=2∨w.toNat=3:=by omega
   have last:∀(yy:Nat)(dc:Dc),(rV.ae 39).aM yy 0 5=some dc.cells->(G8 dc ⟨1,2,1,0,0⟩=true↔(w=2∨w=3))->AS.asAddr (P yy) λi74 i75=>
     ∃xH,∃ug,∃LR,∃rF,∃qG,(rV.ae 39).aM i74 i75 5=some [(.int .i64 xH),(.int .i64 ug),(.int .i64 LR),(.int .i64 rF),(.int .i64 qG)]/\
     AS.asAddr (P m.mx) λi81 i82=>∃qj i84,(rV.ae 39).cell i81 i82=some (.slice qj i84 0)/\∃oM,(rV.ae 39).cell i21 4=some (.int .i64 oM)/\az (IntKind.i64.wrap (oM - 1)) i84/\
     aV qj λi86 i87=>∃vM,(rV.ae 39).cell i86 (i87+((IntKind.i64.wrap (oM - 1)).toNat*1))=some (.pointer vM)/\AS.asAddr (.pointer vM) λi89 i90=>
     ∃xJ,∃uh,∃LS,∃ui,∃uj,(rV.ae 39).aM i89 i90 5=some [(.int .i64 xJ),(.int .i64 uh),(.int .i64 LS),(.int .i64 ui),(.int .i64 uj)]/\
     CA en F.Oy [(.agg #[(.int .i64 xH),(.int .i64 ug),(.int .i64 LR),(.int .i64 rF),(.int .i64 qG)]),(.agg #[(.int .i64 xJ),(.int .i64 uh),(.int .i64 LS),(.int .i64 ui),(.int .i64 uj)])] (rV.ae 39) λZU vH=>
     ∃BN,ZU=(.bool BN)/\(bif (!BN) then R (.bool false) vH else (ok=2->d.kd=10->val.getD 0 0=2∨val.getD 0 0=3)/\AS.Sep vH Ls)/\True:=by
    intro yy dc hdc xk;obtain ⟨vM,c88,rfl⟩:=p1;refine af ⟨_,_,_,_,_,hdc,af ⟨_,_,Sep.wq hC rfl,_,Sep.aG hC rfl,jJ,bG ⟨_,c88,af ⟨_,_,_,_,_,i2,?_⟩⟩⟩⟩;refine an6 (d:=dc) (e:=⟨1,2,1,0,0⟩) λvH fr=>⟨_,rfl,?_⟩
    have h97:=hC.iy fr;by_cases Qy:w=2∨w=3
    ·rw [xk.2 Qy];exact ⟨⟨λ_ _=>by rw [hgd];exact Qy,h97⟩,trivial⟩
    ·have:G8 dc ⟨1,2,1,0,0⟩=false:=by
      cases hl:G8 dc ⟨1,2,1,0,0⟩ with
      |false=>rfl
      |true=>exact absurd (xk.1 hl) Qy
     rw [this];exact ⟨bad Qy h97,trivial⟩
   refine af ⟨_,_,Sep.wq hC rfl,?_⟩;rcases w1 with w1|w1|w1
   ·rw [show IntKind.u64.wrap ((w.toNat:Int) - 1)=0 by rw [w1];rfl];refine ⟨⟨by decide,by decide⟩,bG ⟨_,Sep.Ck hC rfl,?_⟩⟩;refine last m.y ⟨d.kd,d.en,1,d.bk,d.jJ⟩ (Sep.yT hC rfl) ?_;constructor
    ·intro h;unfold G8 at h;rw [rf] at h;cases h
    ·intro h;exact absurd h (λh=>h.elim (ne e2 (by omega)) (ne e3 (by omega)))
   ·rw [show IntKind.u64.wrap ((w.toNat:Int) - 1)=1 by rw [w1];rfl];refine ⟨⟨by decide,by decide⟩,bG ⟨_,Sep.Ck hC rfl,?_⟩⟩;refine last m.y2 ⟨1,2,1,0,0⟩ (Sep.QP hC rfl) ⟨λ_=>.inl (tf (by rw [w1];rfl)),λ_=>rfl⟩
   ·rw [show IntKind.u64.wrap ((w.toNat:Int) - 1)=2 by rw [w1];rfl];refine ⟨⟨by decide,by decide⟩,bG ⟨_,Sep.Ck hC rfl,?_⟩⟩;refine last m.y3 ⟨1,2,1,0,0⟩ (Sep.ah6 hC rfl) ⟨λ_=>.inr (tf (by rw [w1];rfl)),λ_=>rfl⟩
 rintro aDa yc ⟨c4,Ea⟩;refine ⟨_,_,_,_,_,Sep.jK Ea rfl,_,_,_,_,_,_,Sep.wu Ea rfl,arA Ea (by omega) λBm b hb ar5=>⟨_,rfl,?_⟩⟩;refine hR Bm b ⟨λh=>⟨bB,λe=>⟨c3 e,c4 e⟩,hb.1 h⟩,λp=>hb.2 p.2.2⟩ ar5.tail.tail
end
section
variable {H H' H0:aa} {R:Value->aa->Prop} {L:List ax} {va:Option Addr} {vn:Nat} {ok flag bW:Int} {key:BitVec 64} {val:List (BitVec 64)} {d:Dk} {D D':Dm} {e:En} {m:My}
abbrev aod (R:Value->aa->Prop)(d:Dk)(D:Dm)(m:My)(kd:Int)(ky:BitVec 64)(fl:Int)(val:BitVec 64)(L:List ax):Prop:=
 ∀H' no rv rk el D' g,iQ d D kd ky fl val no rv rk el D'->D'.Ok d->(g=none->rv=[])->AS.Sep H' (gl 1 g (bS rv)::cZ m d D' L)->R (.agg #[I no,.slice (addr g) rv.length 0,W rk,I el]) H'
set_option maxHeartbeats 1000000 in
theorem We (k:d.Ok)(o:D.Ok d)(hv:D.vs.length<1000000000)(h:Sep H (cZ m d D L))(hm:old H0∈L)(ra:∀L,old H0∈L->lO L va val)(tW:vn=val.length)(xp:val.length<=8)
  (sw:tz d ok flag val->aod R d D m ok key flag (val.getD 0 0) L)
  (mq:¬tz d ok flag val->∀H',Sep H' (cZ m d D L)->R (.agg #[I 1,.slice none 0 0,W 0,I 0]) H') :
  CA en F.Jy [P m.mx,I 1,.agg #[I ok,W key,.slice va vn 0,I flag,I bW]] H R:=by
 have k2:=k.k2;apply aAd;refine Sep.nw h λi1 H2 h2=>Sep.nw h2 λi3 H4 h4=>⟨_,_,_,_,_,_,Sep.wu h4 rfl,?_⟩
 have h5:Sep H4 (cZ m d D (bx i3 (.cells true 0 [I 0,.slice none 0 0,W 0,I 0])::bx i1 (.cells true 0 [I ok,W key,.slice va vn 0,I flag,I bW])::L)):=Sep.pick h4 10 [2,3,4,5,6,7,8,9,0,1];refine atQ k h5 (by simp [hm]) ra tW xp λbO b hb fA=>⟨_,rfl,?_⟩
 cases b with
 |false=>
  have hn:¬tz d ok flag val:=λp=>by have:=hb.2 p;cases this
  refine cm rfl ?_;have gP:=Sep.pick fA 10 [8,0,1,2,3,4,5,6,7,9];refine Sep.dp gP (aS rfl) λbt ig=>⟨_,_,_,_,_,Sep.jK ig rfl,?_⟩
  exact mq hn bt (Sep.pick ig 10 [1,2,3,4,5,6,7,8])
 |true=>
  have p:=hb.1 rfl;have bB:=UM k p.1;refine bl rfl ?_;have go:CA en F.OD [P m.y,.agg #[I ok,W key,.slice va vn 0,I flag,I bW]] bO λFk i_=>∃mv jn i40 kV kW,Fk=.agg #[I mv,.slice jn i40 0,.int .u64 kV,I kW]/\aq i_ i3 0 [I mv,.slice jn i40 0,.int .u64 kV,I kW] λmX=>∃my oH i46 gR jW,mX.aM i3 0 4=some [I my,.slice oH i46 0,.int .u64 gR,I jW]/\R (.agg #[I my,.slice oH i46 0,.int .u64 gR,I jW]) mX:=by
   refine asz (H0:=H0) (val:=val.getD 0 0) k2 k.en.2 (by have:=k.bk;omega) o hv (λrf e he=>?_) fA (λe2=>?_) (by simp [hm]) λi_ no rv rk el D' g hd cF hg vV=>⟨_,_,_,_,_,rfl,?_⟩
   ·rcases o.el e he with h|h
    ·omega
    ·exact h.2
   ·have⟨hl1,_⟩:=p.2.1 e2;have⟨w,hw⟩:∃w,val=[w]:=by
     match val,hl1 with
     |[w],_=>exact ⟨w,rfl⟩
    subst hw;exact ⟨tW,ra⟩
   ·
    have yD:=Sep.pick vV 11 [9,0,1,2,3,4,5,6,7,8];refine Sep.dp yD (aS rfl) λmX vW=>⟨_,_,_,_,_,Sep.jK vW rfl,?_⟩
    exact sw p mX no rv rk el D' g hd cF hg (Sep.uu vW)
  have aDn:Sep bO (cZ m d D (bx i3 (.cells true 0 [I 0,.slice none 0 0,W 0,I 0])::bx i1 (.cells true 0 [I ok,W key,.slice va vn 0,I flag,I bW])::L)):=fA;refine af ⟨_,_,Sep.lD fA rfl,⟨by decide,by decide⟩,bG ⟨_,Sep.iL fA rfl,af ⟨_,Sep.aG fA rfl,?_⟩⟩⟩;have kn:∀n:Int,n≠4->n≠10->(d.kd==n)=false:=λn h1 h2=>by rw [mc];omega
  refine bl (kn 1 (by decide) (by decide)) (bl (kn 2 (by decide) (by decide)) (bl (kn 3 (by decide) (by decide)) (bl (kn 9 (by decide) (by decide)) (bl (kn 6 (by decide) (by decide)) (bl (kn 7 (by decide) (by decide)) (bl (kn 8 (by decide) (by decide)) ?_))))));exact ⟨_,_,_,_,_,_,Sep.ah6 fA rfl,go⟩
theorem agH {i:Nat}{w:BitVec 64}(o:D.Ok d)(h:Sep H (cZ m d D L))(hi:D.vs[i]? =some w)(hR:R (.tuple #[W w,.bool true]) H):CA en F.OH [P m.mx,I 1,I ((i+1:Nat):Int)] H R:=by
 have aE:=(bJ.1 hi).1;have wc:=o.lv;have⟨b,hb⟩:∃b,D.eb=some b:=by
  cases hb:D.eb with
  |none=>have:=o.n2 hb;rw [this] at aE;simp at aE
  |some b=>exact ⟨b,rfl⟩
 apply aAe;have ew:IntKind.i64.wrap (((i+1:Nat):Int) - 1)=(i:Int):=by rw [wrap_i64 (by omega)];omega
 have hg:Sep H (xE D::_):=Sep.k_ h;unfold xE at hg;rw [hb] at hg;have hg:=dN.1 hg;refine bl rfl (af ⟨_,_,Sep.lD h rfl,bl rfl (bl (by rw [jF];omega) (af ⟨_,_,Sep.lD h rfl,⟨by decide,by decide⟩,bG ⟨_,Sep.iL h rfl,af ⟨_,_,Sep.aG h rfl,bl (by rw [jF];omega) (af ⟨_,_,Sep.lD h rfl,⟨by decide,by decide⟩,bG ⟨_,Sep.iL h rfl,af ⟨_,_,Sep.aG h rfl,?_⟩⟩⟩)⟩⟩⟩))⟩);rw [ew,hb];exact ⟨by unfold az;omega,bG ⟨w.toNat,Sep.aG hg (by rw [dr,cG,ou,jg,hi];rfl),hR⟩⟩
theorem at0 {i:Nat}{w:BitVec 64}(o:D.Ok d)(h:Sep H (cZ m d D L))(hi:i<D.vs.length)(hR:∀H',Sep H' (cZ m d {D with vs:=D.vs.set i w} L)->R (.bool true) H'):CA en F.Uw [P m.mx,I 1,I ((i+1:Nat):Int),W w] H R:=by
 have wc:=o.lv;have⟨x,hx⟩:∃x,D.vs[i]? =some x:=⟨_,cM hi⟩;have⟨b,hb⟩:∃b,D.eb=some b:=by
  cases hb:D.eb with
  |none=>have:=o.n2 hb;rw [this] at hi;simp at hi
  |some b=>exact ⟨b,rfl⟩
 apply aAf;have ew:IntKind.i64.wrap (((i+1:Nat):Int) - 1)=(i:Int):=by rw [wrap_i64 (by omega)];omega
 have hg:Sep H (xE D::yE m.y d D::lE D::vE D::_):=Sep.k_ h;unfold xE at hg;rw [hb] at hg;have hg:=dN.1 hg;refine agH o h hx ⟨_,_,rfl,cm rfl (af ⟨_,_,Sep.lD h rfl,⟨by decide,by decide⟩,bG ⟨_,Sep.iL h rfl,af ⟨_,_,Sep.aG h rfl,?_⟩⟩⟩)⟩;rw [ew,hb];refine ⟨by unfold az;omega,bG (Sep.dp hg (by rw [dr,gb];simp only [gU,nM];omega) λgv pJ=>hR gv ?_)⟩;rw [dr,cG,ou,Mo] at pJ;have gy:Sep gv (gl 1 (some b) ((D.vs.set i w).map W)::yE m.y d D::lE D::vE D::_):=dN.2 pJ;rw [<-hb] at gy;have fV:=Sep.pick gy 4 [1,2,3,0];show Sep gv (bx m.y (.cells true 0 [I d.kd,I d.en,I 1,I d.bk,I d.jJ,.slice (addr D.lb) D.es.length 0,.slice (addr D.eb) (D.vs.set i w).length 0])::_);rw [gT];exact fV
end
section
variable {H H' H0:aa} {R:Value->aa->Prop} {L:List ax} {B:ax} {va:Option Addr} {vn:Nat} {ok flag bW:Int} {key:BitVec 64} {val:List (BitVec 64)} {d:Dk} {D D':Dm} {e:En} {m:My}
abbrev Dk.dc (d:Dk):Dc:=⟨d.kd,d.en,1,d.bk,d.jJ⟩
abbrev G2:Dc:=⟨1,2,1,0,0⟩
abbrev BP (d:Dk):List Dc:=[d.dc,G2,G2]
abbrev D0:Dm:=⟨[],[],none,none⟩
theorem aeK:D0.Ok d:=⟨λ_=>rfl,λ_=>rfl,by decide,by decide,λe he=>by cases he⟩
theorem Hs {x:Value}{n:Int}(h:[x]=[I n]):x=I n:=by simpa using h
theorem att (k2:d.kd=4∨d.kd=10)(h:Sep H L)(hR:∀H' y,Sep H' (yE y d D0::L)->R (P y) H'):CA en F.OJ [d.dc.val,I 1] H R:=by
 apply alL;have kn:∀n:Int,n≠4->n≠10->(d.kd==n)=false:=λn h1 h2=>by rw [mc];omega
 refine Sep.nw h λi1 H2 h2=>⟨_,_,_,_,_,Sep.jK h2 rfl,Sep.nw h2 λi8 H9 h9=>?_⟩
 let Ls:List ax:=bx i8 (.cells true 0 [I d.kd,I d.en,I 1,I d.bk,I d.jJ,.slice none 0 0,.slice none 0 0])::bx i1 (.cells true 0 d.dc.cells)::L
 have h9:AS.Sep H9 Ls:=h9;refine ⟨λvs H'=>vs=[I 0]/\AS.Sep H' Ls,?_,?_⟩
 ·refine ⟨_,Sep.bn h9 rfl,alK _ _ _ ?_⟩;exact bl (kn 1 (by decide) (by decide)) (bl (kn 2 (by decide) (by decide)) ⟨_,rfl,bl (kn 3 (by decide) (by decide)) ⟨_,Sep.bn h9 rfl,bl (kn 9 (by decide) (by decide)) ⟨rfl,h9⟩⟩⟩)
 rintro wJ bf cU ⟨DW,gy⟩;have DW:=Hs DW;obtain rfl:cU=0:=by injection DW
 refine ⟨λvs H'=>vs=[I 0]/\AS.Sep H' Ls,⟨_,Sep.bn gy rfl,bl (kn 2 (by decide) (by decide)) ⟨rfl,gy⟩⟩,?_⟩;rintro C6 bM cc ⟨DX,kA⟩;have DX:=Hs DX;obtain rfl:cc=0:=by injection DX
 refine ⟨λvs H'=>vs=[I 0]/\AS.Sep H' Ls,⟨_,Sep.bn kA rfl,bl (kn 8 (by decide) (by decide)) ⟨rfl,kA⟩⟩,?_⟩;rintro Fu gI fY ⟨DY,nV⟩;have DY:=Hs DY;obtain rfl:fY=0:=by injection DY
 refine aly (λk' t7 H'=>t7=0/\AS.Sep H' Ls) 0 ⟨rfl,nV⟩ ?_;rintro k' t7 ys H3 ⟨rfl,h3⟩;exact bl rfl (hR H3 i8 (Sep.pick h3 2 [0]))
theorem ahh (h:Sep H L)(hR:∀H' y s1 n1 s2 n2,Sep H' (rE y s1 n1 s2 n2::L)->R (P y) H'):CA en F.OJ [G2.val,I 1] H R:=by
 apply alL;refine Sep.nw h λi1 H2 h2=>⟨_,_,_,_,_,Sep.jK h2 rfl,Sep.nw h2 λi8 H9 h9=>?_⟩
 let Ls:List ax:=bx i8 (.cells true 0 [I 1,I 2,I 1,I 0,I 0,.slice none 0 0,.slice none 0 0])::bx i1 (.cells true 0 G2.cells)::L
 have h9:AS.Sep H9 Ls:=h9;refine ⟨λvs H'=>vs=[I 2]/\AS.Sep H' Ls,?_,?_⟩
 ·refine ⟨_,Sep.bn h9 rfl,alK _ _ _ ?_⟩;exact cm rfl ⟨_,rfl,cm rfl ⟨_,Sep.bn h9 rfl,rfl,h9⟩⟩
 rintro wJ bf cU ⟨DW,gy⟩;have DW:=Hs DW;obtain rfl:cU=2:=by injection DW
 refine ⟨λvs H'=>vs=[I 2]/\AS.Sep H' Ls,⟨_,Sep.bn gy rfl,bl rfl ⟨rfl,gy⟩⟩,?_⟩;rintro C6 bM cc ⟨DX,kA⟩;have DX:=Hs DX;obtain rfl:cc=2:=by injection DX
 refine ⟨λvs H'=>vs=[I 2]/\AS.Sep H' Ls,⟨_,Sep.bn kA rfl,bl rfl ⟨rfl,kA⟩⟩,?_⟩;rintro Fu gI fY ⟨DY,nV⟩;have DY:=Hs DY;obtain rfl:fY=2:=by injection DY
 have h0:AS.Sep gI (bx i8 (.cells true 0 [I 1,I 2,I 1,I 0,I 0,.slice (addr none) 0 0,.slice (addr none) 0 0])::bx i1 (.cells true 0 G2.cells)::gl 3 none []::gl 1 none []::L):=by
  have h1:=kx (es:=3) (cs:=[]) |>.2 (kx (es:=1) (cs:=[]) |>.2 nV)
  exact Sep.pick h1 4 [2,3,0,1]
 refine aly (λk' t7 H'=>∃(j:Nat)(lb eb:Option Nat)(cs vs:List Value),j<=2/\k'=2 - j/\t7=(j:Int)/\cs.length=j*3/\vs.length=j*1/\(lb=none->cs=[])/\(eb=none->vs=[])/\
  AS.Sep H' (bx i8 (.cells true 0 [I 1,I 2,I 1,I 0,I 0,.slice (addr lb) j 0,.slice (addr eb) j 0])::bx i1 (.cells true 0 G2.cells)::gl 3 lb cs::gl 1 eb vs::L)) 2 ⟨0,none,none,[],[],by decide,rfl,rfl,rfl,rfl,λ_=>rfl,λ_=>rfl,h0⟩ ?_
 clear h0 nV kA gy h9;rintro k' t7 ys H3 ⟨j,lb,eb,cs,vs,hj,rfl,rfl,P5,EH,hlb,heb,h3⟩;refine aI (λaE=>?_) λaE=>?_
 ·have aE:j<2:=by simp only [gf] at aE;omega
  refine ⟨_,Sep.bn h3 rfl,⟨by decide,by decide,by decide⟩,?_⟩;have ew:IntKind.i64.wrap ((j:Int)+1)=((j+1:Nat):Int):=by rw [wrap_i64 (by omega)];omega
  refine Sep.nw h3 λi2 H4 h4=>Sep.nw h4 λi4 H5 h5=>Sep.dp h5 (aS rfl) λH6 h6=>⟨_,Sep.iV h6 rfl,cm rfl ?_⟩
  refine Sep.dp h6 (aS rfl) λH8 h8=>⟨_,_,Sep.eK h8 rfl,Sep.nw h8 λi11 bO fA=>⟨[W 0],oO (es:=1) (Sep.gL fA) (by decide) rfl,?_⟩⟩
  refine qo (b:=eb) (len:=j) (n:=1) (es:=1) (cs:=vs) (new:=[W 0]) (Sep.Fh fA) heb (by decide) EH (by decide) rfl (by omega) λgC e' iJ=>?_
  refine Sep.y_ iJ (aS rfl) λaQ g_=>?_
  have hB:=g_.ae 11;refine ⟨_,_,Sep.lD hB rfl,_,_,_,_,Sep.yT hB rfl,Sep.nw hB λi24 cR ij=>⟨_,oO (es:=3) (Sep.gL ij) (by decide) rfl,?_⟩⟩;refine qo (b:=lb) (len:=j) (n:=1) (es:=3) (cs:=cs) (Sep.ZE ij) hlb (by decide) P5 (by decide) rfl (by omega) λfq q' rm=>?_
  refine Sep.HS rm (aS rfl) λgI nV=>⟨⟨2 - (j+1),by omega,j+1,some q',some e',_,_,by omega,rfl,ew,?_,?_,(λe=>by cases e),(λe=>by cases e),Sep.pick nV 8 [6,7,0,2]⟩,⟨⟨_,_,Sep.lD hB rfl,rfl,rfl,rfl⟩,⟨_,_,Sep.iL ij rfl,rfl,rfl,rfl⟩,trivial⟩,trivial⟩
  ·rw [e_,P5,mB];rfl
  ·rw [e_,EH,mB];rfl
 ·exact hR H3 i8 _ _ _ _ (Sep.pick h3 4 [0])
theorem akJ {li:Nat}{l:List Dc}(h:Sep H L)(hm:bx li (.cells true 5 (flat l))∈L):Rows H (some ⟨li,0,none⟩) l.length l:=by
 refine ⟨rfl,.inr ⟨li,true,5,rfl,?_,h.all _ hm⟩⟩;refine h.lt li ?_;unfold ly;exact zk.2 ⟨_,hm,by simp [bx]⟩
theorem aqE (k:d.Ok)(hb:pow d.bk):vR (BP d)=0:=by
 have k1:=k.en;have e1:¬(d.en<1):=by omega
 have e2:¬(d.en>64):=by omega
 rcases k.kd with ⟨e3,e4⟩|⟨e3,e4⟩<;>simp [vR,yx,pE,lV,d_,e1,e2,e3,e4,hb]
inductive Bt (d:Dk):Nat->List Nat->List ax->Prop where
 |z:Bt d 0 [] []
 |a {y:Nat}:Bt d 1 [y] [yE y d D0]
 |b {y y2:Nat}{s1 s2:Option Addr}{n1 n2:Nat}:Bt d 2 [y,y2] [rE y2 s1 n1 s2 n2,yE y d D0]
 |c {y y2 y3:Nat}{s1 s2 t1 t2:Option Addr}{n1 n2 m1 m2:Nat}:Bt d 3 [y,y2,y3] [rE y3 t1 m1 t2 m2,rE y2 s1 n1 s2 n2,yE y d D0]
set_option maxHeartbeats 1000000 in
theorem agM {li:Nat}(k:d.Ok)(hb:pow d.bk)(h:Sep H L)(hm:bx li (.cells true 5 (flat (BP d)))∈L)
  (hR:∀H' m,Sep H' (cZ m d D0 L)->R (.tuple #[P m.mx,I 0]) H') :
  CA en F.OI [.slice (some ⟨li,0,none⟩) 3 0,I 1] H R:=by
 apply aAh;refine an5 (l:=BP d) (akJ h hm) λH2 fr=>⟨_,rfl,?_⟩
 rw [aqE k hb];have h2:=h.iy fr;refine bl rfl (bl rfl (bl rfl (Sep.nw h2 λi4 H5 h5=>?_)));have h0:AS.Sep H5 (bx i4 (.cells true 0 [.slice (addr none) 0 0,I 1])::gl 1 none (([]:List Nat).map λy=>P y)::many []::L):=by
  have h1:=kx (es:=1) (cs:=([]:List Nat).map λy=>P y) |>.2 (Sep.vh h5)
  exact Sep.pick h1 3 [2,0,1]
 refine ayz (λk' t8 H'=>∃(j:Nat)(g:Option Nat)(ys:List Nat)(Bs:List ax),j<=3/\k'=3 - j/\t8=(j:Int)/\ys.length=j/\(g=none->ys=[])/\Bt d j ys Bs/\AS.Sep H' (bx i4 (.cells true 0 [.slice (addr g) j 0,I 1])::gl 1 g (ys.map λy=>P y)::many Bs::L)) 3 ⟨0,none,[],[],by decide,rfl,rfl,rfl,λ_=>rfl,.z,h0⟩ ?_;clear h0 h5 h2 h;rintro k' t8 ys' H3 ⟨j,g,ys,Bs,hj,rfl,rfl,hys,hg,P3,h3⟩;refine aI (λaE=>?_) λaE=>?_
 ·have aE:j<3:=by simp only [gf] at aE;omega
  have hB:=h3.ae 16;have⟨_,e0,_,e1⟩:=Yo (akJ hB (jh _ (jh _ (jh _ hm)))) (j:=j) aE;cases e0;have ew:IntKind.i64.wrap ((j:Int)+1)=((j+1:Nat):Int):=by rw [wrap_i64 (by omega)];omega
  refine ⟨_,_,Sep.aG hB rfl,⟨by omega,by omega⟩,bG ⟨_,_,_,_,_,by rw [dr];exact e1,?_⟩⟩;have fin:∀(cj:aa)(y:Nat)(B:ax),Bt d (j+1) (ys++[y]) (B::Bs)->AS.Sep cj (B::bx i4 (.cells true 0 [.slice (addr g) j 0,I 1])::gl 1 g (ys.map λy=>P y)::many Bs::L)->∃bY,P y=.pointer bY/\aC cj (.cells true 1 [.pointer bY]) λi13 bt=>∃Cj,rowOf bt 1 (some ⟨i13,0,none⟩) 1=some Cj/\iT bt 8 1 (addr g) j 1 Cj λjR i17 gv=>aq gv i4 0 [.slice jR i17 0] λbf=>(∃KP,KP<3 - j/\∃(j':Nat)(g:Option Nat)(ys:List Nat)(Bs:List ax),j'<=3/\KP=3 - j'/\IntKind.i64.wrap ((j:Int)+1)=(j':Int)/\ys.length=j'/\(g=none->ys=[])/\Bt d j' ys Bs/\
   AS.Sep bf (bx i4 (.cells true 0 [.slice (addr g) j' 0,I 1])::gl 1 g (ys.map λy=>P y)::many Bs::L))/\((∃oG i25,(H3.ae 16).cell i4 0=some (.slice oG i25 0)/\(addr g=oG/\j=i25/\0=0))/\(∃fS i23,cj.cell i4 0=some (.slice fS i23 0)/\(addr g=fS/\j=i23/\0=0))/\(∃qh i21,bt.cell i4 0=some (.slice qh i21 0)/\(addr g=qh/\j=i21/\0=0))/\True)/\True:=λcj y B asD jo=>by
   refine ⟨_,rfl,Sep.nw jo λi13 bt ig=>⟨[P y],oO (es:=1) (Sep.gL ig) (by decide) rfl,?_⟩⟩;refine qo (b:=g) (len:=j) (n:=1) (es:=1) (cs:=ys.map λy=>P y) (new:=[P y]) (Sep.k_ ig) (λe=>by rw [hg e];rfl) (by decide) (by simp [hys]) (by decide) rfl (by omega) λgv q' pJ=>?_
   refine Sep.HR pJ (aS rfl) λbf gy=>⟨⟨3 - (j+1),by omega,j+1,some q',ys++[y],B::Bs,by omega,rfl,ew,by simp [hys],(λe=>by cases e),asD,?_⟩,⟨⟨_,_,Sep.aG hB rfl,rfl,rfl,rfl⟩,⟨_,_,Sep.bn jo rfl,rfl,rfl,rfl⟩,⟨_,_,Sep.eK ig rfl,rfl,rfl,rfl⟩,trivial⟩,trivial⟩
   rw [fh];have fV:=Sep.pick gy 5 [2,4,3,0];have mJ:=Sep.fX.1 (Sep.iE fV);have j_:AS.Sep bf ((B::Bs)++(bx i4 (.cells true 0 [.slice (addr (some q')) (j+1) 0,I 1])::gl 1 (some q') (ys.map (λy=>P y)++[P y])::L)):=by
    refine mJ.perm ?_;rw [rR];exact pf
   exact Sep.pick (Sep.fX.2 j_) 3 [1,2,0]
  cases P3 with
  |z=>exact att (d:=d) k.k2 hB λcj y jo=>fin cj y _ .a jo
  |a=>exact ahh hB λcj y s1 n1 s2 n2 jo=>fin cj y _ .b jo
  |b=>exact ahh hB λcj y s1 n1 s2 n2 jo=>fin cj y _ .c jo
  |c=>omega
 ·have Wm:j=3:=by simp only [jF] at aE;omega
  subst Wm;cases P3 with
  |@c y y2 y3 s1 s2 t1 t2 n1 n2 m1 m2=>
   obtain ⟨al,rfl⟩:∃v,g=some v:=by
    cases g with
    |none=>cases hg rfl
    |some v=>exact ⟨v,rfl⟩
   refine hR H3 ⟨i4,al,y,y2,y3,s1,n1,s2,n2,t1,m1,t2,m2⟩ ?_;have h4:AS.Sep H3 (gl 1 (some al) [P y,P y2,P y3]::bx i4 (.cells true 0 [.slice (some ⟨al,0,none⟩) 3 0,I 1])::many [rE y3 t1 m1 t2 m2,rE y2 s1 n1 s2 n2,yE y d D0]::L):=Sep.iE h3;have h5:=Sep.fX.1 (Sep.qM (dN.1 h4));have h6:AS.Sep H3 (rE y3 t1 m1 t2 m2::rE y2 s1 n1 s2 n2::yE y d D0::bx al (.cells true 1 [P y,P y2,P y3])::bx i4 (.cells true 0 [.slice (some ⟨al,0,none⟩) 3 0,I 1])::L):=h5;have h7:AS.Sep H3 (lE D0::vE D0::xE D0::rE y3 t1 m1 t2 m2::rE y2 s1 n1 s2 n2::yE y d D0::bx al (.cells true 1 [P y,P y2,P y3])::bx i4 (.cells true 0 [.slice (some ⟨al,0,none⟩) 3 0,I 1])::L):=kx.2 (Sep.vh (kx.2 h6));exact Sep.pick h7 8 [5,0,1,2,7,6,4,3]
theorem atP {li:Nat}(k:d.Ok)(hb:pow d.bk)(h:Sep H L)(hm:bx li (.cells true 5 (flat (BP d)))∈L)(ho:old H0∈L)(ra:∀L,old H0∈L->lO L va val)(tW:vn=val.length)(xp:val.length<=8)
  (sw:tz d ok flag val->∀H',Sep H' L->R (.bool true) H')(mq:¬tz d ok flag val->∀H',Sep H' L->R (.bool false) H') :
  CA en F.UC [.slice (some ⟨li,0,none⟩) 3 0,I 1,.agg #[I ok,W key,.slice va vn 0,I flag,I bW]] H R:=by
 apply aAn;refine Sep.nw h λi1 H2 h2=>agM k hb h2 (jh _ hm) λH4 m h4=>⟨_,_,rfl,cm rfl ⟨_,_,_,_,_,_,Sep.QP h4 rfl,?_⟩⟩
 refine We (H0:=H0) (m:=m) (d:=d) (D:=D0) k aeK (by decide) h4 (by simp [ho]) ra tW xp (λp bt no rv rk el D' g hd _ _ ig=>⟨_,_,_,_,_,rfl,?_⟩) λp bt ig=>⟨_,_,_,_,_,rfl,?_⟩
 ·have aW:no≠1:=by cases hd<;>decide
  rw [show (no !=1)=true from by rw [zi];exact aW];exact sw p bt (Sep.pick ig 10 [])
 ·exact mq p bt (Sep.pick ig 9 [])
end
section
variable (H:aa)(R:VH)
set_option maxRecDepth 100000
set_option maxHeartbeats 2000000
theorem aAp (x0:Bool)(x1 x2:Int) :
  (aC H (.cells true 0 [(iI 0),(iI 0),(iI 0),(iI 0),(iI 0)]) λi1 H2=>aq H2 i1 0 [(iI 4),(iI x1),(iI 1),(iI x2),(iI 0)] λH3=>bif x0 then (aq H3 i1 0 [(iI 10)] λH4=>aq H4 i1 4 [(iI 2)] λH5=>aC H5 (.cells true 0 [(iI 0),(iI 0),(iI 0),(iI 0),(iI 0)]) λi6 H7=>aq H7 i6 0 [(iI 1),(iI 2),(iI 1),(iI 0),(iI 0)] λH8=>∃n9 fC bI bH gQ,H8.aM i1 0 5=some [(iI n9),(iI fC),(iI bI),(iI bH),(iI gQ)]/\∃cO bC dy dQ aY,H8.aM i6 0 5=some [(iI cO),(iI bC),(iI dy),(iI dQ),(iI aY)]/\∃fi cU bX jT lF,H8.aM i6 0 5=some [(iI fi),(iI cU),(iI bX),(iI jT),(iI lF)]/\aC H8 (.cells true 5 [(iI n9),(iI fC),(iI bI),(iI bH),(iI gQ),(iI cO),(iI bC),(iI dy),(iI dQ),(iI aY),(iI fi),(iI cU),(iI bX),(iI jT),(iI lF)]) λi24 cR=>R (sl (ad i24) 3) cR) else (aC H3 (.cells true 0 [(iI 0),(iI 0),(iI 0),(iI 0),(iI 0)]) λi26 fw=>aq fw i26 0 [(iI 1),(iI 2),(iI 1),(iI 0),(iI 0)] λbN=>∃gm jf fY fZ jq,bN.aM i1 0 5=some [(iI gm),(iI jf),(iI fY),(iI fZ),(iI jq)]/\∃gn qF nC iz mv,bN.aM i26 0 5=some [(iI gn),(iI qF),(iI nC),(iI iz),(iI mv)]/\∃jV fD kV kW mw,bN.aM i26 0 5=some [(iI jV),(iI fD),(iI kV),(iI kW),(iI mw)]/\aC bN (.cells true 5 [(iI gm),(iI jf),(iI fY),(iI fZ),(iI jq),(iI gn),(iI qF),(iI nC),(iI iz),(iI mv),(iI jV),(iI fD),(iI kV),(iI kW),(iI mw)]) λi44 dw=>R (sl (ad i44) 3) dw))->
  CA en F.UE [(bb x0),(iI x1),(iI x2)] H R:=vk (by kernel_rfl)
noncomputable def TJ:Code:=kE Go.Proofs.Tryz.f138 0
noncomputable def TK:Code:=kE Go.Proofs.Tryz.f138 1
theorem aAq (x0:Oa)(x1:Int) :
  (LA en TJ [(pt x0),(iI x1),ud,ud,s0,s0,(iI 0),ud,ud,ud,ud,ud,ud,ud,ud,ud,ud,ud,ud,ud,ud,ud,ud,ud,ud,ud,ud,ud,ud,ud,ud,ud,ud,ud,ud,ud,ud,ud,ud,ud,ud,ud,ud,ud,ud,ud,ud,ud,ud,ud,ud,ud,ud,ud,ud,ud,ud,ud,ud,ud,ud,ud,ud,ud,ud,ud,ud] H [(X.exit 0,λ(y1:Fr)(H2:aa)=>q7 (y1.getD 5 undef) λa3 i4=>R (sl a3 i4) H2)])->
  CA en F.UF [(pt x0),(iI x1)] H R:=vz [[(5,s0)],[(8,(iI 0))]] (by kernel_rfl)
theorem ayE {t0:Oa}{t1:Int}{K0:FH}{t5:Oa}{iX:Nat}{t6:Int}{t7 t8 t9 t10 t11 t12 t13 t14 t15 t16 t17 t18 t19 t20 t21 t22 t23 t24 t25 t26 t27 t28 t29 t30 t31 t32 t33 t34 t35 t36 t37 t38 t39 t40 t41 t42 t43 t44 t45 t46 t47 t48 t49 t50 t51 t52 t53 t54 t55 t56 t57 t58 t59 t60 t61 t62 t63 t64 t65:Value}{H:aa}(I:Nat->Oa->Nat->Int->aa->Prop)(n:Nat)(h0:I n t5 iX t6 H)
  (cY:∀(n:Nat)(t5:Oa)(iX:Nat)(t6:Int)(ys:Fr)(H:aa),I n t5 iX t6 H->
  (aA t0 λi1 i2=>∃a3 i4,H.cell i1 (i2+5)=some (sl a3 i4)/\bif (decide (t6<(i4:Int))) then (aA t0 λi5 i6=>∃a7 i8,H.cell i5 (i6+5)=some (sl a7 i8)/\az t6 i8/\aV a7 λi9 i10=>∃bI,H.cell i9 (i10+(t6.toNat*3))=some (iU bI)/\aA t0 λi12 i13=>∃cO,H.cell i12 (i13+3)=some (iI cO)/\CA en F.BO [(iU bI),(iI cO)] H λZK gC=>∃dQ,ZK=(iI dQ)/\bif (dQ !=t1) then (∃k18,k18<n/\I k18 t5 iX (IntKind.i64.wrap (t6+1)) gC) else (aC gC (.cells true 1 [(iU bI)]) λi19 bu=>∃l21,rowOf bu 1 (ad i19) 1=some l21/\iT bu 8 1 t5 iX 1 l21 λfS i23 bM=>LA en TK [(pt t0),(iI t1),ud,ud,s0,(sl fS i23),(iI t6),(iU bI),(iI (iX:Int)),(iI t6),(pt t0),(pA i1 i2),(pA i1 (i2+5)),(sl a3 i4),(iI (i4:Int)),(bb true),(gd ys 16),(gd ys 17),(pt t0),(pA i5 i6),(pA i5 (i6+5)),(sl a7 i8),(iI t6),(pA i9 (i10+(t6.toNat*3))),(pA i9 (i10+(t6.toNat*3))),(iU bI),(iU bI),(pt t0),(pA i12 i13),(pA i12 i13),(pA i12 (i13+3)),(iI cO),(iI dQ),(iI t1),(bb false),(sl t5 iX),(iI (iX:Int)),(sl t5 iX),(iU bI),(sl (ad i19) 1),(sl fS i23),(gd ys 41),(gd ys 42),(gd ys 43),(gd ys 44),(gd ys 45),(gd ys 46),(gd ys 47),(gd ys 48),(gd ys 49),(gd ys 50),(gd ys 51),(gd ys 52),(gd ys 53),(gd ys 54),(gd ys 55),(gd ys 56),(gd ys 57),(gd ys 58),(gd ys 59),(gd ys 60),(gd ys 61),(gd ys 62),(gd ys 63),(gd ys 64),(gd ys 65),ud] bM [(X.exit 2,λ(y25:Fr)(eC:aa)=>AS.asInt .i64 (y25.getD 8 undef) λjL=>az jL i23/\aV fS λi28 i29=>aq eC i28 (i29+(jL.toNat*1)) [(iU bI)] λgI=>∃KQ,KQ<n/\I KQ fS i23 (IntKind.i64.wrap (t6+1)) gI)])) else (K0 ([(pt t0),(iI t1),ud,ud,s0,(sl t5 iX),(iI t6),(gd ys 7),(gd ys 8),(iI t6),(pt t0),(pA i1 i2),(pA i1 (i2+5)),(sl a3 i4),(iI (i4:Int)),(bb false)]++gs ys 16 50++[ud]) H))) :
  LA en TJ [(pt t0),(iI t1),ud,ud,s0,(sl t5 iX),(iI t6),t7,t8,t9,t10,t11,t12,t13,t14,t15,t16,t17,t18,t19,t20,t21,t22,t23,t24,t25,t26,t27,t28,t29,t30,t31,t32,t33,t34,t35,t36,t37,t38,t39,t40,t41,t42,t43,t44,t45,t46,t47,t48,t49,t50,t51,t52,t53,t54,t55,t56,t57,t58,t59,t60,t61,t62,t63,t64,t65,ud] H [(X.exit 0,K0)]:=by
 refine ko (Z:=[[(8,(iI 0))]]) (λm xs H'=>q7 (xs.getD 5 undef) λt5 iX=>AS.asInt .i64 (xs.getD 6 undef) λt6=>I m t5 iX t6 H') ?_ n H ?_
 ·intro n H
  suffices hs:∀s9 dR dz c6 c7 c8 dA c_ dB db dC dS dT dD dE s7 eS eT fF fG eU fH fI eW eY eZ fJ s8 fK fL fM fN s5 fO iB iC ju jv jw jx jy jz jA jB oQ oR oS oT oU oV sP sQ sR sS xR xS sT sU c9 cH s6:Value,((q7 s5 λt5 iX=>AS.asInt .i64 s6 λt6=>I n t5 iX t6 H)->gr en TJ [[(8,(iI 0))]] [(pt t0),(iI t1),ud,ud,s0,s5,s6,s7,s8,s9,dR,dz,c6,c7,c8,dA,c9,cH,c_,dB,db,dC,dS,dT,dD,dE,eS,eT,fF,fG,eU,fH,fI,eW,eY,eZ,fJ,fK,fL,fM,fN,fO,iB,iC,ju,jv,jw,jx,jy,jz,jA,jB,oQ,oR,oS,oT,oU,oV,sP,sQ,sR,sS,xR,xS,sT,sU,ud] H (kh (λm xs H'=>q7 (xs.getD 5 undef) λt5 iX=>AS.asInt .i64 (xs.getD 6 undef) λt6=>I m t5 iX t6 H') n [(X.exit 0,K0)])) by
   apply bL hs
   kernel_rfl
  intro s9 dR dz c6 c7 c8 dA c_ dB db dC dS dT dD dE s7 eS eT fF fG eU fH fI eW eY eZ fJ s8 fK fL fM fN s5 fO iB iC ju jv jw jx jy jz jA jB oQ oR oS oT oU oV sP sQ sR sS xR xS sT sU c9 cH s6 hP;replace hP:=I4 hP;obtain ⟨t5,iX,rfl,hP⟩:=hP;replace hP:=gF hP;obtain ⟨t6,rfl,hP⟩:=hP;apply bL (cY n t5 iX t6 [(pt t0),(iI t1),ud,ud,s0,(sl t5 iX),(iI t6),s7,s8,s9,dR,dz,c6,c7,c8,dA,c9,cH,c_,dB,db,dC,dS,dT,dD,dE,eS,eT,fF,fG,eU,fH,fI,eW,eY,eZ,fJ,fK,fL,fM,fN,fO,iB,iC,ju,jv,jw,jx,jy,jz,jA,jB,oQ,oR,oS,oT,oU,oV,sP,sQ,sR,sS,xR,xS,sT,sU,ud] H hP);kernel_rfl
 ·apply bL h0
  kernel_rfl
theorem ayF {t0 t1 t4 t6 t9 t10 t11 t12 t13 t14 t15 t18 t19 t20 t21 t22 t23 t24 t25 t26 t27 t28 t29 t30 t31 t32 t33 t34 t35 t36 t37 t38 t39 t40:Value}{t5:Oa}{iX:Nat}{t7:Int}{t16 t17 t62 t63 t64 t65:Value}{K0:FH}{t8:Int}{t41 t42 t43 t44 t45 t46 t47 t48 t49 t50 t51 t52 t53 t54 t55 t56 t57 t58 t59 t60 t61:Value}{H:aa}(I:Nat->Int->aa->Prop)(n:Nat)(h0:I n t8 H)
  (cY:∀(n:Nat)(t8:Int)(ys:Fr)(H:aa),I n t8 H->
  (bif (decide (t8>0)) then (az (IntKind.i64.wrap (t8 - 1)) iX/\aV t5 λi1 i2=>∃n3,H.cell i1 (i2+((IntKind.i64.wrap (t8 - 1)).toNat*1))=some (iU n3)/\bif (decide (n3>t7)) then (az (IntKind.i64.wrap (t8 - 1)) iX/\aV t5 λi4 i5=>∃n6,H.cell i4 (i5+((IntKind.i64.wrap (t8 - 1)).toNat*1))=some (iU n6)/\az t8 iX/\aV t5 λi7 i8=>aq H i7 (i8+(t8.toNat*1)) [(iU n6)] λH9=>∃jS,jS<n/\I jS (IntKind.i64.wrap (t8 - 1)) H9) else (K0 ([t0,t1,ud,ud,t4,(sl t5 iX),t6,(iU t7),(iI t8),t9,t10,t11,t12,t13,t14,t15,t16,t17,t18,t19,t20,t21,t22,t23,t24,t25,t26,t27,t28,t29,t30,t31,t32,t33,t34,t35,t36,t37,t38,t39,t40,(iI t8),(bb (decide (t8>0))),(bb true),(sl t5 iX),(iI t8),(iI (IntKind.i64.wrap (t8 - 1))),(pt (some ⟨i1,(i2+((IntKind.i64.wrap (t8 - 1)).toNat*1)),none⟩)),(iU n3),(iU t7),(bb (decide (n3>t7))),(bb false)]++gs ys 52 10++[t62,t63,t64,t65,ud]) H)) else (K0 ([t0,t1,ud,ud,t4,(sl t5 iX),t6,(iU t7),(iI t8),t9,t10,t11,t12,t13,t14,t15,t16,t17,t18,t19,t20,t21,t22,t23,t24,t25,t26,t27,t28,t29,t30,t31,t32,t33,t34,t35,t36,t37,t38,t39,t40,(iI t8),(bb (decide (t8>0))),(bb false)]++us 7++[(bb false)]++gs ys 52 10++[t62,t63,t64,t65,ud]) H))) :
  LA en TK [t0,t1,ud,ud,t4,(sl t5 iX),t6,(iU t7),(iI t8),t9,t10,t11,t12,t13,t14,t15,t16,t17,t18,t19,t20,t21,t22,t23,t24,t25,t26,t27,t28,t29,t30,t31,t32,t33,t34,t35,t36,t37,t38,t39,t40,t41,t42,t43,t44,t45,t46,t47,t48,t49,t50,t51,t52,t53,t54,t55,t56,t57,t58,t59,t60,t61,t62,t63,t64,t65,ud] H [(X.exit 2,K0)]:=by
 refine ko (Z:=[]) (λm xs H'=>AS.asInt .i64 (xs.getD 8 undef) λt8=>I m t8 H') ?_ n H ?_
 ·intro n H
  suffices hs:∀fO iB iC ju jv jw jx jy jz jA jB oQ oR oS oT oU oV sP sQ sR sS s8:Value,((AS.asInt .i64 s8 λt8=>I n t8 H)->gr en TK [] [t0,t1,ud,ud,t4,(sl t5 iX),t6,(iU t7),s8,t9,t10,t11,t12,t13,t14,t15,t16,t17,t18,t19,t20,t21,t22,t23,t24,t25,t26,t27,t28,t29,t30,t31,t32,t33,t34,t35,t36,t37,t38,t39,t40,fO,iB,iC,ju,jv,jw,jx,jy,jz,jA,jB,oQ,oR,oS,oT,oU,oV,sP,sQ,sR,sS,t62,t63,t64,t65,ud] H (kh (λm xs H'=>AS.asInt .i64 (xs.getD 8 undef) λt8=>I m t8 H') n [(X.exit 2,K0)])) by
   apply bL hs
   kernel_rfl
  intro fO iB iC ju jv jw jx jy jz jA jB oQ oR oS oT oU oV sP sQ sR sS s8 hP;replace hP:=gF hP;obtain ⟨t8,rfl,hP⟩:=hP;apply bL (cY n t8 [t0,t1,ud,ud,t4,(sl t5 iX),t6,(iU t7),(iI t8),t9,t10,t11,t12,t13,t14,t15,t16,t17,t18,t19,t20,t21,t22,t23,t24,t25,t26,t27,t28,t29,t30,t31,t32,t33,t34,t35,t36,t37,t38,t39,t40,fO,iB,iC,ju,jv,jw,jx,jy,jz,jA,jB,oQ,oR,oS,oT,oU,oV,sP,sQ,sR,sS,t62,t63,t64,t65,ud] H hP);kernel_rfl
 ·apply bL h0
  kernel_rfl
end
section
variable {H H':aa} {R:Value->aa->Prop} {L:List ax} {d:Dk} {D:Dm} {e:En}
structure Pb where
 p:Nat
 li:Nat
 m:Nat
 g:Nat
 x:Nat
 mx:Nat
 ab:Nat
 na:Nat
structure Pz where
 ps:List (Int×Int)
 a:Option Nat
 b:Option Nat
structure Pz.Ok (z:Pz):Prop where
 n1:z.a=none->z.ps=[]
 n2:z.b=none->z.ps=[]
 le:z.ps.length<=1000000000
abbrev dm (b:Pb)(z:Pz):ax:=bx b.p (.cells true 0 [.slice (some ⟨b.li,0,none⟩) 3 0,P b.m,P b.g,P b.x,P b.mx,.slice (addr z.a) z.ps.length 0,.slice (addr z.b) z.ps.length 0,.slice (some ⟨b.ab,0,none⟩) b.na 0])
abbrev cV (z:Pz):ax:=gl 1 z.a (z.ps.map λq=>I q.1)
abbrev cW (z:Pz):ax:=gl 1 z.b (z.ps.map λq=>I q.2)
variable {b:Pb} {z:Pz}
theorem aks {i:Nat}{q:Int×Int}(o:z.Ok)(h:Sep H (cV z::L))(hq:z.ps[i]? =some q):∃a,z.a=some a/\H.cell a (0+((i:Nat):Int).toNat*1)=some (I q.1):=by
 cases ha:z.a with
 |none=>have:=o.n1 ha;rw [this] at hq;simp at hq
 |some a=>
  unfold cV at h;rw [ha] at h;exact ⟨a,rfl,Sep.aG (dN.1 h) (by rw [dr,cG,ou,jg,hq];rfl)⟩
theorem akt {i:Nat}{q:Int×Int}(o:z.Ok)(h:Sep H (cW z::L))(hq:z.ps[i]? =some q):∃a,z.b=some a/\H.cell a (0+((i:Nat):Int).toNat*1)=some (I q.2):=by
 cases ha:z.b with
 |none=>have:=o.n2 ha;rw [this] at hq;simp at hq
 |some a=>
  unfold cW at h;rw [ha] at h;exact ⟨a,rfl,Sep.aG (dN.1 h) (by rw [dr,cG,ou,jg,hq];rfl)⟩
theorem aj6 {a v:Int}(o:z.Ok)(h:Sep H (dm b z::cV z::cW z::L))(hm:(a,v)∈z.ps)(hu:∀q∈z.ps,q.1=a->q.2=v)(hR:R (I v) H):CA en F.OK [.pointer (some ⟨b.p,5,none⟩),I a] H R:=by
 have hle:=o.le;apply aAl;refine ayC (λk t4 t5 H'=>H=H'/\∃j:Nat,j<=z.ps.length/\k=z.ps.length - j/\t5=(j:Int)/\∀x∈z.ps.take j,x.1≠a) z.ps.length ⟨rfl,0,h_ _,rfl,rfl,λx hx=>by simp at hx⟩ ?_;rintro k t4 t5 ys _ ⟨rfl,j,hj,rfl,rfl,fW⟩;refine af ⟨_,_,Sep.aG h rfl,aI (λzz=>?_) λzz=>?_⟩
 ·have zz:j<z.ps.length:=by have:=ga zz;omega
  have⟨q,hq⟩:∃q,z.ps[j]? =some q:=⟨_,cM zz⟩;have⟨ba,GD,ca⟩:=aks o (Sep.iE h) hq;have⟨bb,uW,cb⟩:=akt o (Sep.qM h) hq;refine af ⟨_,_,Sep.aG h rfl,by unfold az;omega,?_⟩;rw [GD];refine bG ⟨_,ca,aI (λw=>?_) λw=>?_⟩
  ·have w:q.1=a:=by simpa using w
   refine af ⟨_,_,Sep.aG h rfl,by unfold az;omega,?_⟩;rw [uW];refine bG ⟨_,cb,?_⟩;rw [hu q (dF hq) w];exact wZ hR
  ·have w:q.1≠a:=by simpa using w
   refine ⟨z.ps.length - (j+1),by omega,rfl,j+1,zz,rfl,by rw [wrap_i64 (by omega)];omega,λx hx=>?_⟩;rw [vC,hq] at hx;rcases dV.1 hx with hx|hx
   ·exact fW x hx
   ·have hx:x∈[q]:=hx;simp only [fo] at hx;subst hx;exact w
 ·have zz:j=z.ps.length:=by have:=fQ zz;omega
  subst zz;rw [wM] at fW;exact absurd rfl (fW _ hm)
theorem axA {a v:Int}(o:z.Ok)(hl:z.ps.length<1000000000)(h:Sep H (dm b z::cV z::cW z::L))(h0:a=0↔v=0)(hc:∀q∈z.ps,q.1=a↔q.2=v)
  (hR:∀H' z',z'.Ok->(z'=z∨(a≠0/\z'.ps=z.ps++[(a,v)]))->(a≠0->(a,v)∈z'.ps)->Sep H' (dm b z'::cV z'::cW z'::L)->R (.bool true) H'):CA en F.UB [.pointer (some ⟨b.p,5,none⟩),I a,I v] H R:=by
 have hle:=o.le;apply aAm;refine aI (λza=>?_) λza=>?_
 ·have za:a=0:=by simpa using za
  have zv:v=0:=h0.1 za
  have:=hR H z o (.inl rfl) (λhn=>absurd za hn) h
  rw [za,zv];exact this
 have za:a≠0:=by simpa using za
 have zv:v≠0:=λe=>za (h0.2 e)
 refine bl (by rw [mc];exact zv) ?_;refine ayD (λk t6 t7 H'=>H=H'/\∃j:Nat,j<=z.ps.length/\k=z.ps.length - j/\t7=(j:Int)/\∀x∈z.ps.take j,x.1≠a) z.ps.length ⟨rfl,0,h_ _,rfl,rfl,λx hx=>by simp at hx⟩ ?_;rintro k t6 t7 ys _ ⟨rfl,j,hj,rfl,rfl,fW⟩;refine af ⟨_,_,Sep.aG h rfl,aI (λzz=>?_) λzz=>?_⟩
 ·have zz:j<z.ps.length:=by have:=ga zz;omega
  have⟨q,hq⟩:∃q,z.ps[j]? =some q:=⟨_,cM zz⟩;have⟨ba,GD,ca⟩:=aks o (Sep.iE h) hq;have⟨bb,uW,cb⟩:=akt o (Sep.qM h) hq;have WN:=dF hq;refine af ⟨_,_,Sep.aG h rfl,by unfold az;omega,?_⟩;rw [GD];refine bG ⟨_,ca,aI (λw=>?_) λw=>?_⟩
  ·have w:q.1=a:=by simpa using w
   have w2:=(hc q WN).1 w;refine af ⟨_,_,Sep.aG h rfl,by unfold az;omega,?_⟩;rw [GD];refine bG ⟨_,ca,cm (by simpa using w) (af ⟨_,_,Sep.aG h rfl,by unfold az;omega,?_⟩)⟩;rw [uW];refine bG ⟨_,cb,?_⟩;refine uK ?_;rw [w2];have hx:(v==v)=true:=by simp
   rw [hx];exact hR H z o (.inl rfl) (λ_=>by rw [<-w,<-w2];exact WN) h
  ·have w:q.1≠a:=by simpa using w
   have w2:q.2≠v:=λe=>w ((hc q WN).2 e)
   refine af ⟨_,_,Sep.aG h rfl,by unfold az;omega,?_⟩;rw [uW];refine bG ⟨_,cb,bl (by rw [mc];exact w2) ⟨z.ps.length - (j+1),by omega,rfl,j+1,zz,rfl,by rw [wrap_i64 (by omega)];omega,λx hx=>?_⟩⟩;rw [vC,hq] at hx;rcases dV.1 hx with hx|hx
   ·exact fW x hx
   ·have hx:x∈[q]:=hx;simp only [fo] at hx;subst hx;exact w
 ·have zz:j=z.ps.length:=by have:=fQ zz;omega
  subst zz;refine uK (af ⟨_,_,Sep.aG h rfl,Sep.nw h λi8 H9 h9=>⟨[I a],oO (es:=1) (Sep.gL h9) (by decide) rfl,?_⟩⟩);refine qo (b:=z.a) (cs:=z.ps.map λq=>I q.1) (new:=[I a]) (Sep.qM h9) (λe=>by rw [o.n1 e];rfl) (by decide) (by simp) (by decide) rfl (by omega) λcE a' gP=>?_
  refine af (Sep.E_ gP (aS rfl) λgC iJ=>af ⟨_,_,Sep.eK iJ rfl,Sep.nw iJ λi21 gg j_=>⟨[I v],oO (es:=1) (Sep.gL j_) (by decide) rfl,?_⟩⟩);refine qo (b:=z.b) (cs:=z.ps.map λq=>I q.2) (new:=[I v]) (Sep.wG j_) (λe=>by rw [o.n2 e];rfl) (by decide) (by simp) (by decide) rfl (by omega) λeC b' tK=>?_
  refine af (Sep.y_ tK (aS rfl) λfq rm=>?_);have e1:(z.ps++[(a,v)]).map (λq=>I q.1)=z.ps.map (λq=>I q.1)++[I a]:=by rw [fh];rfl
  have e2:(z.ps++[(a,v)]).map (λq=>I q.2)=z.ps.map (λq=>I q.2)++[I v]:=by rw [fh];rfl
  have e3:(z.ps++[(a,v)]).length=z.ps.length+1:=by simp
  refine hR fq ⟨z.ps++[(a,v)],some a',some b'⟩ ⟨(λe=>by cases e),(λe=>by cases e),by show (z.ps++[(a,v)]).length<=1000000000;omega⟩ (.inr ⟨za,rfl⟩) (λ_=>mE _ (.head _)) ?_;show Sep fq (bx b.p (.cells true 0 [.slice (some ⟨b.li,0,none⟩) 3 0,P b.m,P b.g,P b.x,P b.mx,.slice (addr (some a')) (z.ps++[(a,v)]).length 0,.slice (addr (some b')) (z.ps++[(a,v)]).length 0,.slice (some ⟨b.ab,0,none⟩) b.na 0])::gl 1 (some a') ((z.ps++[(a,v)]).map λq=>I q.1)::gl 1 (some b') ((z.ps++[(a,v)]).map λq=>I q.2)::L);rw [e1,e2,e3];exact Sep.pick rm 5 [4,2,0]
theorem ao_ {no:Int}{rv:List (BitVec 64)}{rk:BitVec 64}{a v:Int}{g1 g2:Option Addr}(o:z.Ok)(hl:z.ps.length<1000000000)(h:Sep H (dm b z::cV z::cW z::L))(r1:lO (dm b z::cV z::cW z::L) g1 rv)(r2:lO (dm b z::cV z::cW z::L) g2 rv)(lU:rv.length<1000)(h0:a=0↔v=0)(hc:∀q∈z.ps,q.1=a↔q.2=v)
  (hR:∀H' z',z'.Ok->(z'=z∨(a≠0/\z'.ps=z.ps++[(a,v)]))->(a≠0->(a,v)∈z'.ps)->Sep H' (dm b z'::cV z'::cW z'::L)->R (.bool true) H') :
  CA en F.UA [.pointer (some ⟨b.p,5,none⟩),.agg #[I no,.slice g1 rv.length 0,W rk,I a],.agg #[I no,.slice g2 rv.length 0,W rk,I v]] H R:=by
 apply aAk;refine Sep.nw h λi1 H2 h2=>Sep.nw h2 λi3 H4 h4=>⟨_,Sep.bn h4 rfl,_,Sep.aG h4 rfl,cm (by simp) ⟨_,Sep.bn h4 rfl,_,Sep.aG h4 rfl,cm (by simp) ⟨_,_,Sep.bn h4 rfl,_,_,Sep.aG h4 rfl,?_⟩⟩⟩
 refine aa3 h4 r1.MF.MF r2.MF.MF rfl rfl (by omega) λbt ig=>⟨_,rfl,cm rfl ⟨_,Sep.bn ig rfl,_,Sep.aG ig rfl,?_⟩⟩
 refine axA o hl (Sep.pick ig 5 [2,3,4,0,1]) h0 hc λbf z' o' hz hm gy=>⟨_,rfl,?_⟩
 exact hR bf z' o' hz hm (Sep.pick gy 5 [0,1,2])
theorem aqF {t:Bool}{dg bk:Int}(h:Sep H L)(hR:∀H' li,Sep H' (bx li (.cells true 5 (flat (BP ⟨if t then 10 else 4,dg,bk,if t then 2 else 0⟩)))::L)->R (.slice (some ⟨li,0,none⟩) 3 0) H'):CA en F.UE [.bool t,I dg,I bk] H R:=by
 apply aAp;refine Sep.nw h λi1 H2 h2=>Sep.dp h2 (aS rfl) λH3 h3=>?_
 cases t with
 |true=>
  refine cm rfl (Sep.dp h3 (aS rfl) λH4 h4=>Sep.dp h4 (aS rfl) λH5 h5=>Sep.nw h5 λi6 H7 h7=>Sep.dp h7 (aS rfl) λH8 h8=>?_);refine ⟨_,_,_,_,_,Sep.wu h8 rfl,_,_,_,_,_,Sep.jK h8 rfl,_,_,_,_,_,Sep.jK h8 rfl,Sep.nw h8 λi24 cR ij=>?_⟩;exact hR cR i24 (Sep.pick ij 3 [0])
 |false=>
  refine bl rfl (Sep.nw h3 λi6 H7 h7=>Sep.dp h7 (aS rfl) λH8 h8=>?_);refine ⟨_,_,_,_,_,Sep.wu h8 rfl,_,_,_,_,_,Sep.jK h8 rfl,_,_,_,_,_,Sep.jK h8 rfl,Sep.nw h8 λi24 cR ij=>?_⟩;exact hR cR i24 (Sep.pick ij 3 [0])
abbrev kle (a b:BitVec 64):Prop:=a.toNat<=b.toNat
structure IB (out l:List (BitVec 64)):Prop where
 perm:out.Perm l
 iO:out.Pairwise kle
theorem auS {y:Nat}{room:Int}(qx:d.bk<9223372036854775808)(o:D.Ok d)(h:Sep H (yE y d D::lE D::L))
  (hR:∀H' g out,IB out ((D.es.map En.k).filter λk=>decide (bZ k d.bk=room))->(g=none->out=[])->Sep H' (gl 1 g (bS out)::yE y d D::lE D::L)->R (.slice (addr g) out.length 0) H'):CA en F.UF [P y,I room] H R:=by
 have hle:=o.le
 let F:BitVec 64->Bool:=λk=>decide (bZ k d.bk=room)
 apply aAq;refine ayE (λk t5 iX t6 H'=>∃(j:Nat)(g:Option Nat)(out:List (BitVec 64)),j<=D.es.length/\k=D.es.length - j/\t6=(j:Int)/\t5=addr g/\iX=out.length/\IB out (((D.es.take j).map En.k).filter F)/\(g=none->out=[])/\AS.Sep H' (gl 1 g (bS out)::yE y d D::lE D::L)) D.es.length ⟨0,none,[],h_ _,rfl,rfl,rfl,rfl,⟨Ih _,List.Pairwise.nil⟩,λ_=>rfl,kx.2 h⟩ ?_;clear h;rintro k t5 iX t6 ys H1 ⟨j,g,out,hj,rfl,rfl,rfl,rfl,qz,hg,h⟩;refine af ⟨_,_,Sep.bn h rfl,aI (λzz=>?_) λzz=>?_⟩
 ·have zz:j<D.es.length:=by have:=ga zz;omega
  have⟨e,he⟩:∃e,D.es[j]? =some e:=⟨_,cM zz⟩;have⟨b,hb⟩:=Dm.Mx o he;have Et:AS.Sep H1 (lE D::_):=Sep.qM h;unfold lE at Et;rw [hb] at Et;have ew:IntKind.i64.wrap ((j:Int)+1)=((j+1:Nat):Int):=by rw [wrap_i64 (by omega)];omega
  have ht:((D.es.take (j+1)).map En.k).filter F=((D.es.take j).map En.k).filter F++if F e.k then [e.k] else []:=by
   rw [vC,he,fh,Fy]
   congr 1
   show ([e.k].filter F)=_;simp only [Ni,List.filter_nil]
  have hlen:out.length<=j:=by
   rw [qz.perm.length_eq];have h1:=List.length_filter_le F ((D.es.take j).map En.k);rw [gb,km] at h1;omega
  refine af ⟨_,_,Sep.bn h rfl,by unfold az;omega,?_⟩;rw [hb];refine bG ⟨_,by rw [dr];exact Gs (o:=0) (dN.1 Et) (k:=0) rfl (yv _) (by rw [jg,he];rfl) rfl,af ⟨_,Sep.bn h rfl,FQ qx ⟨_,rfl,aI (λw=>?_) λw=>?_⟩⟩⟩
  ·have w:¬bZ e.k d.bk=room:=by simpa using w
   have hF:F e.k=false:=Bc w;refine ⟨D.es.length - (j+1),by omega,j+1,g,out,zz,rfl,ew,rfl,rfl,?_,hg,h⟩;rw [ht,hF];simpa using qz
  ·have w:bZ e.k d.bk=room:=by simpa using w
   have hF:F e.k=true:=x8 w;refine Sep.nw h λi19 bu fV=>⟨[W e.k],oO (es:=1) (Sep.gL fV) (by decide) rfl,?_⟩
   refine qo (b:=g) (cs:=bS out) (new:=[W e.k]) (Sep.iE fV) (λe=>by rw [hg e];rfl) (by decide) (by simp) (by decide) rfl (by omega) λbM g' kA=>?_
   have ij:AS.Sep bM (bx g' (.cells true 1 (bS (out++[e.k])))::yE y d D::lE D::L):=by
    have e1:bS (out++[e.k])=bS out++[W e.k]:=by show List.map W _=_;rw [fh];rfl
    rw [e1];exact Sep.pick (dN.1 kA) 4 [0,2,3]
   clear kA fV;refine ayF (λk t8 H'=>∃(tt:Nat)(x:BitVec 64),tt<=out.length/\tt=k/\t8=(tt:Int)/\(∀u∈out.drop tt,e.k.toNat<=u.toNat)/\AS.Sep H' (bx g' (.cells true 1 (bS (out.take tt++x::out.drop tt)))::yE y d D::lE D::L)) out.length ⟨out.length,e.k,bq _,rfl,rfl,λu hu=>by simp at hu,by rw [wM,Nj];exact ij⟩ ?_;clear ij;rintro k t8 ys2 H5 ⟨tt,x,ha,rfl,rfl,PZ,h5⟩;have Ew:(bS (out.take tt++x::out.drop tt)).length=out.length+1:=by
    show (List.map W _).length=_;rw [gb,e_,gU,km,C9];omega
   have fin:∀(H:aa),(tt=0∨∃u,out[tt - 1]? =some u/\u.toNat<=e.k.toNat)->AS.Sep H (bx g' (.cells true 1 (bS (out.take tt++x::out.drop tt)))::yE y d D::lE D::L)->AS.asInt .i64 (I (tt:Int)) λjL=>az jL (out.length+1)/\aV (addr (some g')) λi28 i29=>aq H i28 (i29+(jL.toNat*1)) [(.int .u64 e.k.toNat)] λgI=>
     ∃KQ,KQ<D.es.length - j/\∃(j':Nat)(g:Option Nat)(Ra:List (BitVec 64)),j'<=D.es.length/\KQ=D.es.length - j'/\IntKind.i64.wrap ((j:Int)+1)=(j':Int)/\addr (some g')=addr g/\out.length+1=Ra.length/\IB Ra (((D.es.take j').map En.k).filter F)/\(g=none->Ra=[])/\AS.Sep gI (gl 1 g (bS Ra)::yE y d D::lE D::L):=λH EG hs=>by
    refine wZ ⟨by unfold az;omega,bG (Sep.dp hs (by rw [dr,Ew];simp only [gU,nM];omega) λgI nV=>?_)⟩;refine ⟨D.es.length - (j+1),by omega,j+1,some g',out.take tt++e.k::out.drop tt,zz,rfl,ew,rfl,?_,?_,(λe=>by cases e),?_⟩
    ·rw [e_,gU,km,C9];omega
    ·rw [ht,hF];refine ⟨?_,?_⟩
     ·show (out.take tt++e.k::out.drop tt).Perm (_++[e.k]);have p1:(out.take tt++e.k::out.drop tt).Perm (e.k::(out.take tt++out.drop tt)):=pf;rw [wN] at p1;exact p1.trans ((List.Perm.cons _ qz.perm).trans (FC (l₁:=[e.k])))
     ·have Qq:=qz.iO;rw [<-wN tt out] at Qq;have⟨s1,s2,s3⟩:=Is.1 Qq;refine Is.2 ⟨s1,Bf.2 ⟨PZ,s2⟩,λu hu w hw=>?_⟩;rcases dU.1 hw with rfl|hw
      ·rcases EG with h0|⟨v,hv,hve⟩
       ·subst h0;simp at hu
       ·
        have⟨i,hi⟩:=qV hu;have hil:=(bJ.1 hi).1;rw [km] at hil;have Wi:out[i]? =some u:=by
         rw [Be] at hi;split at hi
         ·exact hi
         ·cases hi
        by_cases e1:i=tt - 1
        ·subst e1;rw [hv] at Wi;obtain rfl:=dM Wi;exact hve
        ·have:=qz.iO
         rw [Sn] at this;have⟨hi3,hi4⟩:=bJ.1 Wi;have⟨WV,hv4⟩:=bJ.1 hv;have h9:=this i (tt - 1) hi3 WV (by omega);rw [hi4,hv4] at h9;exact wK h9 hve
      ·exact s3 u hu w hw
    ·refine dN.2 ?_;have es:setAt (bS (out.take tt++x::out.drop tt)) (0+(tt:Int).toNat*1) [.int .u64 e.k.toNat]=bS (out.take tt++e.k::out.drop tt):=by
      rw [dr,cG,ou];show (List.map W (out.take tt++x::out.drop tt)).set tt (W e.k)=List.map W _;rw [<-zC]
      congr 1
      rw [M8 _ _ (by rw [km];omega)]
      congr 1
      rw [km,show tt - min tt out.length=0 by omega];rfl
     rw [es] at nV;exact nV
   refine aI (λz0=>?_) λz0=>?_
   ·have z0:0<tt:=by have:=ga z0;omega
    have ew2:IntKind.i64.wrap ((tt:Int) - 1)=((tt - 1:Nat):Int):=by rw [wrap_i64 (by omega)];omega
    have⟨u,hu⟩:∃u,out[tt - 1]? =some u:=⟨_,cM (by omega)⟩;have yK:H5.cell g' (0+(((tt - 1:Nat):Int)).toNat*1)=some (W u):=Sep.aG h5 (by
     rw [dr,cG,ou,jg,uB (by rw [km];omega),Be,ar (by omega),hu];rfl)
    rw [ew2];refine ⟨by unfold az;omega,bG ⟨_,yK,aI (λzl=>?_) λzl=>?_⟩⟩
    ·have zl:e.k.toNat<u.toNat:=by have:=ga zl;omega
     refine ⟨by unfold az;omega,bG ⟨_,yK,by unfold az;omega,bG (Sep.dp h5 (by rw [dr,Ew];simp only [gU,nM];omega) λH9 h9=>?_)⟩⟩;have hd:out.drop (tt - 1)=u::out.drop tt:=by
      have:=zy (l:=out) (i:=tt - 1) (by omega)
      rw [this,show tt - 1+1=tt by omega]
      congr 1
      exact (bJ.1 hu).2
     have GY:out.take tt=out.take (tt - 1)++[u]:=by
      conv=>lhs;rw [show tt=tt - 1+1 by omega]
      rw [vC,hu];rfl
     refine ⟨tt - 1,by omega,tt - 1,u,by omega,rfl,rfl,λv hv=>?_,?_⟩
     ·rw [hd] at hv;rcases dU.1 hv with rfl|hv
      ·omega
      ·exact PZ v hv
     ·have es:setAt (bS (out.take tt++x::out.drop tt)) (0+(tt:Int).toNat*1) [.int .u64 u.toNat]=bS (out.take (tt - 1)++u::out.drop (tt - 1)):=by
       rw [dr,cG,ou];show (List.map W (out.take tt++x::out.drop tt)).set tt (W u)=List.map W _;rw [<-zC,M8 _ _ (by rw [km];omega),km,show tt - min tt out.length=0 by omega,hd,GY];simp
      rw [es] at h9;exact h9
    ·have zl:¬e.k.toNat<u.toNat:=by have:=fQ zl;omega
     exact fin H5 (.inr ⟨u,hu,by omega⟩) h5
   ·have z0:tt=0:=by have:=fQ z0;omega
    exact fin H5 (.inl z0) h5
 ·have zz:j=D.es.length:=by have:=fQ zz;omega
  subst zz;rw [wM] at qz;exact T8 (hR H1 g out qz hg h)
end
section
variable {c:Lc} {M:List (List El)} {S S':Sm} {d:Dk} {D:Dm} {es hl:List Int} {i:Nat} {pre rest:List El} {e:El} {ky:Wd}
abbrev j6 (h:Int)(x:En):El:=⟨h,x.k⟩
structure fy (d:Dk)(M:List (List El))(S:Sm)(es:List Int)(D:Dm)(hl:List Int):Prop where
 len:hl.length=D.es.length
 perm:(List.zipWith j6 hl D.es).Perm M.flatten
 nd:hl.Nodup
 ky:(D.es.map En.k).Nodup
 dv:∀(i:Nat) h x,hl[i]? =some h->D.es[i]? =some x->kS D x=val S h
 ix:d.kd=4->∀(i:Nat) h x,hl[i]? =some h->D.es[i]? =some x->1<=x.el/\es[x.el - 1]? =some h
 t0:d.kd=10->∀x∈D.es,x.el=0
 le:d.kd=4->es.length=D.vs.length
 vs:d.kd=4->∀(j:Nat) h,es[j]? =some h->D.vs[j]? =some (val S h)
 vT:es.Nodup
 rf:d.kd=10->es=[]
theorem fy.out (R:fy d M S es D hl){y:El}(hy:y∈M.flatten):∃(i:Nat)(x:En),hl[i]? =some y.h/\D.es[i]? =some x/\x.k=y.k:=by
 have h1:=R.perm.mem_iff.2 hy;have⟨i,hi⟩:=qV h1;rw [Dh] at hi;cases h2:hl[i]? with
 |none=>rw [h2] at hi;cases hi
 |some h=>
  cases h3:D.es[i]? with
  |none=>rw [h2,h3] at hi;cases hi
  |some x=>
   rw [h2,h3] at hi;have hi:some (j6 h x)=some y:=hi;obtain rfl:=dM hi;exact ⟨i,x,h2,h3,rfl⟩
theorem fy.jJ (R:fy d M S es D hl){i:Nat}{x:En}(hx:D.es[i]? =some x):∃h,hl[i]? =some h/\j6 h x∈M.flatten:=by
 have aE:=(bJ.1 hx).1;have⟨h,hh⟩:∃h,hl[i]? =some h:=⟨_,cM (by rw [R.len];exact aE)⟩;refine ⟨h,hh,R.perm.mem_iff.1 (dF (i:=i) ?_)⟩;rw [Dh,hh,hx]
theorem ajM {α β:Type}{f:α->β}{l:List α}(h:(l.map f).Nodup){i j:Nat}{x y:α}(hi:l[i]? =some x)(hj:l[j]? =some y)(e:f x=f y):i=j:=by
 have⟨h1,h2⟩:=bJ.1 hi;have⟨h3,h4⟩:=bJ.1 hj;exact (List.getElem?_inj (by rw [gb];exact h1) h).1 (by rw [jg,jg,hi,hj];simp [e])
theorem LV {α:Type}{l:List α}(h:l.Nodup){i j:Nat}{x:α}(hi:l[i]? =some x)(hj:l[j]? =some x):i=j:=by
 rw [<-List.map_id l] at h;exact ajM (f:=id) h hi hj rfl
theorem fy.cx (R:fy d M S es D hl):D.es.length=M.flatten.length:=by
 rw [<-R.perm.length_eq,List.length_zipWith,R.len,Nat.min_self]
abbrev IH (c:Lc)(M:List (List El)):Prop:=∀(i:Nat)(l:List El),M[i]? =some l->wS c i l
theorem W1 {y:El}(hy:y∈M.flatten):∃(i:Nat)(l:List El),M[i]? =some l/\y∈l:=by
 have⟨l,hl,hy⟩:=zo.1 hy;have⟨j,hj⟩:=qV hl;exact ⟨j,l,hj,hy⟩
theorem aj5 {l:List El}{y:El}(h:M[i]? =some l)(hy:y∈l):y∈M.flatten:=zo.2 ⟨l,dF h,hy⟩
theorem fy.aiG (R:fy d M S es D hl)(hs:IH c M)(h:yj c M ky):∀x∈D.es,x.k≠ky:=λx hx e=>by
 have⟨i,hi⟩:=qV hx;have⟨h1,h2,h3⟩:=R.jJ hi;have⟨j,l,hj,hl⟩:=W1 h3;have⟨i0,l0,g1,g2,g3⟩:=h;have hb:bZ x.k c.d3=(j:Int):=(hs j l hj).2 (j6 h1 x) hl;rw [e,g1] at hb;obtain rfl:i0=j:=by omega
 rw [hj] at g2;obtain rfl:=dM g2;exact g3 _ hl e
theorem fy.has (R:fy d M S es D hl)(h:Has c M ky i pre e rest):∃(n:Nat)(x:En),hl[n]? =some e.h/\D.es[n]? =some x/\x.k=ky/\∀(n':Nat)(x':En),D.es[n']? =some x'->x'.k=ky->n'=n:=by
 have⟨h1,h2,h3⟩:=h;have⟨n,x,g1,g2,g3⟩:=R.out (aj5 h2 (y:=e) (by simp));exact ⟨n,x,g1,g2,g3.trans h3,λn' x' g4 g5=>ajM R.ky g4 g2 (by rw [g5,g3,h3])⟩
theorem afj (h:M[i]? =some (pre++e::rest)):M.flatten.Perm (e::(M.set i (pre++rest)).flatten):=by
 rw [Gl h,O6 h];have e1:(pre++e::rest)++(M.drop (i+1)).flatten=pre++e::(rest++(M.drop (i+1)).flatten):=by simp
 have e2:(pre++rest)++(M.drop (i+1)).flatten=pre++(rest++(M.drop (i+1)).flatten):=by simp
 rw [e1,e2,<-mC,<-mC];exact pf
theorem O5 (h:M[i]? =some (pre++rest)):(M.set i (pre++e::rest)).flatten.Perm (e::M.flatten):=by
 rw [Gl h,O6 h];have e1:(pre++e::rest)++(M.drop (i+1)).flatten=pre++e::(rest++(M.drop (i+1)).flatten):=by simp
 have e2:(pre++rest)++(M.drop (i+1)).flatten=pre++(rest++(M.drop (i+1)).flatten):=by simp
 rw [e1,e2,<-mC,<-mC];exact pf
theorem ae_ {α:Type}{y:α}:∀{l:List α}{k:Nat},l[k]? =some y->l.Perm (y::l.eraseIdx k)
 |[],k,h=>by simp at h
 |x::l,0,h=>by
  obtain rfl:x=y:=by simpa using h
  exact Ih _
 |x::l,k+1,h=>((ae_ (l:=l) (k:=k) (by simpa using h)).cons x).trans (List.Perm.swap ..)
theorem amC {α β γ:Type}(f:α->β->γ):∀(xs:List α)(bs:List β)(k:Nat),xs.length=bs.length->(List.zipWith f xs bs).eraseIdx k=List.zipWith f (xs.eraseIdx k) (bs.eraseIdx k)
 |[],bs,k,h=>by simp
 |a::xs,[],k,h=>by simp at h
 |a::xs,b::bs,0,h=>rfl
 |a::xs,b::bs,k+1,h=>hZ (f a b::·) (amC f xs bs k (by simpa using h))
theorem amD {α β γ:Type}(f:α->β->γ):∀(xs:List α)(bs:List β)(a:α)(b:β),xs.length=bs.length->List.zipWith f (xs++[a]) (bs++[b])=List.zipWith f xs bs++[f a b]
 |[],[],a,b,h=>rfl
 |[],_::_,a,b,h=>by simp at h
 |_::_,[],a,b,h=>by simp at h
 |a0::xs,b0::bs,a,b,h=>hZ (f a0 b0::·) (amD f xs bs a b (by simpa using h))
theorem fy.same (R:fy d M S es D hl)(hv:∀h,(h∈hs M∨h∈es)->val S' h=val S h):fy d M S' es D hl:=by
 refine ⟨R.len,R.perm,R.nd,R.ky,λi h x h1 h2=>?_,R.ix,R.t0,R.le,λhk j h h1=>?_,R.vT,R.rf⟩
 ·have⟨h',g1,g2⟩:=R.jJ h2;rw [h1] at g1;obtain rfl:=dM g1;rw [R.dv i h x h1 h2,hv h (.inl (cL.2 ⟨_,g2,rfl⟩))]
 ·rw [R.vs hk j h h1,hv h (.inr (dF h1))]
theorem fy.cut (R:fy d M S es D hl)(h:M[i]? =some (pre++e::rest)){n:Nat}{x:En}{lb:Option Nat}(h1:hl[n]? =some e.h)(h2:D.es[n]? =some x)(hk:x.k=e.k)(hv:∀h,(h∈hs (M.set i (pre++rest))∨h∈es)->val S' h=val S h) :
  fy d (M.set i (pre++rest)) S' es (D.cut n lb) (hl.eraseIdx n):=by
 have aE:=(bJ.1 h1).1;have Af:=(bJ.1 h2).1;have hz:(List.zipWith j6 hl D.es)[n]? =some e:=by
  rw [Dh,h1,h2];show some (j6 e.h x)=some e
  congr 1
  show (⟨e.h,x.k⟩:El)=e;rw [hk]
 have hp:(List.zipWith j6 (hl.eraseIdx n) (D.es.eraseIdx n)).Perm (M.set i (pre++rest)).flatten:=by
  rw [<-amC j6 hl D.es n R.len];have p1:=(ae_ hz).symm.trans (R.perm.trans (afj h));exact List.Perm.cons_inv p1
 have idx:∀{j:Nat}{h':Int}{x':En},(hl.eraseIdx n)[j]? =some h'->(D.es.eraseIdx n)[j]? =some x'->∃j',hl[j']? =some h'/\D.es[j']? =some x':=λ{j h' x'} g1 g2=>by
  rw [List.getElem?_eraseIdx] at g1 g2;split at g1
  ·rename_i hj;rw [ar hj] at g2;exact ⟨j,g1,g2⟩
  ·rename_i hj;rw [an hj] at g2;exact ⟨j+1,g1,g2⟩
 refine ⟨by show _=(D.es.eraseIdx n).length;rw [List.length_eraseIdx_of_lt aE,List.length_eraseIdx_of_lt Af,R.len],hp,R.nd.sublist (List.eraseIdx_sublist ..),R.ky.sublist ((List.eraseIdx_sublist ..).map _),λj h' x' g1 g2=>?_,λmN j h' x' g1 g2=>?_,λeI x' wh=>R.t0 eI x' (List.mem_of_mem_eraseIdx wh),R.le,λmN j h' g1=>?_,R.vT,R.rf⟩
 ·have⟨j',g3,g4⟩:=idx g1 g2;have ed:kS (D.cut n lb) x'=kS D x':=rfl;rw [ed,R.dv j' h' x' g3 g4];refine (hv h' (.inl ?_)).symm
  have:j6 h' x'∈List.zipWith j6 (hl.eraseIdx n) (D.es.eraseIdx n):=dF (i:=j) (by
   have g2:(D.es.eraseIdx n)[j]? =some x':=g2;rw [Dh,g1,g2])
  exact cL.2 ⟨_,hp.mem_iff.1 this,rfl⟩
 ·have⟨j',g3,g4⟩:=idx g1 g2;exact R.ix mN j' h' x' g3 g4
 ·show D.vs[j]? =_;rw [R.vs mN j h' g1,hv h' (.inr (dF g1))]
theorem fy.put (R:fy d M S es D hl)(k2:d.kd=4∨d.kd=10){n qq:Nat}{x:En}{a:Int}{w:Wd}(h1:hl[n]? =some a)(h2:D.es[n]? =some x)(hv:∀h,(h∈hs M∨h∈es)->val S' h=if h=a then w else val S h) :
  fy d M S' es (D.put n x qq w) hl:=by
 have Af:=(bJ.1 h2).1;have inM:∀{j:Nat}{h':Int}{x':En},hl[j]? =some h'->D.es[j]? =some x'->h'∈hs M:=λ{j h' x'} g1 g2=>by
  have⟨zV,g3,g4⟩:=R.jJ g2;rw [g1] at g3;obtain rfl:=dM g3;exact cL.2 ⟨_,g4,rfl⟩
 by_cases nr:0<x.el
 ·have k4:d.kd=4:=by
   rcases k2 with h|h
   ·exact h
   ·have:=R.t0 h x (dF h2);omega
  have eP:D.put n x qq w={D with vs:=D.vs.set (x.el - 1) w}:=ar nr;rw [eP];have⟨i1,i2⟩:=R.ix k4 n a x h1 h2;have dZ:x.el - 1<D.vs.length:=by rw [<-R.le k4];exact (bJ.1 i2).1
  have al6:∀(j:Nat)(h:Int),es[j]? =some h->(D.vs.set (x.el - 1) w)[j]? =some (val S' h):=λj h hj=>by
   rw [mD];by_cases e1:x.el - 1=j
   ·rw [ar e1,ar (by omega)];rw [<-e1,i2] at hj;obtain rfl:=dM hj;rw [hv a (.inr (dF i2)),ar rfl]
   ·rw [an e1,R.vs k4 j h hj,hv h (.inr (dF hj)),an];intro e2;subst e2;exact e1 (LV R.vT i2 hj)
  refine ⟨R.len,R.perm,R.nd,R.ky,λj h' x' g1 g2=>?_,R.ix,R.t0,λ_=>by show es.length=(D.vs.set _ _).length;rw [gT];exact R.le k4,λ_=>al6,R.vT,R.rf⟩;have⟨i3,i4⟩:=R.ix k4 j h' x' g1 g2;have WV:=al6 (x'.el - 1) h' i4;unfold kS;rw [ar (by omega)];show (D.vs.set (x.el - 1) w).getD (x'.el - 1) 0=_;rw [gu,WV];rfl
 ·have jS:d.kd=10:=by
   rcases k2 with h|h
   ·have:=(R.ix h n a x h1 h2).1;omega
   ·exact h
  have iq:=R.rf jS;have wo:x.el=0:=by omega
  have eP:D.put n x qq w={D with es:=D.es.set n ⟨x.k,qq,w,x.el⟩}:=an nr;rw [eP];have wg:∀{j:Nat}{x':En},(D.es.set n ⟨x.k,qq,w,x.el⟩)[j]? =some x'->(j=n/\x'=⟨x.k,qq,w,x.el⟩)∨(j≠n/\D.es[j]? =some x'):=λ{j x'} hj=>by
   rw [mD] at hj;by_cases e1:n=j
   ·rw [ar e1,ar (by omega)] at hj;exact .inl ⟨e1.symm,(dM hj).symm⟩
   ·rw [an e1] at hj;exact .inr ⟨λh=>e1 h.symm,hj⟩
  have ek:(D.es.set n ⟨x.k,qq,w,x.el⟩).map En.k=D.es.map En.k:=by
   rw [zC];refine x9 λj=>?_
   rw [mD];by_cases e1:n=j
   ·subst e1;rw [ar rfl,ar (by rw [gb];exact Af),jg,h2];rfl
   ·rw [an e1]
  have ez:List.zipWith j6 hl (D.es.set n ⟨x.k,qq,w,x.el⟩)=List.zipWith j6 hl D.es:=by
   refine x9 λj=>?_
   rw [Dh,Dh,mD];by_cases e1:n=j
   ·subst e1;rw [ar rfl,ar Af,h1,h2]
   ·rw [an e1]
  refine ⟨by show _=(D.es.set _ _).length;rw [gT];exact R.len,by show (List.zipWith j6 hl (D.es.set n _)).Perm _;rw [ez];exact R.perm,R.nd,by show ((D.es.set n _).map En.k).Nodup;rw [ek];exact R.ky,λj h' x' g1 g2=>?_,λk4=>by omega,λ_ x' wh=>?_,λk4=>by omega,λk4=>by omega,R.vT,R.rf⟩
  ·rcases wg g2 with ⟨rfl,rfl⟩|⟨aW,g3⟩
   ·rw [h1] at g1;obtain rfl:=dM g1;unfold kS;rw [an (by show ¬0<x.el;omega),hv a (.inl (inM h1 h2)),ar rfl]
   ·have WD:h'≠a:=λe2=>aW (by subst e2;exact LV R.nd g1 h1)
    have aDS:=R.t0 jS x' (dF g3)
    have:=R.dv j h' x' g1 g3
    unfold kS at this⊢;rw [an (by omega)] at this⊢;rw [hv h' (.inl (inM g1 g3)),an WD,this]
  ·have⟨j,hj⟩:=qV wh;rcases wg hj with ⟨_,rfl⟩|⟨_,g⟩
   ·exact wo
   ·exact R.t0 jS x' (dF g)
theorem fy.lay (R:fy d M S es D hl)(k2:d.kd=4∨d.kd=10)(h:M[i]? =some (pre++rest)){hn:Int}{w:Wd}{qq b:Nat}{eb:Option Nat}(nt:hn∉hs M)(nZ:hn∉es)(tM:∀x∈D.es,x.k≠ky)
  (hv:∀h,h≠hn->(h∈hs M∨h∈es)->val S' h=val S h)(hw:val S' hn=w) :
  fy d (M.set i (pre++⟨hn,ky⟩::rest)) S' (if d.kd=4 then es++[hn] else es) (D.lay d ky qq w b eb) (hl++[hn]):=by
 have hhl:∀{j:Nat}{h':Int},hl[j]? =some h'->h'∈hs M/\h'≠hn:=λ{j h'} g1=>by
  have aE:=(bJ.1 g1).1;have⟨x,hx⟩:∃x,D.es[j]? =some x:=⟨_,cM (by rw [<-R.len];exact aE)⟩;have⟨zV,g3,g4⟩:=R.jJ hx;rw [g1] at g3;obtain rfl:=dM g3;have hm:h'∈hs M:=cL.2 ⟨_,g4,rfl⟩;exact ⟨hm,λe=>nt (e▸hm)⟩
 have iq:∀{j:Nat}{h':Int},es[j]? =some h'->h'≠hn:=λg e=>nZ (e▸dF g)
 have ndl:(hl++[hn]).Nodup:=jG.2 ⟨R.nd,by simp,λx hx y hy e=>by
  simp only [fo] at hy;have⟨j,hj⟩:=qV hx;exact (hhl hj).2 (e.trans hy)⟩
 have ndk:∀x:En,x.k=ky->((D.es++[x]).map En.k).Nodup:=λx hx=>by
  rw [fh];refine jG.2 ⟨R.ky,by simp,λu hu v WU e=>?_⟩;have WU:v=x.k:=by simpa using WU
  obtain ⟨x',wh,rfl⟩:=cL.1 hu;exact tM x' wh (by rw [e,WU,hx])
 have agQ:∀x:En,x.k=ky->(List.zipWith j6 (hl++[hn]) (D.es++[x])).Perm (M.set i (pre++⟨hn,ky⟩::rest)).flatten:=λx hx=>by
  rw [amD j6 hl D.es hn x R.len];have p1:(List.zipWith j6 hl D.es++[j6 hn x]).Perm (j6 hn x::List.zipWith j6 hl D.es):=FC (l₂:=[j6 hn x]);refine p1.trans (((R.perm.cons _)).trans ?_);show (j6 hn x::M.flatten).Perm _
  have:j6 hn x=⟨hn,ky⟩:=by show (⟨hn,x.k⟩:El)=_;rw [hx]
  rw [this];exact (O5 h).symm
 have app:∀{α:Type}{l:List α}{a y:α}{j:Nat},(l++[a])[j]? =some y->l[j]? =some y∨(j=l.length/\y=a):=λ{α l a y j} g=>by
  by_cases hj:j<l.length
  ·rw [uB hj] at g;exact .inl g
  ·rw [ya (by omega)] at g;have pL:=(bJ.1 g).1;simp only [aat] at pL;rw [show j - l.length=0 by omega] at g;exact .inr ⟨by omega,(dM g).symm⟩
 rcases k2 with k4|jS
 ·rw [ar k4];have eD:D.lay d ky qq w b eb=⟨D.es++[⟨ky,qq,w,D.vs.length+1⟩],D.vs++[w],some b,eb⟩:=ar k4;rw [eD];have hle:=R.le k4;have vsn:∀(j:Nat)(h':Int),(es++[hn])[j]? =some h'->(D.vs++[w])[j]? =some (val S' h'):=λj h' g=>by
   rcases app g with g|⟨g,rfl⟩
   ·have hj:=(bJ.1 g).1;rw [uB (by omega),R.vs k4 j h' g,hv h' (iq g) (.inr (dF g))]
   ·rw [ya (by omega),show j - D.vs.length=0 by omega,hw];rfl
  have ixn:∀(j:Nat)(h':Int)(x':En),(hl++[hn])[j]? =some h'->(D.es++[(⟨ky,qq,w,D.vs.length+1⟩:En)])[j]? =some x'->1<=x'.el/\(es++[hn])[x'.el - 1]? =some h':=λj h' x' g1 g2=>by
   rcases app g2 with g3|⟨g3,rfl⟩
   ·have hj:=(bJ.1 g3).1;rw [uB (by rw [R.len];exact hj)] at g1;have⟨i1,i2⟩:=R.ix k4 j h' x' g1 g3;exact ⟨i1,by rw [uB (bJ.1 i2).1];exact i2⟩
   ·rcases app g1 with g4|⟨_,rfl⟩
    ·have:=(bJ.1 g4).1
     rw [R.len] at this;omega
    ·refine ⟨by show 1<=D.vs.length+1;omega,?_⟩;show (es++[h'])[D.vs.length+1 - 1]? =_;rw [ya (by omega),show D.vs.length+1 - 1 - es.length=0 by omega];rfl
  refine ⟨by show (hl++[hn]).length=(D.es++[_]).length;rw [e_,e_,R.len];rfl,agQ _ rfl,ndl,ndk _ rfl,λj h' x' g1 g2=>?_,λ_=>ixn,λeI=>by omega,λ_=>by show (es++[hn]).length=(D.vs++[w]).length;rw [e_,e_,hle];rfl,λ_=>vsn,jG.2 ⟨R.vT,by simp,λx hx y hy e=>by simp only [fo] at hy;exact nZ (hy▸e▸hx)⟩,λeI=>by omega⟩;have⟨i1,i2⟩:=ixn j h' x' g1 g2;have h3:=vsn _ _ i2;unfold kS;rw [ar (by omega)];show (D.vs++[w]).getD (x'.el - 1) 0=_;rw [gu,h3];rfl
 ·have kn:¬d.kd=4:=by omega
  rw [an kn];have eD:D.lay d ky qq w b eb=⟨D.es++[⟨ky,qq,w,0⟩],D.vs,some b,eb⟩:=an kn;rw [eD];refine ⟨by show (hl++[hn]).length=(D.es++[_]).length;rw [e_,e_,R.len];rfl,agQ _ rfl,ndl,ndk _ rfl,λj h' x' g1 g2=>?_,λh4=>by omega,λ_ x' wh=>?_,λh4=>by omega,λh4=>by omega,R.vT,R.rf⟩
  ·rcases app g2 with g3|⟨g3,rfl⟩
   ·have hj:=(bJ.1 g3).1;rw [uB (by rw [R.len];exact hj)] at g1;have⟨m1,m2⟩:=hhl g1;have ed:kS ⟨D.es++[⟨ky,qq,w,0⟩],D.vs,some b,eb⟩ x'=kS D x':=rfl;rw [ed,R.dv j h' x' g1 g3,hv h' m2 (.inl m1)]
   ·rcases app g1 with g4|⟨_,rfl⟩
    ·have:=(bJ.1 g4).1
     rw [R.len] at this;omega
    ·unfold kS;rw [an (by show ¬0<0;omega),hw]
  ·rcases dV.1 wh with wh|wh
   ·exact R.t0 jS x' wh
   ·simp only [fo] at wh;subst wh;rfl
end
section
variable {c:Lc} {q:Qr} {M M':List (List El)} {S S':Sm} {d:Dk} {D D':Dm} {es hl:List Int} {i:Nat} {pre rest:List El} {e:El} {st:Option (Int×Wd)} {ky:Wd}
structure Lk (c:Lc)(d:Dk)(M:List (List El)):Prop where
 kd:d.kd=c.d0
 en:d.en=c.d1
 bk:d.bk=c.d3
 k2:d.kd=4∨d.kd=10
 len:(M.length:Int)=c.d3
def Dq (d:Dk)(es:List Int)(a b:Int):Prop:=(a=0/\b=0)∨(d.kd=4/\∃j:Nat,b=((j+1:Nat):Int)/\es[j]? =some a)∨(d.kd=10/\a=b)
theorem axM {l:List El}{pre rest:List El}{e y:El}(h:(pre++e::rest).Pairwise (λa b=>a.k.toNat<b.k.toNat))(hy:y∈pre++e::rest):y∈pre∨y=e∨(y∈rest/\e.k.toNat<y.k.toNat):=by
 rcases dV.1 hy with hy|hy
 ·exact .inl hy
 ·rcases dU.1 hy with rfl|hy
  ·exact .inr (.inl rfl)
  ·exact .inr (.inr ⟨hy,(Bf.1 (Is.1 h).2.1).1 y hy⟩)
theorem auJ (h:q.fl=1)(j:Nat):kb c q j=(0,false):=an λhh=>hh.1 h
theorem auL {j:Nat}(h:q.fl≠1)(hb:bZ q.ky c.d3=(j:Int)):kb c q j=(q.ky,true):=ar ⟨h,hb⟩
theorem auK {j:Nat}(hb:bZ q.ky c.d3≠(j:Int)):kb c q j=(0,false):=an λhh=>hb hh.2
theorem agy (x:El):ns 0 false x:=by
 unfold ns;by_cases h:x.k=0
 ·exact .inr ⟨h,rfl⟩
 ·left
  have:x.k.toNat≠0:=λh2=>h (tf h2)
  show 0<x.k.toNat;omega
theorem XG (L:Lk c d M){y:El}{j:Nat}(hb:bZ y.k c.d3=(j:Int)):rH d q.fl q.ky y.k↔r0 c q<=(j:Int)/\ns (kb c q j).1 (kb c q j).2 y:=by
 unfold rH lC r0;rw [L.bk,hb];by_cases hf:q.fl=1
 ·rw [ar hf,auJ hf];exact ⟨λ_=>⟨by omega,agy y⟩,λ_=>.inl hf⟩
 ·rw [an hf];by_cases ho:bZ q.ky c.d3=(j:Int)
  ·rw [auL hf ho,ho];unfold ns;constructor
   ·rintro (h|h|⟨_,h⟩)
    ·exact absurd h hf
    ·omega
    ·exact ⟨Int.le_refl _,.inl h⟩
   ·rintro ⟨_,h|⟨_,h⟩⟩
    ·exact .inr (.inr ⟨rfl,h⟩)
    ·cases h
  ·rw [auK ho];constructor
   ·rintro (h|h|⟨h,_⟩)
    ·exact absurd h hf
    ·exact ⟨by omega,agy y⟩
    ·exact absurd h ho
   ·rintro ⟨h,_⟩;exact .inr (.inl (by omega))
theorem auU {n:Int}{a b:Wd}(h1:¬lC n a b)(h2:¬lC n b a):a=b:=by
 unfold lC at h1 h2;exact tf (by omega)
theorem aq4 {no:Int}{rv:List Wd}{rk:Wd}{el:Int}{no':Int}{rv':List Wd}{rk':Wd}{Gg:Int}(L:Lk c d M)(kU:IH c M)(R:fy d M S es D hl)(hE:mW c q M S no rv rk el st M')(h5:no≠5)(mO:q.kd=1∨q.kd=2∨q.kd=3∨q.kd=4∨q.kd=5)
  (hD:iQ d D q.kd q.ky q.fl q.val no' rv' rk' Gg D')(hv:∀h,(h∈hs M'∨h∈es)->val S' h=after st S h)(hf:∀h,h∈hs M'->h∉hs M->h∉es)(yN:∀h∈hs M,h≠0) :
  no=no'/\rv=rv'/\rk=rk'/\Dq d es el Gg/\∃es' ct,fy d M' S' es' D' ct/\(es'=es∨∃h,es'=es++[h]/\h∈hs M'):=by
 have iy:M'=M->st=none->D'=D->∃es' ct,fy d M' S' es' D' ct/\(es'=es∨∃h,es'=es++[h]/\h∈hs M'):=λe1 e2 e3=>by
  subst e1 e2 e3;exact ⟨es,hl,R.same hv,.inl rfl⟩
 have yu:Dq d es 0 0:=.inl ⟨rfl,rfl⟩;have ab:∀{n:Nat}{x:En},yj c M q.ky->D.es[n]? =some x->x.k=q.ky->False:=λhm h1 h2=>R.aiG kU hm _ (dF h1) h2
 have pr:∀{i:Nat}{pre rest:List El}{e:El},Has c M q.ky i pre e rest->(∀x∈D.es,x.k≠q.ky)->False:=λh hn=>by
  have⟨n,x,_,h2,h3,_⟩:=R.has h;exact hn x (dF h2) h3
 cases hE with
 |none g1 g2 g3=>
  cases hD with
  |uo f1 f2 f3=>exact ⟨rfl,rfl,rfl,yu,iy rfl rfl rfl⟩
  |um f1 f2 f3=>exact ⟨rfl,rfl,rfl,yu,iy rfl rfl rfl⟩
  |oq f1 f2 f3 f4=>exact (ab g3 f3 f4).elim
  |set f1 f2 f3 f4=>exact (ab g3 f3 f4).elim
  |full f1 f2 f3 f4=>exact absurd (g2 f1) f2
  |lay f1 f2 f3 f4=>exact absurd (g2 f1) f2
  |look f1 f2 f3=>exact (ab g3 f2 f3).elim
  |take f1 f2 f3=>exact (ab g3 f2 f3).elim
  |del f1 f2 f3 f4 f5 f6=>exact (ab g3 f5 f6).elim
  |om f1 f2=>exact absurd f1 g1
  |next f1 f2 f3 f4=>exact absurd f1 g1
 |oq g1 g2 g3=>
  cases hD with
  |uo f1 f2 f3=>omega
  |um f1 f2 f3=>omega
  |oq f1 f2 f3 f4=>exact ⟨rfl,rfl,rfl,yu,iy rfl rfl rfl⟩
  |set f1 f2 f3 f4=>omega
  |full f1 f2 f3 f4=>exact (pr g3 f3).elim
  |lay f1 f2 f3 f4=>exact (pr g3 f3).elim
  |look f1 f2 f3=>omega
  |take f1 f2 f3=>omega
  |del f1 f2 f3 f4 f5 f6=>omega
  |om f1 f2=>omega
  |next f1 f2 f3 f4=>omega
 |set g1 g2 g3=>
  cases hD with
  |uo f1 f2 f3=>exact (pr g3 f3).elim
  |um f1 f2 f3=>omega
  |oq f1 f2 f3 f4=>omega
  |@set n qq x f1 f2 f3 f4=>
   have⟨n0,x0,a1,a2,a3,a4⟩:=R.has g3;have e0:=a4 n x f3 f4;subst e0;rw [f3] at a2;obtain rfl:=dM a2;exact ⟨rfl,rfl,rfl,yu,es,hl,R.put L.k2 a1 f3 hv,.inl rfl⟩
  |full f1 f2 f3 f4=>exact (pr g3 f3).elim
  |lay f1 f2 f3 f4=>exact (pr g3 f3).elim
  |look f1 f2 f3=>omega
  |take f1 f2 f3=>omega
  |del f1 f2 f3 f4 f5 f6=>omega
  |om f1 f2=>omega
  |next f1 f2 f3 f4=>omega
 |@look i pre rest e g1 g2=>
  cases hD with
  |uo f1 f2 f3=>omega
  |um f1 f2 f3=>exact (pr g2 f3).elim
  |oq f1 f2 f3 f4=>omega
  |set f1 f2 f3 f4=>omega
  |full f1 f2 f3 f4=>omega
  |lay f1 f2 f3 f4=>omega
  |@look n x f1 f2 f3=>
   have⟨n0,x0,a1,a2,a3,a4⟩:=R.has g2;have e0:=a4 n x f2 f3;subst e0;rw [f2] at a2;obtain rfl:=dM a2;have hd:=R.dv n e.h x a1 f2;refine ⟨rfl,by rw [hd],rfl,?_,iy rfl rfl rfl⟩;unfold elemOf;rcases L.k2 with k4|jS
   ·rw [an (by rw [<-L.kd,k4];decide),an (by omega)];have⟨i1,i2⟩:=R.ix k4 n e.h x a1 f2;exact .inr (.inl ⟨k4,x.el - 1,by omega,i2⟩)
   ·rw [ar (by rw [<-L.kd];exact jS),ar jS];have wo:=R.t0 jS x (dF f2)
    have:kS D x=x.w:=an (by omega)
    rw [<-hd,this];exact .inr (.inr ⟨jS,rfl⟩)
  |take f1 f2 f3=>omega
  |del f1 f2 f3 f4 f5 f6=>omega
  |om f1 f2=>omega
  |next f1 f2 f3 f4=>omega
 |full g1 g2 g3 g4=>
  cases hD with
  |uo f1 f2 f3=>omega
  |um f1 f2 f3=>omega
  |oq f1 f2 f3 f4=>exact (ab g3 f3 f4).elim
  |set f1 f2 f3 f4=>exact (ab g3 f3 f4).elim
  |full f1 f2 f3 f4=>exact ⟨rfl,rfl,rfl,yu,iy rfl rfl rfl⟩
  |lay f1 f2 f3 f4=>have:=R.cx;have:=L.en;omega
  |look f1 f2 f3=>omega
  |take f1 f2 f3=>omega
  |del f1 f2 f3 f4 f5 f6=>omega
  |om f1 f2=>omega
  |next f1 f2 f3 f4=>omega
 |mem g1 g2 g3 g4=>exact absurd rfl h5
 |@add i pre rest h w g1 g2 g3 g4 g5 g6 g7 g8 g9=>
  have hm:yj c M q.ky:=⟨i,_,g3,g4,λx hx e=>by
   rcases dV.1 hx with hx|hx
   ·have:=g5 x hx;rw [e] at this;omega
   ·have:=g6 x hx;rw [e] at this;omega⟩
  cases hD with
  |uo f1 f2 f3=>omega
  |um f1 f2 f3=>omega
  |oq f1 f2 f3 f4=>exact (ab hm f3 f4).elim
  |set f1 f2 f3 f4=>exact (ab hm f3 f4).elim
  |full f1 f2 f3 f4=>have:=R.cx;have:=L.en;omega
  |@lay qq b eb f1 f2 f3 f4=>
   have dZ:h∈hs (M.set i (pre++⟨h,q.ky⟩::rest)):=by
    refine cL.2 ⟨⟨h,q.ky⟩,(O5 g4).mem_iff.2 (.head _),rfl⟩
   have nZ:h∉es:=hf h dZ g9;refine ⟨rfl,rfl,rfl,yu,_,_,R.lay L.k2 g4 g9 nZ f3 (λh' aW lS=>?_) ?_,?_⟩
   ·refine hv h' (lS.imp_left λhh=>?_);obtain ⟨y,hy,rfl⟩:=cL.1 hh;exact cL.2 ⟨y,(O5 g4).mem_iff.2 (jh _ hy),rfl⟩
   ·rw [hv h (.inl dZ)];show val S h=q.val;unfold val;rw [g8];rfl
   ·split
    ·exact .inr ⟨h,rfl,dZ⟩
    ·exact .inl rfl
  |look f1 f2 f3=>omega
  |take f1 f2 f3=>omega
  |del f1 f2 f3 f4 f5 f6=>omega
  |om f1 f2=>omega
  |next f1 f2 f3 f4=>omega
 |@del i pre rest e g1 g2=>
  cases hD with
  |uo f1 f2 f3=>omega
  |um f1 f2 f3=>exact (pr g2 f3).elim
  |oq f1 f2 f3 f4=>omega
  |set f1 f2 f3 f4=>omega
  |full f1 f2 f3 f4=>omega
  |lay f1 f2 f3 f4=>omega
  |look f1 f2 f3=>omega
  |take f1 f2 f3=>omega
  |@del n x lb f1 f2 f3 f4 f5 f6=>
   have⟨n0,x0,a1,a2,a3,a4⟩:=R.has g2;have e0:=a4 n x f5 f6;subst e0;rw [f5] at a2;obtain rfl:=dM a2;exact ⟨rfl,rfl,rfl,yu,es,_,R.cut g2.2.1 a1 f5 (f6.trans g2.2.2.symm) hv,.inl rfl⟩
  |om f1 f2=>omega
  |next f1 f2 f3 f4=>omega
 |@MG i pre rest e g1 g2 g3 g4 g5=>
  cases hD with
  |uo f1 f2 f3=>omega
  |um f1 f2 f3=>exact (pr g5 f3).elim
  |oq f1 f2 f3 f4=>omega
  |set f1 f2 f3 f4=>omega
  |full f1 f2 f3 f4=>omega
  |lay f1 f2 f3 f4=>omega
  |look f1 f2 f3=>omega
  |@take n x lb f1 f2 f3=>
   have⟨n0,x0,a1,a2,a3,a4⟩:=R.has g5;have e0:=a4 n x f2 f3;subst e0;rw [f2] at a2;obtain rfl:=dM a2;exact ⟨rfl,by rw [R.dv n e.h x a1 f2],rfl,yu,es,_,R.cut g5.2.1 a1 f2 (f3.trans g5.2.2.symm) hv,.inl rfl⟩
  |del f1 f2 f3 f4 f5 f6=>omega
  |om f1 f2=>omega
  |next f1 f2 f3 f4=>omega
 |om g1 g2=>
  have none:∀x∈D.es,¬rH d q.fl q.ky x.k:=λx hx hn=>by
   have⟨n,Ez⟩:=qV hx;have⟨h1,h2,h3⟩:=R.jJ Ez;have⟨j,l,hj,hl⟩:=W1 h3;have hb:bZ x.k c.d3=(j:Int):=(kU j l hj).2 (j6 h1 x) hl;have⟨a1,a2⟩:=(XG (y:=j6 h1 x) L hb).1 hn;exact g2 j a1 (bJ.1 hj).1 l hj _ hl a2
  cases hD with
  |uo f1 f2 f3=>omega
  |um f1 f2 f3=>omega
  |oq f1 f2 f3 f4=>omega
  |set f1 f2 f3 f4=>omega
  |full f1 f2 f3 f4=>omega
  |lay f1 f2 f3 f4=>omega
  |look f1 f2 f3=>omega
  |take f1 f2 f3=>omega
  |del f1 f2 f3 f4 f5 f6=>omega
  |om f1 f2=>exact ⟨rfl,rfl,rfl,yu,iy rfl rfl rfl⟩
  |next f1 f2 f3 f4=>exact (none _ f2 f3).elim
 |@next i pre rest e g1 g2 g3 g4 g5 g6=>
  have hb:bZ e.k c.d3=(i:Int):=(kU i _ g4).2 e (by simp);have agN:rH d q.fl q.ky e.k:=(XG L hb).2 ⟨g2,g5⟩;have⟨n,x,a1,a2,a3⟩:=R.out (aj5 g4 (y:=e) (by simp));have atw:∀x∈D.es,rH d q.fl q.ky x.k->¬lC d.bk x.k e.k:=λx hx hn aE=>by
   have⟨n,Ez⟩:=qV hx;have⟨h1,h2,h3⟩:=R.jJ Ez;have⟨j,l,hj,hl⟩:=W1 h3;have hbx:bZ x.k c.d3=(j:Int):=(kU j l hj).2 (j6 h1 x) hl;have⟨b1,b2⟩:=(XG (y:=j6 h1 x) L hbx).1 hn;unfold lC at aE;rw [L.bk,hbx,hb] at aE;rcases aE with aE|⟨e1,aE⟩
   ·exact g3 j b1 (by omega) l hj _ hl b2
   ·obtain rfl:j=i:=by omega
    rw [hj] at g4;obtain rfl:=dM g4;rcases axM (l:=[]) (kU j _ hj).1 hl with h4|h4|⟨_,h4⟩
    ·exact g6 _ h4 b2
    ·have:x.k=e.k:=hZ El.k h4
     rw [this] at aE;omega
    ·have h4:e.k.toNat<x.k.toNat:=h4;omega
  cases hD with
  |uo f1 f2 f3=>omega
  |um f1 f2 f3=>omega
  |oq f1 f2 f3 f4=>omega
  |set f1 f2 f3 f4=>omega
  |full f1 f2 f3 f4=>omega
  |lay f1 f2 f3 f4=>omega
  |look f1 f2 f3=>omega
  |take f1 f2 f3=>omega
  |del f1 f2 f3 f4 f5 f6=>omega
  |om f1 f2=>exact absurd (by rw [a3];exact agN) (f2 x (dF a2))
  |@next e2 f1 f2 f3 f4=>
   have h6:=atw e2 f2 f3;have h7:=f4 x (dF a2) (by rw [a3];exact agN);rw [a3] at h7
   have:=auU h6 h7
   exact ⟨rfl,rfl,this.symm,yu,iy rfl rfl rfl⟩
end
section
variable {c:Lc} {A:Ab} {q x:Qr} {i j:Nat} {n k a:Nat} {M M':List (List El)} {b:Bs} {S:Sm} {d:Dk} {D:Dm} {es hl:List Int}
def awY (n room:Nat):Nat:=((List.range 4096).find? λk=>decide (bZ (BitVec.ofNat 64 k) (n:Int)=(room:Int))).getD 0
def ab0:Bool:=[1,2,4,8,16,32].all λn=>(List.range n).all λroom=>decide (bZ (BitVec.ofNat 64 (awY n room)) (n:Int)=(room:Int))
theorem apa:ab0=true:=by decide +kernel
theorem awZ {n:Int}(hp:pow n){room:Nat}(hr:(room:Int)<n):∃k:Wd,bZ k n=(room:Int):=by
 have h:=apa;unfold ab0 at h;rw [qU] at h;have go:∀m:Nat,m∈[1,2,4,8,16,32]->n=(m:Int)->∃k:Wd,bZ k n=(room:Int):=λm hm e=>by
  have h2:=h m hm;rw [qU] at h2;have h3:=h2 room (Ie.2 (by omega));exact ⟨_,by rw [e];exact ga h3⟩
 rcases hp with e|e|e|e|e|e
 ·exact go 1 (by decide) e
 ·exact go 2 (by decide) e
 ·exact go 4 (by decide) e
 ·exact go 8 (by decide) e
 ·exact go 16 (by decide) e
 ·exact go 32 (by decide) e
theorem ak3:∀{l l':List Wd},l.Pairwise kle->l'.Pairwise (λa b:Wd=>a.toNat<b.toNat)->l.Perm l'->l=l'
 |[],l',_,_,hp=>(List.perm_nil.1 hp.symm).symm▸rfl
 |a::l,[],_,_,hp=>absurd (List.perm_nil.1 hp) (by simp)
 |a::l,b::l',h1,h2,hp=>by
  have⟨g1,g2⟩:=Bf.1 h1;have⟨g3,g4⟩:=Bf.1 h2;have ha:a∈b::l':=hp.mem_iff.1 (.head _);have hb:b∈a::l:=hp.mem_iff.2 (.head _);have e:a=b:=by
   rcases dU.1 ha with h|h
   ·exact h
   ·rcases dU.1 hb with h'|h'
    ·exact h'.symm
    ·have:=g3 a h
     have:a.toNat<=b.toNat:=g1 b h'
     omega
  subst e;rw [ak3 g2 g4 (List.Perm.cons_inv hp)]
theorem fy.keys (R:fy d M S es D hl)(kU:IH c M)(qx:d.bk=c.d3){l:List El}(Ex:M[i]? =some l){out:List Wd}(hk:IB out ((D.es.map En.k).filter λk=>decide (bZ k d.bk=(i:Int)))):out=l.map El.k:=by
 refine ak3 hk.iO ?_ (hk.perm.trans ?_)
 ·exact List.pairwise_map.2 (kU i l Ex).1
 ·have p1:(D.es.map En.k).Perm (M.flatten.map El.k):=by
   have h1:=R.perm.map El.k;have e:(List.zipWith j6 hl D.es).map El.k=D.es.map En.k:=by
    refine x9 λn=>?_
    rw [jg,jg,Dh];cases hx:D.es[n]? with
    |none=>
     cases hy:hl[n]? <;>rfl
    |some x=>
     have⟨h,hh,_⟩:=R.jJ hx;rw [hh];rfl
   rw [e] at h1;exact h1
  refine (p1.filter _).trans ?_;rw [Gl Ex,fh,fh,Fy,Fy];have other:∀(L:List (List El)),(∀l'∈L,∃j:Nat,j≠i/\M[j]? =some l')->((L.flatten.map El.k).filter λk=>decide (bZ k d.bk=(i:Int)))=[]:=λL hL=>by
   rw [List.filter_eq_nil_iff];intro k nX;obtain ⟨y,hy,rfl⟩:=cL.1 nX;have⟨l',ct,hy⟩:=zo.1 hy;have⟨j,hj,pL⟩:=hL l' ct
   have:=(kU j l' pL).2 y hy
   rw [qx,this];simp only [gf];omega
  have own:((l.map El.k).filter λk=>decide (bZ k d.bk=(i:Int)))=l.map El.k:=by
   rw [Dg];intro k nX;obtain ⟨y,hy,rfl⟩:=cL.1 nX;rw [qx];exact x8 ((kU i l Ex).2 y hy)
  rw [own,other (M.take i),other (M.drop (i+1))]
  ·simp
  ·intro l' ct;have⟨j,hj⟩:=qV ct;rw [Bd] at hj;exact ⟨i+1+j,by omega,hj⟩
  ·intro l' ct;have⟨j,hj⟩:=qV ct;rw [Be] at hj;split at hj
   ·exact ⟨j,by omega,hj⟩
   ·cases hj
structure qg (c:Lc)(M:List (List El))(z:Vz)(i g:Nat)(E1:List Int)(K l:List El):Prop where
 room:z.room=(i:Int)
 av:z.av=E1++l.map El.h
 len:E1.length=g
 keys:z.keys.drop g=l.map El.k
 kl:z.keys.length=z.av.length
 ls:M[i]? =some (K++l)
 spot:py (c.h,hd z.room) E1=(gM c K,(mA i K:Int))
 le:z.keys.length<=1000
variable {z:Vz} {g:Nat} {E1:List Int} {K l:List El} {e:El}
theorem qg.begin (h:ND z i l)(hM:M[i]? =some l)(hl:l.length<=1000)(Ea:i<100):qg c M z i 0 [] [] l/\z.dn=true:=by
 refine ⟨⟨h.room,by rw [h.av];rfl,rfl,by rw [h.keys];rfl,by rw [h.keys,h.av,gb,gb],hM,?_,by rw [h.keys,gb];exact hl⟩,h.dn⟩;show (c.h,hd z.room)=(c.h,(mA i []:Int));rw [h.room,Wc Ea];rfl
theorem qg.lens (h:qg c M z i g E1 K l):z.keys.length=g+l.length:=by
 rw [h.kl,h.av,e_,gb,h.len]
theorem qg.head (h:qg c M z i g E1 K (e::l)):z.keys[g]? =some e.k/\z.av[g]? =some e.h/\z.av.take g=E1:=by
 refine ⟨?_,?_,?_⟩
 ·have:=hZ (λx=>x[0]?) h.keys
  simpa [Bd] using this
 ·rw [h.av,ya (by rw [h.len];omega),h.len,x6];rfl
 ·rw [h.av,<-h.len,List.take_left]
theorem qg.atF (h:qg c M z i g E1 K (e::l))(hA:A.ls[i]? =some (K++e::l))(kU:IH c M){q:Qr}(hr:q.room=(i:Int))(h1:q.ah=(py (c.h,hd z.room) E1).1)(h2:q.ai=(py (c.h,hd z.room) E1).2)(h3:q.cur=e.h)(h4:q.ky=e.k):qW c A i q:=by
 rw [h.spot] at h1 h2;exact ⟨K,e,l,⟨hr,hA,h1,h2⟩,h3,h4.symm,by rw [h4];exact (kU i _ h.ls).2 e (by simp)⟩
theorem qg.look (h:qg c M z i g E1 K (e::l))(hM:M'[i]? =M[i]?)(hp:0<e.h):qg c M' z i (g+1) (E1++[e.h]) (K++[e]) l:=by
 refine ⟨h.room,by rw [h.av];simp,by simp [h.len],?_,h.kl,by rw [hM,h.ls];simp,?_,h.le⟩
 ·rw [<-A_,h.keys];rfl
 ·rw [N4,ar hp];rw [(RU (c:=c) (i:=i) (pre:=K) (e:=e)).1,(RU (c:=c) (i:=i) (pre:=K) (e:=e)).2];rfl
structure NT (c:Lc)(z:Vz)(i g:Nat)(E1:List Int)(K l:List El):Prop where
 room:z.room=(i:Int)
 av:z.av=E1++0::l.map El.h
 len:E1.length=g
 keys:z.keys.drop (g+1)=l.map El.k
 kl:z.keys.length=z.av.length
 spot:py (c.h,hd z.room) E1=(gM c K,(mA i K:Int))
 le:z.keys.length<=1000
theorem qg.cut (h:qg c M z i g E1 K (e::l)):NT c {z with av:=z.av.set g 0} i g E1 K l:=by
 refine ⟨h.room,?_,h.len,?_,by show _=(z.av.set g 0).length;rw [gT];exact h.kl,h.spot,h.le⟩
 ·show z.av.set g 0=_;rw [h.av,M8 _ _ (by rw [h.len];omega),h.len,x6];rfl
 ·show z.keys.drop (g+1)=_;rw [<-A_,h.keys];rfl
theorem NT.kY (h:NT c z i g E1 K l)(hM:M[i]? =some (K++l)):qg c M z i (g+1) (E1++[0]) K l:=by
 refine ⟨h.room,by rw [h.av];simp,by simp [h.len],h.keys,h.kl,hM,?_,h.le⟩;rw [N4,an (by decide)];exact h.spot
end
section
variable (H:aa)(R:VH)
set_option maxRecDepth 100000
set_option maxHeartbeats 2000000
theorem azV (x0:Oa)(x1:Int)(x2:Oa)(pZ:Nat) :
  (aA x0 λi1 i2=>∃a3 i4,H.cell i1 (i2+7)=some (sl a3 i4)/\az x1 i4/\aV a3 λi5 i6=>∃a7,H.cell i5 (i6+(x1.toNat*14))=some (pt a7)/\bif (!a7.isNone) then (CA en F.lR [(pt x0),(iI x1)] H λv8 H9=>∃w5,v8=(bb w5)/\R (bb w5) H9) else (∃cu,H.cell i5 ((i6+(x1.toNat*14))+1)=some (pt cu)/\bif (!cu.isNone) then (CA en F.Ga [(pt x0),(iI x1)] H λrN cE=>∃uM,rN=(bb uM)/\R (bb uM) cE) else (∃bC,H.cell i5 ((i6+(x1.toNat*14))+10)=some (iI bC)/\bif (decide (bC≥(pZ:Int))) then (R (bb true) H) else (∃dy,H.cell i5 ((i6+(x1.toNat*14))+10)=some (iI dy)/\az dy pZ/\aV x2 λi17 i18=>∃fi cU bX fS i23 nA cc dL,H.aM i17 (i18+(dy.toNat*7)) 7=some [(iI fi),(iI cU),(iU bX),(sl fS i23),(iI nA),(iI cc),(iU dL)]/\aC H (.cells true 0 [(iI 0),(iI 0),(iU 0),s0,(iI 0),(iI 0),(iU 0)]) λi27 bN=>aq bN i27 0 [(iI fi),(iI cU),(iU bX),(sl fS i23),(iI nA),(iI cc),(iU dL)] λfq=>∃jf,fq.cell i5 ((i6+(x1.toNat*14))+10)=some (iI jf)/\aq fq i5 ((i6+(x1.toNat*14))+10) [(iI (IntKind.i64.wrap (jf+1)))] λft=>aq ft i5 ((i6+(x1.toNat*14))+11) [(bb false)] λbU=>∃jq,bU.cell i27 0=some (iI jq)/\bif (jq==1) then (∃gn qF nC lq i38 jV fD kV,bU.aM i27 0 7=some [(iI gn),(iI qF),(iU nC),(sl lq i38),(iI jV),(iI fD),(iU kV)]/\CA en F.F_ [(pt x0),(iI x1),(.agg #[(iI gn),(iI qF),(iU nC),(sl lq i38),(iI jV),(iI fD),(iU kV)])] bU λZO mX=>∃Jh,ZO=(bb Jh)/\R (bb Jh) mX) else (∃ua,bU.cell i27 0=some (iI ua)/\bif (ua==2) then (∃iA gR jW nQ i50 ub xx kX,bU.aM i27 0 7=some [(iI iA),(iI gR),(iU jW),(sl nQ i50),(iI ub),(iI xx),(iU kX)]/\CA en F.F_ [(pt x0),(iI x1),(.agg #[(iI iA),(iI gR),(iU jW),(sl nQ i50),(iI ub),(iI xx),(iU kX)])] bU λMQ yh=>∃vP,MQ=(bb vP)/\R (bb vP) yh) else (∃xz,bU.cell i27 0=some (iI xz)/\bif (xz==3) then (∃pO,(bU.ae 13).cell i27 6=some (iU pO)/\aA x0 λi59 i60=>∃wW i62,(bU.ae 13).cell i59 i60=some (sl wW i62)/\az 0 i62/\aV wW λi63 i64=>∃yV,(bU.ae 13).cell i63 (i64+3)=some (iI yV)/\nz (IntKind.u64.wrap yV)/\(aA x0 λi66 i67=>∃wX,(bU.ae 13).cell i66 (i67+3)=some (pt wX)/\CA en F.V1 [(pt wX),(iI (IntKind.i64.wrap (Int.tmod pO (IntKind.u64.wrap yV))))] (bU.ae 13) λZQ qc=>∃oI,ZQ=(pt oI)/\aq qc i5 ((i6+(x1.toNat*14))+1) [(pt oI)] λwQ=>aq wQ i5 ((i6+(x1.toNat*14))+5) [(iI 0),(iU (IntKind.u64.wrap (IntKind.i64.wrap (Int.tmod pO (IntKind.u64.wrap yV))))),s0,(iI 0),(iI 0)] λkM=>∃uf,kM.cell i27 2=some (iU uf)/\aq kM i5 ((i6+(x1.toNat*14))+4) [(iU uf)] λBr=>aq Br i5 ((i6+(x1.toNat*14))+3) [(iI 0)] λgW=>∃BD,gW.cell i5 ((i6+(x1.toNat*14))+1)=some (pt BD)/\bif (!BD.isNone) then (CA en F.lR [(pt x0),(iI x1)] gW λv78 H79=>∃b80,v78=(bb b80)/\R (bb b80) H79) else (R (bb false) gW))/\True) else (aA x0 λi81 i82=>∃qj i84,(bU.ae 8).cell i81 i82=some (sl qj i84)/\∃oM CG DG i88 CI n90,(bU.ae 8).aM i27 1 5=some [(iI oM),(iU CG),(sl DG i88),(iI CI),(iI n90)]/\CA en F.UC [(sl qj i84),(iI 1),(.agg #[(iI oM),(iU CG),(sl DG i88),(iI CI),(iI n90)])] (bU.ae 8) λv91 FO=>∃Jr,v91=(bb Jr)/\(bif (!Jr) then (R (bb true) FO) else (∃ui uj uH i97 xK CJ,FO.aM i27 1 5=some [(iI ui),(iU uj),(sl uH i97),(iI xK),(iI CJ)]/\aC FO (.cells true 0 [(iI 0),(iU 0),s0,(iI 0),(iI 0)]) λi100 FI=>aq FI i100 0 [(iI ui),(iU uj),(sl uH i97),(iI xK),(iI CJ)] λDr=>∃abj i104,Dr.cell i27 3=some (sl abj i104)/\CA en F.F8 [(sl abj i104)] Dr λZH wO=>∃abm i108,ZH=(sl abm i108)/\aq wO i100 2 [(sl abm i108)] λzF=>aA x0 λi110 i111=>∃IN,(zF.ae 10).cell i110 (i111+3)=some (pt IN)/\∃Cu xw Bw i116 Cv t_,(zF.ae 10).aM i100 0 5=some [(iI Cu),(iU xw),(sl Bw i116),(iI Cv),(iI t_)]/\CA en F.VZ [(pt IN),(.agg #[(iI Cu),(iU xw),(sl Bw i116),(iI Cv),(iI t_)])] (zF.ae 10) λML jj=>∃Bx,ML=(pt Bx)/\aq jj i5 (i6+(x1.toNat*14)) [(pt Bx)] λBo=>(∃IP i124,Bo.cell i100 2=some (sl IP i124)/\CA en F.DQ [(sl IP i124)] Bo λayN FJ=>ayN=undef/\∃Lg Lh abw i130 Cx aiM,FJ.aM i27 1 5=some [(iI Lg),(iU Lh),(sl abw i130),(iI Cx),(iI aiM)]/\aq FJ i5 ((i6+(x1.toNat*14))+5) [(iI Lg),(iU Lh),(sl abw i130),(iI Cx),(iI aiM)] λBp=>∃Bz,Bp.cell i5 (i6+(x1.toNat*14))=some (pt Bz)/\bif (!Bz.isNone) then (CA en F.lR [(pt x0),(iI x1)] Bp λayU am1=>∃Ob,ayU=(bb Ob)/\R (bb Ob) am1) else (R (bb false) Bp))/\True))/\True)))))))->
  CA en F.Ox [(pt x0),(iI x1),(sl x2 pZ)] H R:=vk (by kernel_rfl)
noncomputable def Tx:Code:=kE Go.Proofs.Tryz.f47 0
theorem azT (x0:Oa)(fc:Bool)(fe fg fP:Int)(jD:Oa)(aag:Nat)(aah:Oa)(aai:Nat) :
  (aC H (.cells true 0 [(bb fc),(iI fe),(iI fg),(iI fP),(sl jD aag),(sl aah aai)]) λi1 H2=>LA en Tx [(pt x0),(.agg #[(bb fc),(iI fe),(iI fg),(iI fP),(sl jD aag),(sl aah aai)]),ud,(pt (ad i1)),(bb false),(iI 0),ud,ud,ud,ud,ud,ud,ud,ud,ud,ud,ud,ud,ud,ud,ud,ud,ud,ud,ud,ud,ud,ud,ud,ud,ud,ud,ud,ud,ud,ud,ud,ud,ud,ud,ud,ud,ud,ud,ud,ud,ud,ud,ud,ud,ud,ud] H2 [(X.exit 0,λ(y3:Fr)(H4:aa)=>AS.asBool (y3.getD 4 undef) λb5=>R (bb true) H4),(X.ret,λ(y6:Fr)(H7:aa)=>AS.asBool (y6.getD 4 undef) λb8=>R (bb b8) H7)])->
  CA en F.Uo [(pt x0),(.agg #[(bb fc),(iI fe),(iI fg),(iI fP),(sl jD aag),(sl aah aai)])] H R:=vz [[(4,(bb false))]] (by kernel_rfl)
theorem ayt {t1:Value}{t0:Oa}{t3:Nat}{K0 K1:FH}{t4:Bool}{t5:Int}{t6 t7 t8 t9 t10 t11 t12 t13 t14 t15 t16 t17 t18 t19 t20 t21 t22 t23 t24 t25 t26 t27 t28 t29 t30 t31 t32 t33 t34 t35 t36 t37 t38 t39 t40 t41 t42 t43 t44 t45 t46 t47 t48 t49 t50 t51:Value}{H:aa}(I:Nat->Bool->Int->aa->Prop)(n:Nat)(h0:I n t4 t5 H)
  (cY:∀(n:Nat)(t4:Bool)(t5:Int)(ys:Fr)(H:aa),I n t4 t5 H->
  (aA t0 λi1 i2=>∃a3 i4,H.cell i1 (i2+7)=some (sl a3 i4)/\bif (decide (t5<(i4:Int))) then (aA t0 λi5 i6=>∃a7 i8,(H.ae 37).cell i5 (i6+7)=some (sl a7 i8)/\az t5 i8/\aV a7 λi9 i10=>∃cu,(H.ae 37).cell i9 (i10+(t5.toNat*14))=some (pt cu)/\bif (!cu.isNone) then ((K1 ([(pt t0),t1,ud,(pt (ad t3)),(bb false),(iI t5),(iI t5),(pt t0),(pA i1 i2),(pA i1 (i2+7)),(sl a3 i4),(iI (i4:Int)),(bb true),(gd ys 13),(gd ys 14),(pt t0),(pA i5 i6),(pA i5 (i6+7)),(sl a7 i8),(iI t5),(pA i9 (i10+(t5.toNat*14))),(pA i9 (i10+(t5.toNat*14))),(pt cu),(bb (!cu.isNone)),(bb true)]++us 9++[(bb true),(bb true)]++us 15++[(bb true)]) (H.ae 37))/\True) else (aA t0 λi12 i13=>∃cI i15,(H.ae 37).cell i12 (i13+7)=some (sl cI i15)/\az t5 i15/\aV cI λi16 i17=>∃de,(H.ae 37).cell i16 ((i17+(t5.toNat*14))+1)=some (pt de)/\bif (!de.isNone) then ((K1 ([(pt t0),t1,ud,(pt (ad t3)),(bb false),(iI t5),(iI t5),(pt t0),(pA i1 i2),(pA i1 (i2+7)),(sl a3 i4),(iI (i4:Int)),(bb true),(gd ys 13),(gd ys 14),(pt t0),(pA i5 i6),(pA i5 (i6+7)),(sl a7 i8),(iI t5),(pA i9 (i10+(t5.toNat*14))),(pA i9 (i10+(t5.toNat*14))),(pt cu),(bb (!cu.isNone)),(bb false),(pt t0),(pA i12 i13),(pA i12 (i13+7)),(sl cI i15),(iI t5),(pA i16 (i17+(t5.toNat*14))),(pA i16 ((i17+(t5.toNat*14))+1)),(pt de),(bb (!de.isNone)),(bb (!de.isNone)),(bb true)]++us 15++[(bb true)]) (H.ae 37))/\True) else (aA t0 λi19 i20=>∃fR i22,(H.ae 37).cell i19 (i20+7)=some (sl fR i22)/\az t5 i22/\aV fR λi23 i24=>∃cc,(H.ae 37).cell i23 ((i24+(t5.toNat*14))+10)=some (iI cc)/\∃mH i27,(H.ae 37).cell t3 4=some (sl mH i27)/\az t5 i27/\aV mH λi28 i29=>∃jc i31,(H.ae 37).cell i28 (i29+(t5.toNat*1))=some (sl jc i31)/\(bif (decide (cc<(i31:Int))) then (K1 [(pt t0),t1,ud,(pt (ad t3)),(bb false),(iI t5),(iI t5),(pt t0),(pA i1 i2),(pA i1 (i2+7)),(sl a3 i4),(iI (i4:Int)),(bb true),(gd ys 13),(gd ys 14),(pt t0),(pA i5 i6),(pA i5 (i6+7)),(sl a7 i8),(iI t5),(pA i9 (i10+(t5.toNat*14))),(pA i9 (i10+(t5.toNat*14))),(pt cu),(bb (!cu.isNone)),(bb false),(pt t0),(pA i12 i13),(pA i12 (i13+7)),(sl cI i15),(iI t5),(pA i16 (i17+(t5.toNat*14))),(pA i16 ((i17+(t5.toNat*14))+1)),(pt de),(bb (!de.isNone)),(bb (!de.isNone)),(bb false),(pt t0),(pA i19 i20),(pA i19 (i20+7)),(sl fR i22),(iI t5),(pA i23 (i24+(t5.toNat*14))),(pA i23 ((i24+(t5.toNat*14))+10)),(iI cc),(pA t3 4),(sl mH i27),(iI t5),(pA i28 (i29+(t5.toNat*1))),(sl jc i31),(iI (i31:Int)),(bb (decide (cc<(i31:Int)))),(bb true)] (H.ae 37)) else (∃k32,k32<n/\I k32 t4 (IntKind.i64.wrap (t5+1)) (H.ae 37)))/\True))) else (K0 ([(pt t0),t1,ud,(pt (ad t3)),(bb t4),(iI t5),(iI t5),(pt t0),(pA i1 i2),(pA i1 (i2+7)),(sl a3 i4),(iI (i4:Int)),(bb false)]++gs ys 13 39) H))) :
  LA en Tx [(pt t0),t1,ud,(pt (ad t3)),(bb t4),(iI t5),t6,t7,t8,t9,t10,t11,t12,t13,t14,t15,t16,t17,t18,t19,t20,t21,t22,t23,t24,t25,t26,t27,t28,t29,t30,t31,t32,t33,t34,t35,t36,t37,t38,t39,t40,t41,t42,t43,t44,t45,t46,t47,t48,t49,t50,t51] H [(X.exit 0,K0),(X.ret,K1)]:=by
 refine ko (Z:=[]) (λm xs H'=>AS.asBool (xs.getD 4 undef) λt4=>AS.asInt .i64 (xs.getD 5 undef) λt5=>I m t4 t5 H') ?_ n H ?_
 ·intro n H
  suffices hs:∀s6 s7 s8 s9 dR dz c6 dA c9 cH c_ dB db dC dS dT dD dE eS eT fF fG eU fH fI eW eY eZ fJ fK fL fM fN fO iB iC ju jv jw jx jy jz jA jB s4 c7 c8 s5:Value,((AS.asBool s4 λt4=>AS.asInt .i64 s5 λt5=>I n t4 t5 H)->gr en Tx [] [(pt t0),t1,ud,(pt (ad t3)),s4,s5,s6,s7,s8,s9,dR,dz,c6,c7,c8,dA,c9,cH,c_,dB,db,dC,dS,dT,dD,dE,eS,eT,fF,fG,eU,fH,fI,eW,eY,eZ,fJ,fK,fL,fM,fN,fO,iB,iC,ju,jv,jw,jx,jy,jz,jA,jB] H (kh (λm xs H'=>AS.asBool (xs.getD 4 undef) λt4=>AS.asInt .i64 (xs.getD 5 undef) λt5=>I m t4 t5 H') n [(X.exit 0,K0),(X.ret,K1)])) by
   apply bL hs
   kernel_rfl
  intro s6 s7 s8 s9 dR dz c6 dA c9 cH c_ dB db dC dS dT dD dE eS eT fF fG eU fH fI eW eY eZ fJ fK fL fM fN fO iB iC ju jv jw jx jy jz jA jB s4 c7 c8 s5 hP;replace hP:=uJ hP;obtain ⟨t4,rfl,hP⟩:=hP;replace hP:=gF hP;obtain ⟨t5,rfl,hP⟩:=hP;apply bL (cY n t4 t5 [(pt t0),t1,ud,(pt (ad t3)),(bb t4),(iI t5),s6,s7,s8,s9,dR,dz,c6,c7,c8,dA,c9,cH,c_,dB,db,dC,dS,dT,dD,dE,eS,eT,fF,fG,eU,fH,fI,eW,eY,eZ,fJ,fK,fL,fM,fN,fO,iB,iC,ju,jv,jw,jx,jy,jz,jA,jB] H hP);kernel_rfl
 ·apply bL h0
  kernel_rfl
noncomputable def Tw:Code:=kE Go.Proofs.Tryz.f48 0
theorem azS (x0:Oa)(x1:Int) :
  (LA en Tw [(pt x0),(iI x1),ud,ud,(bb false),(iI 0),ud,ud,ud,ud,ud,ud,ud,ud,ud,ud,ud,ud,ud,ud,ud,ud,ud,ud,ud,ud,ud,ud,ud,ud,ud,ud,ud,ud,ud,ud,ud,ud,ud,ud,ud,ud,ud,ud,ud,ud,ud,ud,ud,ud,ud,ud,ud,ud,ud,ud,ud,ud] H [(X.exit 0,λ(y1:Fr)(H2:aa)=>aA x0 λi3 i4=>∃a5,(H2.ae 38).cell i3 (i4+1)=some (pt a5)/\CA en F.Mv [(pt a5)] (H2.ae 38) λv6 H7=>∃n8,v6=(iI n8)/\aA x0 λi9 i10=>∃cu,H7.cell i9 (i10+4)=some (pt cu)/\aA cu λi12 i13=>∃cI i15,H7.cell i12 i13=some (sl cI i15)/\az 0 i15/\aV cI λi16 i17=>∃de,H7.cell i16 i17=some (pt de)/\aA de λi19 i20=>∃fR i22,H7.cell i19 (i20+5)=some (sl fR i22)/\bif (n8==(IntKind.i64.wrap (x1+(i22:Int)))) then (aA x0 λi23 i24=>∃fu,H7.cell i23 (i24+2)=some (pt fu)/\CA en F.Vp [(pt fu)] H7 λFj fw=>∃jU,Fj=(iI jU)/\bif (jU==0) then (aA x0 λi29 i30=>∃fz,fw.cell i29 (i30+1)=some (pt fz)/\CA en F.RP [(pt fz)] fw λMN nO=>∃gn,MN=(iI gn)/\(R (bb (gn==0)) nO)/\(((IntKind.i64.wrap (x1+(i22:Int)))=(IntKind.i64.wrap (x1+(i22:Int))))/\((IntKind.i64.wrap (x1+(i22:Int)))=(IntKind.i64.wrap (x1+(i22:Int))))/\True)/\(((i22:Int)=(i22:Int))/\((i22:Int)=(i22:Int))/\True)/\((∃lq i38,(H2.ae 38).cell i19 (i20+5)=some (sl lq i38)/\(fR=lq/\i22=i38/\0=0))/\(∃iS i36,H7.cell i19 (i20+5)=some (sl iS i36)/\(fR=iS/\i22=i36/\0=0))/\True)/\((∃rZ,(H2.ae 38).cell i16 i17=some (pt rZ)/\de=rZ)/\(∃jn,H7.cell i16 i17=some (pt jn)/\de=jn)/\True)/\((∃mh i44,(H2.ae 38).cell i12 i13=some (sl mh i44)/\(cI=mh/\i15=i44/\0=0))/\(∃gY i42,H7.cell i12 i13=some (sl gY i42)/\(cI=gY/\i15=i42/\0=0))/\True)/\((∃kN,(H2.ae 38).cell i9 (i10+4)=some (pt kN)/\cu=kN)/\(∃oH,H7.cell i9 (i10+4)=some (pt oH)/\cu=oH)/\True)/\True) else ((R (bb false) fw)/\(((IntKind.i64.wrap (x1+(i22:Int)))=(IntKind.i64.wrap (x1+(i22:Int))))/\((IntKind.i64.wrap (x1+(i22:Int)))=(IntKind.i64.wrap (x1+(i22:Int))))/\True)/\(((i22:Int)=(i22:Int))/\((i22:Int)=(i22:Int))/\True)/\((∃nQ i50,(H2.ae 38).cell i19 (i20+5)=some (sl nQ i50)/\(fR=nQ/\i22=i50/\0=0))/\(∃kO i48,H7.cell i19 (i20+5)=some (sl kO i48)/\(fR=kO/\i22=i48/\0=0))/\True)/\((∃wU,(H2.ae 38).cell i16 i17=some (pt wU)/\de=wU)/\(∃px,H7.cell i16 i17=some (pt px)/\de=px)/\True)/\((∃lQ i56,(H2.ae 38).cell i12 i13=some (sl lQ i56)/\(cI=lQ/\i15=i56/\0=0))/\(∃lr i54,H7.cell i12 i13=some (sl lr i54)/\(cI=lr/\i15=i54/\0=0))/\True)/\((∃tB,(H2.ae 38).cell i9 (i10+4)=some (pt tB)/\cu=tB)/\(∃wV,H7.cell i9 (i10+4)=some (pt wV)/\cu=wV)/\True)/\True)) else ((R (bb false) H7)/\(((IntKind.i64.wrap (x1+(i22:Int)))=(IntKind.i64.wrap (x1+(i22:Int))))/\((IntKind.i64.wrap (x1+(i22:Int)))=(IntKind.i64.wrap (x1+(i22:Int))))/\True)/\(((i22:Int)=(i22:Int))/\((i22:Int)=(i22:Int))/\True)/\((∃wW i62,(H2.ae 38).cell i19 (i20+5)=some (sl wW i62)/\(fR=wW/\i22=i62/\0=0))/\(∃lu i60,H7.cell i19 (i20+5)=some (sl lu i60)/\(fR=lu/\i22=i60/\0=0))/\True)/\((∃IT,(H2.ae 38).cell i16 i17=some (pt IT)/\de=IT)/\(∃zK,H7.cell i16 i17=some (pt zK)/\de=zK)/\True)/\((∃BC i68,(H2.ae 38).cell i12 i13=some (sl BC i68)/\(cI=BC/\i15=i68/\0=0))/\(∃r9 i66,H7.cell i12 i13=some (sl r9 i66)/\(cI=r9/\i15=i66/\0=0))/\True)/\((∃qi,(H2.ae 38).cell i9 (i10+4)=some (pt qi)/\cu=qi)/\(∃IV,H7.cell i9 (i10+4)=some (pt IV)/\cu=IV)/\True)/\True))])->
  CA en F.Un [(pt x0),(iI x1)] H R:=vz [[]] (by kernel_rfl)
theorem ays {t1 t4:Value}{t0:Oa}{K0:FH}{t5:Int}{t6 t7 t8 t9 t10 t11 t12 t13 t14 t15 t16 t17 t18 t19 t20:Value}{H:aa}(I:Nat->Int->aa->Prop)(n:Nat)(h0:I n t5 H)
  (cY:∀(n:Nat)(t5:Int)(ys:Fr)(H:aa),I n t5 H->
  (aA t0 λi1 i2=>∃a3 i4,H.cell i1 (i2+7)=some (sl a3 i4)/\bif (decide (t5<(i4:Int))) then (aA t0 λi5 i6=>∃a7,H.cell i5 (i6+2)=some (pt a7)/\CA en F.Vo [(pt a7),(iI t5)] H λv8 H9=>∃gx i11,v8=(sl gx i11)/\∃KL,KL<n/\I KL (IntKind.i64.wrap (t5+1)) H9) else (K0 ([(pt t0),t1,ud,ud,t4,(iI t5),(iI t5),(pt t0),(pA i1 i2),(pA i1 (i2+7)),(sl a3 i4),(iI (i4:Int)),(bb false)]++gs ys 13 8++us 37) H))) :
  LA en Tw [(pt t0),t1,ud,ud,t4,(iI t5),t6,t7,t8,t9,t10,t11,t12,t13,t14,t15,t16,t17,t18,t19,t20,ud,ud,ud,ud,ud,ud,ud,ud,ud,ud,ud,ud,ud,ud,ud,ud,ud,ud,ud,ud,ud,ud,ud,ud,ud,ud,ud,ud,ud,ud,ud,ud,ud,ud,ud,ud,ud] H [(X.exit 0,K0)]:=by
 refine ko (Z:=[]) (λm xs H'=>AS.asInt .i64 (xs.getD 5 undef) λt5=>I m t5 H') ?_ n H ?_
 ·intro n H
  suffices hs:∀s6 s7 s8 s9 dR dz c6 dA c9 cH c_ dB db c7 c8 s5:Value,((AS.asInt .i64 s5 λt5=>I n t5 H)->gr en Tw [] ([(pt t0),t1,ud,ud,t4,s5,s6,s7,s8,s9,dR,dz,c6,c7,c8,dA,c9,cH,c_,dB,db]++us 37) H (kh (λm xs H'=>AS.asInt .i64 (xs.getD 5 undef) λt5=>I m t5 H') n [(X.exit 0,K0)])) by
   apply bL hs
   kernel_rfl
  intro s6 s7 s8 s9 dR dz c6 dA c9 cH c_ dB db c7 c8 s5 hP;replace hP:=gF hP;obtain ⟨t5,rfl,hP⟩:=hP;apply bL (cY n t5 ([(pt t0),t1,ud,ud,t4,(iI t5),s6,s7,s8,s9,dR,dz,c6,c7,c8,dA,c9,cH,c_,dB,db]++us 37) H hP);kernel_rfl
 ·apply bL h0
  kernel_rfl
theorem alI (x0:Oa)(x1:Int) :
  (aA x0 λi1 i2=>∃a3 i4,H.cell i1 (i2+7)=some (sl a3 i4)/\az x1 i4/\aV a3 λi5 i6=>aA x0 λi7 i8=>∃a9,H.cell i7 (i8+1)=some (pt a9)/\CA en F.E7 [(pt a9)] H λv10 cj=>∃bH,v10=(iI bH)/\∃iR,cj.cell i5 (i6+(x1.toNat*14))=some (pt iR)/\bif iR.isNone then (∃cI,cj.cell i5 ((i6+(x1.toNat*14))+1)=some (pt cI)/\aA cI λi15 i16=>∃mf,cj.cell i15 i16=some (pt mf)/\CA en F.BW [(pt mf)] cj λoY bf=>∃nS sb,oY=(.tuple #[(bb nS),(bb sb)])/\bif nS then (∃fS,bf.cell i5 ((i6+(x1.toNat*14))+1)=some (pt fS)/\CA en F.V7 [(pt fS)] bf λFi bM=>∃fu i26,Fi=(sl fu i26)/\aq bM i5 ((i6+(x1.toNat*14))+2) [(sl fu i26)] λfw=>∃eF i29,(fw.ae 22).cell i5 ((i6+(x1.toNat*14))+2)=some (sl eF i29)/\aA x0 λi30 i31=>∃mg,(fw.ae 22).cell i30 (i31+4)=some (pt mg)/\aA mg λi33 i34=>∃iS i36,(fw.ae 22).cell i33 i34=some (sl iS i36)/\az 0 i36/\aV iS λi37 i38=>∃jn,(fw.ae 22).cell i37 i38=some (pt jn)/\∃fD,(fw.ae 22).cell i5 (((i6+(x1.toNat*14))+5)+1)=some (iU fD)/\CA en F.UF [(pt jn),(iI (IntKind.i64.wrap fD))] (fw.ae 22) λFo uC=>∃mh i44,Fo=(sl mh i44)/\CA en F.Ow [(sl eF i29),(sl mh i44)] uC λMP p9=>∃BJ,MP=(bb BJ)/\(bif (!BJ) then (R (bb false) p9) else (aq p9 i5 ((i6+(x1.toNat*14))+11) [(bb true)] λdW=>aA x0 λi53 i54=>∃lQ,dW.cell i53 (i54+1)=some (pt lQ)/\CA en F.E7 [(pt lQ)] dW λAY p_=>∃pO,AY=(iI pO)/\bif (decide (pO<=(IntKind.i64.wrap (bH+1)))) then (∃b59,p_.cell i5 ((i6+(x1.toNat*14))+11)=some (bb b59)/\R (bb (sb==b59)) p_) else (R (bb false) p_)))/\((∃BB i51,(fw.ae 22).cell i5 ((i6+(x1.toNat*14))+2)=some (sl BB i51)/\(eF=BB/\i29=i51/\0=0))/\(∃m7 i49,uC.cell i5 ((i6+(x1.toNat*14))+2)=some (sl m7 i49)/\(eF=m7/\i29=i49/\0=0))/\True)/\True) else (aA x0 λi60 i61=>∃kP,bf.cell i60 (i61+1)=some (pt kP)/\CA en F.E7 [(pt kP)] bf λCX oA=>∃yV,CX=(iI yV)/\bif (decide (yV<=(IntKind.i64.wrap (bH+1)))) then (∃b66,oA.cell i5 ((i6+(x1.toNat*14))+11)=some (bb b66)/\R (bb (sb==b66)) oA) else (R (bb false) oA))) else (∃BC,cj.cell i5 (i6+(x1.toNat*14))=some (pt BC)/\CA en F.BW [(pt BC)] cj λMT mY=>∃DK BL,MT=(.tuple #[(bb DK),(bb BL)])/\aA x0 λi72 i73=>∃ym,mY.cell i72 (i73+1)=some (pt ym)/\CA en F.E7 [(pt ym)] mY λMU gW=>∃ug,MU=(iI ug)/\bif (decide (ug>(IntKind.i64.wrap (bH+1)))) then (R (bb false) gW) else (bif DK then (∃BM,gW.cell i5 ((i6+(x1.toNat*14))+11)=some (bb BM)/\bif BM then (R (bb false) gW) else (∃Jp,gW.cell i5 ((i6+(x1.toNat*14))+13)=some (bb Jp)/\bif Jp then (R (bb false) gW) else (bif DK then (aq gW i5 ((i6+(x1.toNat*14))+11) [(bb true)] λmG=>CA en F.DS [(pt x0),(iI x1)] mG λZR rW=>∃Jq,ZR=(bb Jq)/\bif (!Jq) then (R (bb false) rW) else (bif BL then (∃pD,(rW.ae 9).cell i5 ((i6+(x1.toNat*14))+11)=some (bb pD)/\∃sf,(rW.ae 9).cell i5 ((i6+(x1.toNat*14))+13)=some (bb sf)/\(bif (pD==sf) then (R (bb false) (rW.ae 9)) else (aq (rW.ae 9) i5 (i6+(x1.toNat*14)) [(pt none)] λmZ=>∃w_,mZ.cell i5 ((i6+(x1.toNat*14))+13)=some (bb w_)/\bif w_ then (aq mZ i5 ((i6+(x1.toNat*14))+1) [(pt none)] λzG=>aq zG i5 ((i6+(x1.toNat*14))+13) [(bb false)] λrX=>∃tC,rX.cell i5 ((i6+(x1.toNat*14))+1)=some (pt tC)/\aq rX i5 ((i6+(x1.toNat*14))+11) [(bb (!tC.isNone))] λqf=>R (bb true) qf) else (∃ql,mZ.cell i5 ((i6+(x1.toNat*14))+1)=some (pt ql)/\aq mZ i5 ((i6+(x1.toNat*14))+11) [(bb (!ql.isNone))] λnP=>R (bb true) nP)))/\True) else (R (bb true) rW))) else (bif BL then (∃DL,(gW.ae 9).cell i5 ((i6+(x1.toNat*14))+11)=some (bb DL)/\∃b95,(gW.ae 9).cell i5 ((i6+(x1.toNat*14))+13)=some (bb b95)/\(bif (DL==b95) then (R (bb false) (gW.ae 9)) else (aq (gW.ae 9) i5 (i6+(x1.toNat*14)) [(pt none)] λBu=>∃b97,Bu.cell i5 ((i6+(x1.toNat*14))+13)=some (bb b97)/\bif b97 then (aq Bu i5 ((i6+(x1.toNat*14))+1) [(pt none)] λTe=>aq Te i5 ((i6+(x1.toNat*14))+13) [(bb false)] λpo=>∃IK,po.cell i5 ((i6+(x1.toNat*14))+1)=some (pt IK)/\aq po i5 ((i6+(x1.toNat*14))+11) [(bb (!IK.isNone))] λFI=>R (bb true) FI) else (∃wT,Bu.cell i5 ((i6+(x1.toNat*14))+1)=some (pt wT)/\aq Bu i5 ((i6+(x1.toNat*14))+11) [(bb (!wT.isNone))] λSX=>R (bb true) SX)))/\True) else (R (bb true) gW))))) else (bif DK then (aq gW i5 ((i6+(x1.toNat*14))+11) [(bb true)] λamT=>CA en F.DS [(pt x0),(iI x1)] amT λZH wO=>∃I7,ZH=(bb I7)/\bif (!I7) then (R (bb false) wO) else (bif BL then (∃I8,(wO.ae 9).cell i5 ((i6+(x1.toNat*14))+11)=some (bb I8)/\∃ach,(wO.ae 9).cell i5 ((i6+(x1.toNat*14))+13)=some (bb ach)/\(bif (I8==ach) then (R (bb false) (wO.ae 9)) else (aq (wO.ae 9) i5 (i6+(x1.toNat*14)) [(pt none)] λDs=>∃I9,Ds.cell i5 ((i6+(x1.toNat*14))+13)=some (bb I9)/\bif I9 then (aq Ds i5 ((i6+(x1.toNat*14))+1) [(pt none)] λamW=>aq amW i5 ((i6+(x1.toNat*14))+13) [(bb false)] λBm=>∃abo,Bm.cell i5 ((i6+(x1.toNat*14))+1)=some (pt abo)/\aq Bm i5 ((i6+(x1.toNat*14))+11) [(bb (!abo.isNone))] λwP=>R (bb true) wP) else (∃abp,Ds.cell i5 ((i6+(x1.toNat*14))+1)=some (pt abp)/\aq Ds i5 ((i6+(x1.toNat*14))+11) [(bb (!abp.isNone))] λBn=>R (bb true) Bn)))/\True) else (R (bb true) wO))) else (bif BL then (∃acn,(gW.ae 9).cell i5 ((i6+(x1.toNat*14))+11)=some (bb acn)/\∃aco,(gW.ae 9).cell i5 ((i6+(x1.toNat*14))+13)=some (bb aco)/\(bif (acn==aco) then (R (bb false) (gW.ae 9)) else (aq (gW.ae 9) i5 (i6+(x1.toNat*14)) [(pt none)] λjj=>∃BG,jj.cell i5 ((i6+(x1.toNat*14))+13)=some (bb BG)/\bif BG then (aq jj i5 ((i6+(x1.toNat*14))+1) [(pt none)] λBo=>aq Bo i5 ((i6+(x1.toNat*14))+13) [(bb false)] λDt=>∃By,Dt.cell i5 ((i6+(x1.toNat*14))+1)=some (pt By)/\aq Dt i5 ((i6+(x1.toNat*14))+11) [(bb (!By.isNone))] λamY=>R (bb true) amY) else (∃abu,jj.cell i5 ((i6+(x1.toNat*14))+1)=some (pt abu)/\aq jj i5 ((i6+(x1.toNat*14))+11) [(bb (!abu.isNone))] λFK=>R (bb true) FK)))/\True) else (R (bb true) gW))))))->
  CA en F.lR [(pt x0),(iI x1)] H R:=vk (by kernel_rfl)
theorem alH (x0:Oa)(x1:Int) :
  (aA x0 λi1 i2=>∃a3 i4,H.cell i1 (i2+7)=some (sl a3 i4)/\az x1 i4/\aV a3 λi5 i6=>∃b7,H.cell i5 ((i6+(x1.toNat*14))+11)=some (bb b7)/\bif (!b7) then (CA en F.lR [(pt x0),(iI x1)] H λv8 H9=>∃w5,v8=(bb w5)/\R (bb w5) H9) else (aq H i5 ((i6+(x1.toNat*14))+11) [(bb false)] λcj=>∃bH,(cj.ae 10).cell i5 ((i6+(x1.toNat*14))+3)=some (iI bH)/\∃iR i14,(cj.ae 10).cell i5 ((i6+(x1.toNat*14))+2)=some (sl iR i14)/\(bif (decide (bH≥(i14:Int))) then (∃dX,(cj.ae 10).cell i5 ((i6+(x1.toNat*14))+1)=some (pt dX)/\CA en F.V8 [(pt dX)] (cj.ae 10) λoX aQ=>∃de,oX=(pt de)/\aq aQ i5 (i6+(x1.toNat*14)) [(pt de)] λbf=>aq bf i5 ((i6+(x1.toNat*14))+13) [(bb true)] λbu=>∃fR,bu.cell i5 (i6+(x1.toNat*14))=some (pt fR)/\bif (!fR.isNone) then (CA en F.lR [(pt x0),(iI x1)] bu λqN aZ=>∃pC,qN=(bb pC)/\R (bb pC) aZ) else (R (bb false) bu)) else (∃fu i26,((cj.ae 10).ae 15).cell i5 ((i6+(x1.toNat*14))+2)=some (sl fu i26)/\∃jL,((cj.ae 10).ae 15).cell i5 ((i6+(x1.toNat*14))+3)=some (iI jL)/\az jL i26/\aV fu λi28 i29=>∃jf,((cj.ae 10).ae 15).cell i28 (i29+(jL.toNat*1))=some (iU jf)/\aq ((cj.ae 10).ae 15) i5 ((i6+(x1.toNat*14))+5) [(iI 1),(iU jf),s0,(iI 0),(iI 0)] λft=>(∃fZ,(ft.ae 23).cell i5 ((i6+(x1.toNat*14))+4)=some (iU fZ)/\∃jq,(ft.ae 23).cell i5 ((i6+(x1.toNat*14))+3)=some (iI jq)/\nz 64/\nn (IntKind.u64.wrap (Int.tmod jq 64))/\nz 2/\bif ((Int.tmod (Int.fdiv fZ (2 ^ (min (IntKind.u64.wrap (Int.tmod jq 64)).toNat 64))) 2)==1) then (aA x0 λi34 i35=>∃kq i37,(ft.ae 23).cell i34 i35=some (sl kq i37)/\az 0 i37/\aV kq λi38 i39=>∃fD,(ft.ae 23).cell i38 i39=some (iI fD)/\(bif (fD==4) then (aq (ft.ae 23) i5 ((i6+(x1.toNat*14))+5) [(iI 5)] λp8=>∃mI,(p8.ae 13).cell i5 ((i6+(x1.toNat*14))+1)=some (pt mI)/\∃mw,(p8.ae 13).cell i5 ((i6+(x1.toNat*14))+3)=some (iI mw)/\CA en F.V9 [(pt mI),(iI mw)] (p8.ae 13) λAW dw=>∃kN,AW=(pt kN)/\aq dw i5 (i6+(x1.toNat*14)) [(pt kN)] λDw=>(∃jW,Dw.cell i5 ((i6+(x1.toNat*14))+3)=some (iI jW)/\aq Dw i5 ((i6+(x1.toNat*14))+3) [(iI (IntKind.i64.wrap (jW+1)))] λjl=>∃BB,jl.cell i5 (i6+(x1.toNat*14))=some (pt BB)/\bif (!BB.isNone) then (CA en F.lR [(pt x0),(iI x1)] jl λFp dW=>∃b53,Fp=(bb b53)/\R (bb b53) dW) else (R (bb false) jl))/\True) else (∃tA,((ft.ae 23).ae 13).cell i5 ((i6+(x1.toNat*14))+1)=some (pt tA)/\∃xy,((ft.ae 23).ae 13).cell i5 ((i6+(x1.toNat*14))+3)=some (iI xy)/\CA en F.J4 [(pt tA),(iI xy)] ((ft.ae 23).ae 13) λAY p_=>∃tB,AY=(pt tB)/\aq p_ i5 (i6+(x1.toNat*14)) [(pt tB)] λoy=>(∃lY,oy.cell i5 ((i6+(x1.toNat*14))+3)=some (iI lY)/\aq oy i5 ((i6+(x1.toNat*14))+3) [(iI (IntKind.i64.wrap (lY+1)))] λuD=>∃kP,uD.cell i5 (i6+(x1.toNat*14))=some (pt kP)/\bif (!kP.isNone) then (CA en F.lR [(pt x0),(iI x1)] uD λCX oA=>∃Jl,CX=(bb Jl)/\R (bb Jl) oA) else (R (bb false) uD))/\True))/\True) else ((∃IU,((ft.ae 23).ae 13).cell i5 ((i6+(x1.toNat*14))+1)=some (pt IU)/\∃xD,((ft.ae 23).ae 13).cell i5 ((i6+(x1.toNat*14))+3)=some (iI xD)/\CA en F.J4 [(pt IU),(iI xD)] ((ft.ae 23).ae 13) λMT mY=>∃qi,MT=(pt qi)/\aq mY i5 (i6+(x1.toNat*14)) [(pt qi)] λH71=>(∃LO,H71.cell i5 ((i6+(x1.toNat*14))+3)=some (iI LO)/\aq H71 i5 ((i6+(x1.toNat*14))+3) [(iI (IntKind.i64.wrap (LO+1)))] λkM=>∃ym,kM.cell i5 (i6+(x1.toNat*14))=some (pt ym)/\bif (!ym.isNone) then (CA en F.lR [(pt x0),(iI x1)] kM λMU gW=>∃b77,MU=(bb b77)/\R (bb b77) gW) else (R (bb false) kM))/\True)/\True))/\True))/\True))->
  CA en F.Ga [(pt x0),(iI x1)] H R:=vk (by kernel_rfl)
theorem alF (x0:Oa)(x1 qP qQ qR:Int)(qS:Oa)(amv:Nat)(uz amw amx:Int) :
  (aC H (.cells true 0 [(iI qP),(iI qQ),(iU qR),(sl qS amv),(iI uz),(iI amw),(iU amx)]) λi1 H2=>aA x0 λi3 i4=>∃a5 i6,H2.cell i3 (i4+7)=some (sl a5 i6)/\az x1 i6/\aV a5 λi7 i8=>∃n9,H2.cell i7 ((i8+(x1.toNat*14))+12)=some (iI n9)/\bif (n9==0) then (R (bb true) H2) else (aA x0 λi10 i11=>∃bY,H2.cell i10 (i11+3)=some (pt bY)/\CA en F.V0 [(pt bY),(iI n9)] H2 λjC bt=>∃bC dy,jC=(.tuple #[(iI bC),(iI dy)])/\∃dQ,bt.cell i1 0=some (iI dQ)/\bif (dQ==1) then (aA x0 λi18 i19=>∃qh,bt.cell i18 (i19+1)=some (pt qh)/\CA en F.pV [(pt qh),(iI bC),(iI dy)] bt λAV gg=>∃lF pC,AV=(.tuple #[(iU lF),(bb pC)])/\aA x0 λi25 i26=>∃jb,(gg.ae 15).cell i25 (i26+4)=some (pt jb)/\aA x0 λi28 i29=>CA en F.OK [(pA i28 (i29+5)),(iI n9)] (gg.ae 15) λv30 ft=>∃fZ,v30=(iI fZ)/\CA en F.OH [(pt jb),(iI 1),(iI fZ)] ft λMO gi=>∃qF BH,MO=(.tuple #[(iU qF),(bb BH)])/\(bif pC then (bif BH then (R (bb (lF==qF)) gi) else (R (bb false) gi)) else (R (bb false) gi))/\((∃jm,(gg.ae 15).cell i25 (i26+4)=some (pt jm)/\jb=jm)/\(∃lq,ft.cell i25 (i26+4)=some (pt lq)/\jb=lq)/\True)/\True) else (aA x0 λi39 i40=>∃gY,(bt.ae 24).cell i39 (i40+1)=some (pt gY)/\∃kW,(bt.ae 24).cell i1 6=some (iU kW)/\CA en F.y0 [(pt gY),(iI bC),(iI dy),(iU kW)] (bt.ae 24) λxY gV=>∃DJ,xY=(bb DJ)/\bif DJ then (aA x0 λi46 i47=>∃m7,gV.cell i46 (i47+4)=some (pt m7)/\aA x0 λi49 i50=>CA en F.OK [(pA i49 (i50+5)),(iI n9)] gV λFp dW=>∃kX,Fp=(iI kX)/\∃jr,dW.cell i1 6=some (iU jr)/\CA en F.Uw [(pt m7),(iI 1),(iI kX),(iU jr)] dW λMR lN=>∃F4,MR=(bb F4)/\(R (bb F4) lN)/\((∃uc,gV.cell i1 6=some (iU uc)/\jr=uc)/\(∃pO,dW.cell i1 6=some (iU pO)/\jr=pO)/\True)/\((∃wW,gV.cell i46 (i47+4)=some (pt wW)/\m7=wW)/\(∃uG,dW.cell i46 (i47+4)=some (pt uG)/\m7=uG)/\True)/\True) else ((R (bb false) gV)/\True))))->
  CA en F.F_ [(pt x0),(iI x1),(.agg #[(iI qP),(iI qQ),(iU qR),(sl qS amv),(iI uz),(iI amw),(iU amx)])] H R:=vk (by kernel_rfl)
theorem alG (x0:Oa)(x1:Int) :
  (aA x0 λi1 i2=>∃a3 i4,H.cell i1 (i2+7)=some (sl a3 i4)/\az x1 i4/\aV a3 λi5 i6=>∃a7,H.cell i5 (i6+(x1.toNat*14))=some (pt a7)/\CA en F.V3 [(pt a7)] H λv8 H9=>∃fC cu i12 gQ cO,v8=(.agg #[(iI fC),(sl cu i12),(iU gQ),(iI cO)])/\aC H9 (.cells true 0 [(iI 0),s0,(iU 0),(iI 0)]) λi15 gC=>aq gC i15 0 [(iI fC),(sl cu i12),(iU gQ),(iI cO)] λaQ=>∃aY,aQ.cell i15 0=some (iI aY)/\bif (aY==5) then (aA x0 λi19 i20=>∃fR i22,aQ.cell i19 (i20+7)=some (sl fR i22)/\az x1 i22/\aV fR λi23 i24=>∃cc dL jb i28 gm jf,aQ.aM i23 ((i24+(x1.toNat*14))+5) 5=some [(iI cc),(iU dL),(sl jb i28),(iI gm),(iI jf)]/\CA en F.Up [(pt x0),(.agg #[(iI cc),(iU dL),(sl jb i28),(iI gm),(iI jf)])] aQ λwI bU=>∃uP,wI=(bb uP)/\R (bb uP) bU) else (aA x0 λi34 i35=>∃nC lq i38 jV fD,(aQ.ae 19).aM i15 0 4=some [(iI nC),(sl lq i38),(iU jV),(iI fD)]/\aA x0 λi41 i42=>∃mh,(aQ.ae 19).cell i41 (i42+4)=some (pt mh)/\aA x0 λi44 i45=>∃kN i47,(aQ.ae 19).cell i44 (i45+7)=some (sl kN i47)/\az x1 i47/\aV kN λi48 i49=>∃gS ub wU i53 jr xy,(aQ.ae 19).aM i48 ((i49+(x1.toNat*14))+5) 5=some [(iI gS),(iU ub),(sl wU i53),(iI jr),(iI xy)]/\CA en F.Jy [(pt mh),(iI 1),(.agg #[(iI gS),(iU ub),(sl wU i53),(iI jr),(iI xy)])] (aQ.ae 19) λAY p_=>∃pO lu i60 ue pP,AY=(.agg #[(iI pO),(sl lu i60),(iU ue),(iI pP)])/\CA en F.UA [(pA i34 (i35+5)),(.agg #[(iI nC),(sl lq i38),(iU jV),(iI fD)]),(.agg #[(iI pO),(sl lu i60),(iU ue),(iI pP)])] p_ λCX oA=>∃Jl,CX=(bb Jl)/\(bif (!Jl) then (R (bb false) oA) else (∃xH,oA.cell i15 3=some (iI xH)/\bif (decide (xH>0)) then (aA x0 λi77 i78=>∃DF i80,oA.cell i77 i78=some (sl DF i80)/\az 0 i80/\aV DF λi81 i82=>∃xI,oA.cell i81 i82=some (iI xI)/\bif (xI==4) then (aA x0 λi84 i85=>∃IX i87,(oA.ae 10).cell i84 (i85+7)=some (sl IX i87)/\∃sI,(oA.ae 10).cell i15 3=some (iI sI)/\az x1 i87/\aV IX λi89 i90=>aq (oA.ae 10) i89 ((i90+(x1.toNat*14))+12) [(iI sI)] λqf=>(∃ql i93,qf.cell i15 1=some (sl ql i93)/\CA en F.DQ [(sl ql i93)] qf λZT Iz=>ZT=undef/\R (bb true) Iz)/\True) else (∃uH i97,oA.cell i15 1=some (sl uH i97)/\CA en F.DQ [(sl uH i97)] oA λZV po=>ZV=undef/\R (bb true) po)) else (∃IK i101,oA.cell i15 1=some (sl IK i101)/\CA en F.DQ [(sl IK i101)] oA λayK SX=>ayK=undef/\R (bb true) SX)))/\((∃xG vL i73 uf LQ,(aQ.ae 19).aM i15 0 4=some [(iI xG),(sl vL i73),(iU uf),(iI LQ)]/\fv 8 (.agg #[(iI nC),(sl lq i38),(iU jV),(iI fD)]) (.agg #[(iI xG),(sl vL i73),(iU uf),(iI LQ)])=true)/\(∃CE BC i68 CF xF,p_.aM i15 0 4=some [(iI CE),(sl BC i68),(iU CF),(iI xF)]/\fv 8 (.agg #[(iI nC),(sl lq i38),(iU jV),(iI fD)]) (.agg #[(iI CE),(sl BC i68),(iU CF),(iI xF)])=true)/\True)/\True))->
  CA en F.DS [(pt x0),(iI x1)] H R:=vk (by kernel_rfl)
theorem azU (x0:Oa)(fc fe:Int)(fg:Oa)(pY:Nat)(fP jD:Int) :
  (aC H (.cells true 0 [(iI fc),(iU fe),(sl fg pY),(iI fP),(iI jD)]) λi1 H2=>aA x0 λi3 i4=>∃a5,((H2.ae 10).set (H2.next+8) (.cells true 0 [(iI 0),s0,(iU 0),(iI 0)])).cell i3 (i4+4)=some (pt a5)/\∃n6,((H2.ae 10).set (H2.next+8) (.cells true 0 [(iI 0),s0,(iU 0),(iI 0)])).cell i1 1=some (iU n6)/\CA en F.Jy [(pt a5),(iI 1),(.agg #[(iI 1),(iU n6),s0,(iI 0),(iI 0)])] ((H2.ae 10).set (H2.next+8) (.cells true 0 [(iI 0),s0,(iU 0),(iI 0)])) λv7 H8=>∃n9 gx i11 bH gQ,v7=(.agg #[(iI n9),(sl gx i11),(iU bH),(iI gQ)])/\aq H8 (H2.next+8) 0 [(iI n9),(sl gx i11),(iU bH),(iI gQ)] λbt=>(∃dQ,bt.cell i1 0=some (iI dQ)/\bif (dQ==2) then (∃aY,bt.cell i1 3=some (iI aY)/\bif (aY !=2) then (∃fi,bt.cell (H2.next+8) 0=some (iI fi)/\bif (fi==2) then (aA x0 λi20 i21=>∃fS,bt.cell i20 (i21+1)=some (pt fS)/\CA en F.RQ [(pt fS)] bt λFi bM=>∃cc,Fi=(iI cc)/\R (bb (decide (cc<8))) bM) else (R (bb false) bt)) else (R (bb false) bt)) else (R (bb false) bt))/\((∃c16,((H2.ae 10).set (H2.next+8) (.cells true 0 [(iI 0),s0,(iU 0),(iI 0)])).get (H2.next+8)=some (.cells true 0 c16)/\fv.jP 8 [(iI 0),s0,(iU 0),(iI 0)] c16=true)/\(∃c15,H8.get (H2.next+8)=some (.cells true 0 c15)/\fv.jP 8 [(iI 0),s0,(iU 0),(iI 0)] c15=true)/\True)/\True)->
  CA en F.Up [(pt x0),(.agg #[(iI fc),(iU fe),(sl fg pY),(iI fP),(iI jD)])] H R:=vk (by kernel_rfl)
noncomputable def Tv:Code:=kE Go.Proofs.Tryz.f43 0
theorem azR (kJ:Bool)(kK:Int)(nJ:Int)(nK:Int)(nL:Option Addr)(C1:Nat)(C3:Option Addr)(C4:Nat)(H:aa)(R:Value->aa->Prop) :
  (aC H (.cells true 0 [(.bool kJ),(.int .i64 kK),(.int .i64 nJ),(.int .i64 nK),(.slice nL C1 0),(.slice C3 C4 0)]) λi1 H2=>∃b3,(H2.ae 15).cell i1 0=some (.bool b3)/\∃n4,(H2.ae 15).cell i1 1=some (.int .i64 n4)/\CA en F.F9 [(.int .i64 n4),(.int .i64 64)] (H2.ae 15) λv5 H6=>∃n7,v5=(.int .i64 n7)/\∃n8,H6.cell i1 2=some (.int .i64 n8)/\CA en F.F9 [(.int .i64 n8),(.int .i64 6)] H6 λv9 eO=>∃bI,v9=(.int .i64 bI)/\nn (IntKind.u64.wrap bI)/\CA en F.UE [(.bool b3),(.int .i64 (IntKind.i64.wrap (1+n7))),(.int .i64 (IntKind.i64.wrap (1*2 ^ (min (IntKind.u64.wrap bI).toNat 64))))] eO λrN cE=>∃cI i15,rN=(.slice cI i15 0)/\aC cE (.cells true 0 [(.slice cI i15 0),(.pointer none),(.pointer none),(.pointer none),(.pointer none),(.slice none 0 0),(.slice none 0 0),(.slice none 0 0)]) λi16 aQ=>(∃lF,aQ.cell i1 3=some (.int .i64 lF)/\CA en F.F9 [(.int .i64 lF),(.int .i64 2000)] aQ λMM cR=>∃dL,MM=(.int .i64 dL)/\CA en F.RS [(.int .i64 (IntKind.i64.wrap (400+dL)))] cR λwH bN=>∃gD,wH=(.pointer gD)/\aq bN i16 1 [(.pointer gD)] λgI=>∃fz,gI.cell i16 1=some (.pointer fz)/\bif fz.isNone then (R (.pointer none) gI) else (∃mg i33,(gI.ae 12).cell i1 4=some (.slice mg i33 0)/\∃pw,(gI.ae 12).cell i16 1=some (.pointer pw)/\CA en F.Vq [(.int .i64 ((i33:Nat):Int)),(.pointer pw)] (gI.ae 12) λZN mF=>∃lq,ZN=(.pointer lq)/\aq mF i16 2 [(.pointer lq)] λtu=>(∃jn,tu.cell i16 2=some (.pointer jn)/\bif jn.isNone then (R (.pointer none) tu) else (∃rZ,(tu.ae 20).cell i16 1=some (.pointer rZ)/\∃gY,(tu.ae 20).cell i16 2=some (.pointer gY)/\∃mI i43,(tu.ae 20).cell i16 0=some (.slice mI i43 0)/\az 0 i43/\aV mI λi44 i45=>∃iA,∃gR,∃jW,∃lX,∃gS,(tu.ae 20).aM i44 i45 5=some [(.int .i64 iA),(.int .i64 gR),(.int .i64 jW),(.int .i64 lX),(.int .i64 gS)]/\CA en F.V2 [(.pointer rZ),(.pointer gY),(.agg #[(.int .i64 iA),(.int .i64 gR),(.int .i64 jW),(.int .i64 lX),(.int .i64 gS)])] (tu.ae 20) λFp dW=>∃lr,∃jr,Fp=(.tuple #[(.pointer lr),(.int .i64 jr)])/\(∃lQ i56,dW.cell i16 0=some (.slice lQ i56 0)/\CA en F.OI [(.slice lQ i56 0),(.int .i64 1)] dW λv57 lh=>∃lu,∃lY,v57=(.tuple #[(.pointer lu),(.int .i64 lY)])/\bif (jr !=0) then (R (.pointer none) lh) else (bif (lY !=0) then (R (.pointer none) lh) else (bif lr.isNone then (R (.pointer none) lh) else (aq lh i16 3 [(.pointer lr)] λuD=>aq uD i16 4 [(.pointer lu)] λFM=>∃zK i64,FM.cell i1 4=some (.slice zK i64 0)/\Q7 144 ((i64:Nat):Int) ((i64:Nat):Int)/\aC FM (.cells true 14 (fE ((i64:Nat):Int).toNat [(.pointer none),(.pointer none),(.slice none 0 0),(.int .i64 0),(.int .u64 0),(.int .i64 0),(.int .u64 0),(.slice none 0 0),(.int .i64 0),(.int .i64 0),(.int .i64 0),(.bool false),(.int .i64 0),(.bool false)])) λi65 pk=>aq pk i16 7 [(.slice (some ⟨i65,0,none⟩) ((i64:Nat):Int).toNat 0)] λuE=>LA en Tv [(.agg #[(.bool kJ),(.int .i64 kK),(.int .i64 nJ),(.int .i64 nK),(.slice nL C1 0),(.slice C3 C4 0)]),(.pointer (some ⟨i1,0,none⟩)),(.pointer none),(.pointer (some ⟨i16,0,none⟩)),(.pointer lr),(.int .i64 jr),(.pointer lu),(.int .i64 lY),(.int .i64 0),(.pointer (some ⟨i1,0,none⟩)),(.bool b3),(.pointer (some ⟨i1,1,none⟩)),(.int .i64 n4),(.int .i64 n7),(.int .i64 (IntKind.i64.wrap (1+n7))),(.pointer (some ⟨i1,2,none⟩)),(.int .i64 n8),(.int .i64 bI),(.int .u64 (IntKind.u64.wrap bI)),(.int .i64 (IntKind.i64.wrap (1*2 ^ (min (IntKind.u64.wrap bI).toNat 64)))),(.slice cI i15 0),(.agg #[(.slice cI i15 0),(.pointer none),(.pointer none),(.pointer none),(.pointer none),(.slice none 0 0),(.slice none 0 0),(.slice none 0 0)]),(.pointer (some ⟨i16,0,none⟩)),(.pointer (some ⟨i16,0,none⟩)),(.pointer (some ⟨i1,3,none⟩)),(.int .i64 lF),(.int .i64 dL),(.int .i64 (IntKind.i64.wrap (400+dL))),(.pointer gD),(.pointer (some ⟨i16,0,none⟩)),(.pointer (some ⟨i16,1,none⟩)),(.pointer (some ⟨i16,0,none⟩)),(.pointer (some ⟨i16,0,none⟩)),(.pointer (some ⟨i16,1,none⟩)),(.pointer fz),(.bool false),(.pointer (some ⟨i16,0,none⟩)),(.pointer (some ⟨i1,4,none⟩)),(.slice mg i33 0),(.int .i64 ((i33:Nat):Int)),(.pointer (some ⟨i16,0,none⟩)),(.pointer (some ⟨i16,0,none⟩)),(.pointer (some ⟨i16,1,none⟩)),(.pointer pw),(.pointer lq),(.pointer (some ⟨i16,0,none⟩)),(.pointer (some ⟨i16,2,none⟩)),(.pointer (some ⟨i16,0,none⟩)),(.pointer (some ⟨i16,0,none⟩)),(.pointer (some ⟨i16,2,none⟩)),(.pointer jn),(.bool false),(.tuple #[(.pointer lr),(.int .i64 jr)]),(.pointer (some ⟨i16,0,none⟩)),(.pointer (some ⟨i16,0,none⟩)),(.pointer (some ⟨i16,1,none⟩)),(.pointer rZ),(.pointer (some ⟨i16,0,none⟩)),(.pointer (some ⟨i16,0,none⟩)),(.pointer (some ⟨i16,2,none⟩)),(.pointer gY),(.pointer (some ⟨i16,0,none⟩)),(.pointer (some ⟨i16,0,none⟩)),(.pointer (some ⟨i16,0,none⟩)),(.slice mI i43 0),(.pointer (some ⟨i44,i45,none⟩)),(.agg #[(.int .i64 iA),(.int .i64 gR),(.int .i64 jW),(.int .i64 lX),(.int .i64 gS)]),(.tuple #[(.pointer lr),(.int .i64 jr)]),(.pointer lr),(.int .i64 jr),(.tuple #[(.pointer lu),(.int .i64 lY)]),(.pointer (some ⟨i16,0,none⟩)),(.pointer (some ⟨i16,0,none⟩)),(.pointer (some ⟨i16,0,none⟩)),(.slice lQ i56 0),(.tuple #[(.pointer lu),(.int .i64 lY)]),(.pointer lu),(.int .i64 lY),(.int .i64 jr),(.bool (jr !=0)),(.bool false),(.int .i64 lY),(.bool (lY !=0)),(.bool (lY !=0)),(.bool false),(.pointer lr),(.bool lr.isNone),(.bool false),(.pointer (some ⟨i16,0,none⟩)),(.pointer lr),(.pointer (some ⟨i16,0,none⟩)),(.pointer (some ⟨i16,3,none⟩)),(.pointer (some ⟨i16,0,none⟩)),(.pointer lu),(.pointer (some ⟨i16,0,none⟩)),(.pointer (some ⟨i16,4,none⟩)),(.pointer (some ⟨i16,0,none⟩)),(.pointer (some ⟨i1,4,none⟩)),(.slice zK i64 0),(.int .i64 ((i64:Nat):Int)),(.slice (some ⟨i65,0,none⟩) ((i64:Nat):Int).toNat 0),(.pointer (some ⟨i16,0,none⟩)),(.pointer (some ⟨i16,7,none⟩)),undef,undef,undef,undef,undef,undef,undef,undef,undef,undef,undef,undef,undef,undef,undef,undef,undef] uE [(X.exit 0,λ(y68:Fr)(mY:aa)=>zP (y68.getD 2 undef) λqi=>R (.pointer (some ⟨i16,0,none⟩)) mY),(X.ret,λ(y71:Fr)(wQ:aa)=>zP (y71.getD 2 undef) λNZ=>R (.pointer NZ) wQ)]))))/\True))/\True))/\((∃fi,(H2.ae 15).cell i1 2=some (.int .i64 fi)/\n8=fi)/\(∃aY,H6.cell i1 2=some (.int .i64 aY)/\n8=aY)/\True)/\(((IntKind.i64.wrap (1+n7))=(IntKind.i64.wrap (1+n7)))/\((IntKind.i64.wrap (1+n7))=(IntKind.i64.wrap (1+n7)))/\True)/\((∃q9,(H2.ae 15).cell i1 0=some (.bool q9)/\b3=q9)/\(∃sb,H6.cell i1 0=some (.bool sb)/\b3=sb)/\(∃nS,eO.cell i1 0=some (.bool nS)/\b3=nS)/\True)/\True)->
  CA en F.Um [(.agg #[(.bool kJ),(.int .i64 kK),(.int .i64 nJ),(.int .i64 nK),(.slice nL C1 0),(.slice C3 C4 0)])] H R:=by
 intro h;refine amn (Z:=[[(2,(.pointer none))]]) (fn:=Go.Proofs.Tryz.f43) ?_ ?_ ?_
 ·kernel_rfl
 ·kernel_rfl
 ·apply bL h
  kernel_rfl
theorem ayr {t0 t1 t4 t5 t6 t7 t9 t10 t11 t12 t13 t14 t15 t16 t17 t18 t19 t20 t21 t22 t23 t24 t25 t26 t27 t28 t29 t30 t31 t32 t33 t34 t35 t36 t37 t38 t39 t40 t41 t42 t43 t44 t45 t46 t47 t48 t49 t50 t51 t52 t53 t54 t55 t56 t57 t58 t59 t60 t61 t62 t63 t64 t65 t66 t67 t68 t69 t70 t71 t72 t73 t74 t75 t76 t77 t78 t79 t80 t81 t82 t83 t84 t85 t86 t87 t88 t89 t90 t91 t92 t93 t94 t95 t96 t97 t98 t99 t100 t101 t102:Value}{t3:Nat}{K0 K1:FH}{t2:Oa}{t8:Int}{t103 t104 t105 t106 t107 t108 t109 t110 t111 t112 t113 t114 t115 t116 t117 t118:Value}{H:aa}(I:Nat->Oa->Int->aa->Prop)(n:Nat)(h0:I n t2 t8 H)
  (cY:∀(n:Nat)(t2:Oa)(t8:Int)(ys:Fr)(H:aa),I n t2 t8 H->
  (∃a1 i2,H.cell t3 7=some (sl a1 i2)/\bif (decide (t8<(i2:Int))) then (∃a3,H.cell t3 2=some (pt a3)/\CA en F.Pf [(pt a3),(iI t8)] H λv4 H5=>∃b6,v4=(bb b6)/\bif (!b6) then (K1 [t0,t1,(pt none),(pt (ad t3)),t4,t5,t6,t7,(iI t8),t9,t10,t11,t12,t13,t14,t15,t16,t17,t18,t19,t20,t21,t22,t23,t24,t25,t26,t27,t28,t29,t30,t31,t32,t33,t34,t35,t36,t37,t38,t39,t40,t41,t42,t43,t44,t45,t46,t47,t48,t49,t50,t51,t52,t53,t54,t55,t56,t57,t58,t59,t60,t61,t62,t63,t64,t65,t66,t67,t68,t69,t70,t71,t72,t73,t74,t75,t76,t77,t78,t79,t80,t81,t82,t83,t84,t85,t86,t87,t88,t89,t90,t91,t92,t93,t94,t95,t96,t97,t98,t99,t100,t101,t102,(iI t8),(pt (ad t3)),(pt (ad t3)),(pA t3 7),(sl a1 i2),(iI (i2:Int)),(bb true),(gd ys 110),(gd ys 111),(pt (ad t3)),(pt (ad t3)),(pA t3 2),(pt a3),(iI t8),(bb b6),(bb true),ud] H5) else (∃k7,k7<n/\I k7 t2 (IntKind.i64.wrap (t8+1)) H5)) else (K0 ([t0,t1,(pt t2),(pt (ad t3)),t4,t5,t6,t7,(iI t8),t9,t10,t11,t12,t13,t14,t15,t16,t17,t18,t19,t20,t21,t22,t23,t24,t25,t26,t27,t28,t29,t30,t31,t32,t33,t34,t35,t36,t37,t38,t39,t40,t41,t42,t43,t44,t45,t46,t47,t48,t49,t50,t51,t52,t53,t54,t55,t56,t57,t58,t59,t60,t61,t62,t63,t64,t65,t66,t67,t68,t69,t70,t71,t72,t73,t74,t75,t76,t77,t78,t79,t80,t81,t82,t83,t84,t85,t86,t87,t88,t89,t90,t91,t92,t93,t94,t95,t96,t97,t98,t99,t100,t101,t102,(iI t8),(pt (ad t3)),(pt (ad t3)),(pA t3 7),(sl a1 i2),(iI (i2:Int)),(bb false)]++gs ys 110 9++[ud]) H))) :
  LA en Tv [t0,t1,(pt t2),(pt (ad t3)),t4,t5,t6,t7,(iI t8),t9,t10,t11,t12,t13,t14,t15,t16,t17,t18,t19,t20,t21,t22,t23,t24,t25,t26,t27,t28,t29,t30,t31,t32,t33,t34,t35,t36,t37,t38,t39,t40,t41,t42,t43,t44,t45,t46,t47,t48,t49,t50,t51,t52,t53,t54,t55,t56,t57,t58,t59,t60,t61,t62,t63,t64,t65,t66,t67,t68,t69,t70,t71,t72,t73,t74,t75,t76,t77,t78,t79,t80,t81,t82,t83,t84,t85,t86,t87,t88,t89,t90,t91,t92,t93,t94,t95,t96,t97,t98,t99,t100,t101,t102,t103,t104,t105,t106,t107,t108,t109,t110,t111,t112,t113,t114,t115,t116,t117,t118,ud] H [(X.exit 0,K0),(X.ret,K1)]:=by
 refine ko (Z:=[]) (λm xs H'=>zP (xs.getD 2 undef) λt2=>AS.asInt .i64 (xs.getD 8 undef) λt8=>I m t2 t8 H') ?_ n H ?_
 ·intro n H
  suffices hs:∀Yv Yw Yx Yy Yz YA YB YE YF YG YH YI YJ YK s2 YC YD s8:Value,((zP s2 λt2=>AS.asInt .i64 s8 λt8=>I n t2 t8 H)->gr en Tv [] [t0,t1,s2,(pt (ad t3)),t4,t5,t6,t7,s8,t9,t10,t11,t12,t13,t14,t15,t16,t17,t18,t19,t20,t21,t22,t23,t24,t25,t26,t27,t28,t29,t30,t31,t32,t33,t34,t35,t36,t37,t38,t39,t40,t41,t42,t43,t44,t45,t46,t47,t48,t49,t50,t51,t52,t53,t54,t55,t56,t57,t58,t59,t60,t61,t62,t63,t64,t65,t66,t67,t68,t69,t70,t71,t72,t73,t74,t75,t76,t77,t78,t79,t80,t81,t82,t83,t84,t85,t86,t87,t88,t89,t90,t91,t92,t93,t94,t95,t96,t97,t98,t99,t100,t101,t102,Yv,Yw,Yx,Yy,Yz,YA,YB,YC,YD,YE,YF,YG,YH,YI,YJ,YK,ud] H (kh (λm xs H'=>zP (xs.getD 2 undef) λt2=>AS.asInt .i64 (xs.getD 8 undef) λt8=>I m t2 t8 H') n [(X.exit 0,K0),(X.ret,K1)])) by
   apply bL hs
   kernel_rfl
  intro Yv Yw Yx Yy Yz YA YB YE YF YG YH YI YJ YK s2 YC YD s8 hP;replace hP:=T7 hP;obtain ⟨t2,rfl,hP⟩:=hP;replace hP:=gF hP;obtain ⟨t8,rfl,hP⟩:=hP;apply bL (cY n t2 t8 [t0,t1,(pt t2),(pt (ad t3)),t4,t5,t6,t7,(iI t8),t9,t10,t11,t12,t13,t14,t15,t16,t17,t18,t19,t20,t21,t22,t23,t24,t25,t26,t27,t28,t29,t30,t31,t32,t33,t34,t35,t36,t37,t38,t39,t40,t41,t42,t43,t44,t45,t46,t47,t48,t49,t50,t51,t52,t53,t54,t55,t56,t57,t58,t59,t60,t61,t62,t63,t64,t65,t66,t67,t68,t69,t70,t71,t72,t73,t74,t75,t76,t77,t78,t79,t80,t81,t82,t83,t84,t85,t86,t87,t88,t89,t90,t91,t92,t93,t94,t95,t96,t97,t98,t99,t100,t101,t102,Yv,Yw,Yx,Yy,Yz,YA,YB,YC,YD,YE,YF,YG,YH,YI,YJ,YK,ud] H hP);kernel_rfl
 ·apply bL h0
  kernel_rfl
end
section
variable {H H' H0:aa} {R:Value->aa->Prop} {L T:List ax} {c:Lc} {q:Qr} {X:Gx} {d:Dk} {D D':Dm} {es hl:List Int} {b:Pb} {z:Pz} {m:My} {k:Nat}
structure Ka where
 run:Option Addr
 cg:Option Addr
 kg:Option Addr
 kn:Nat
 gone:Int
 bits:Wd
 kind:Int
 key:Wd
 va:Option Addr
 vn:Nat
 fl:Int
 cp:Int
 aP:Nat
 cq:Bool
 elem:Int
 leave:Bool
abbrev Ka.cells (k:Ka):List Value:=[.pointer k.run,.pointer k.cg,.slice k.kg k.kn 0,I k.gone,W k.bits,I k.kind,W k.key,.slice k.va k.vn 0,I k.fl,I k.cp,I k.aP,.bool k.cq,I k.elem,.bool k.leave]
theorem bT (Ks:List Ka):∀c∈Ks.map Ka.cells,c.length=14:=by
 intro c hc;obtain ⟨v,_,rfl⟩:=cL.1 hc;rfl
theorem W4 {Ks:List Ka}{k:Nat}{x:Ka}(h:Ks[k]? =some x):(Ks.map Ka.cells).set k x.cells=Ks.map Ka.cells:=by
 refine RN ?_;rw [jg,h];rfl
abbrev dx (b:Pb)(Ks:List Ka)(k:Nat)(a:Ka):ax:=bx b.ab (.cells true 14 ((Ks.map Ka.cells).set k a.cells).flatten)
abbrev dP (b:Pb)(d:Dk):ax:=bx b.li (.cells true 5 (flat (BP d)))
abbrev bF (b:Pb)(z:Pz)(Ks:List Ka)(k:Nat)(a:Ka)(m:My)(d:Dk)(D:Dm)(c:Lc)(X:Gx)(T:List ax):List ax:=
 dm b z::cV z::cW z::dx b Ks k a::dP b d::cZ m d D (xA c::aR c.g c.m X::T)
structure lP (b:Pb)(m:My)(c:Lc)(Ks:List Ka):Prop where
 sm:b.m=c.m
 sg:b.g=c.g
 sx:b.x=c.x
 sd:b.mx=m.mx
 na:Ks.length=b.na
theorem UL {ok:Int}(h:ok∈(d_ d.kd).tH)(h2:ok≠2):tz d ok 0 []:=⟨h,λe=>absurd e h2,by unfold zU;rw [an h2];split<;>simp⟩
theorem aeO (k:d.Ok):(1:Int)∈(d_ d.kd).tH:=by rcases k.k2 with e|e<;>rw [e]<;>decide
theorem axG {Ks:List Ka}{a:Ka}{key:Wd}{fl cp:Int}{va:Option Addr}{vn:Nat}(s:lP b m c Ks)(kk:d.Ok)(o:D.Ok d)(hv:D.vs.length<1000000000)(h:Sep H (bF b z Ks k a m d D c X T))(hm:old H0∈T)(mM:fl≠2)(tM:∀x∈D.es,x.k≠key)(lB:X.G.S.room<8)
  (hR:∀H',Sep H' (bF b z Ks k a m d D c X T)->R (.bool true) H'):CA en F.Up [P b.p,.agg #[I 2,W key,.slice va vn 0,I fl,I cp]] H R:=by
 apply azU;refine Sep.nw h λi1 H2 h2=>?_
 have hp:=h2.yA (n:=10) (a:=8) (.cells true 0 [I 0,.slice none 0 0,W 0,I 0]) (by decide);generalize H2.next+8=ir at hp⊢;refine af ⟨_,Sep.eK hp rfl,_,Sep.bn hp rfl,?_⟩;have h5:=Sep.pick hp 17 [7,8,9,10,11,12,13,14,0,1,2,3,4,5,6,15,16];rw [s.sd];refine We (H0:=H0) (val:=[]) kk o hv h5 (by simp [hm]) (λ_ _ H' _ j w hw=>by simp at hw) rfl (by decide) (λ_ H8 no rv rk el D' g hd _ hg h8=>⟨_,_,_,_,_,rfl,?_⟩) λhn=>absurd (UL (aeO kk) (by decide)) hn
 have e8:no=2/\D'=D:=by
  cases hd with
  |uo f1 f2 f3=>omega
  |um f1 f2 f3=>exact ⟨rfl,rfl⟩
  |oq f1 f2 f3 f4=>omega
  |set f1 f2 f3 f4=>omega
  |full f1 f2 f3 f4=>omega
  |lay f1 f2 f3 f4=>omega
  |look f1 f2 f3=>exact absurd f3 (tM _ (dF f2))
  |take f1 f2 f3=>omega
  |del f1 f2 f3 f4 f5 f6=>omega
  |om f1 f2=>omega
  |next f1 f2 f3 f4=>omega
 obtain ⟨rfl,rfl⟩:=e8;have h9:=Sep.pick h8 18 [9,10,11,12,13,14,15,1,2,3,4,5,6,7,8,16,17];refine Sep.dp h9 (aS rfl) λbt ig=>⟨?_,⟨⟨_,Sep.gL hp,rfl⟩,⟨_,Sep.gL h9,rfl⟩,trivial⟩,trivial⟩
 refine ⟨_,Sep.bn ig rfl,cm rfl ⟨_,Sep.bn ig rfl,cm (by rw [zi];exact mM) ⟨_,Sep.aG ig rfl,cm rfl (af ⟨_,Sep.eK ig rfl,?_⟩)⟩⟩⟩;have sr:=Sep.pick ig 17 [16,0,1,2,3,4,5,6,7,8,9,10,11,12,13,14,15];rw [s.sm];refine aw0 (qu sr) ⟨_,rfl,?_⟩;rw [x8 lB];exact hR bt (Sep.pick ig 17 [2,3,4,5,6,7,8,9,10,11,12,13,14,15,16])
theorem aql {h:Int}(hs:Sep H (xA c::L))(h4:c.d0=4)(hh:1<=h)(hR:R (.tuple #[I h,I 2]) H):CA en F.V0 [P c.x,I h] H R:=by
 apply aAH;exact af ⟨_,Sep.aG hs rfl,bl (by rw [h4];rfl) (bl (by rw [jF];omega) hR)⟩
def pq (d:Dk)(es:List Int)(ps:List (Int×Int)):Prop:=∀q∈ps,(d.kd=4/\∃j:Nat,q.2=((j+1:Nat):Int)/\es[j]? =some q.1/\1<=q.1)∨(d.kd=10/\q.1=q.2)
theorem pq.fn {ps:List (Int×Int)}(h:pq d es ps)(hn:es.Nodup){a v:Int}(hm:(a,v)∈ps):∀q∈ps,q.1=a->q.2=v:=λq hq e=>by
 rcases h _ hm with ⟨k4,j,g1,g2,_⟩|⟨jS,g1⟩
 ·rcases h q hq with ⟨_,j',g3,g4,_⟩|⟨jS,_⟩
  ·rw [e] at g4
   have:=LV hn g4 g2
   subst this
   rw [g3];exact g1.symm
  ·omega
 ·rcases h q hq with ⟨k4,_⟩|⟨_,g2⟩
  ·omega
  ·have g1:a=v:=g1
   rw [<-g2,e,g1]
theorem aqO {Ks:List Ka}{a:Ka}{todo dk df dc:Int}{UJ v:Wd}{da:Option Addr}{dn:Nat}(s:lP b m c Ks)(h:Sep H (bF b z Ks k a m d D c X T))(hk:k<Ks.length)(he:a.elem=0)
  (hR:∀H',Sep H' (bF b z Ks k a m d D c X T)->R (.bool true) H'):CA en F.F_ [P b.p,I k,.agg #[I todo,I dk,W UJ,.slice da dn 0,I df,I dc,W v]] H R:=by
 apply alF;have na:=s.na;refine Sep.nw h λi1 H2 h2=>af ⟨_,_,Sep.bn h2 rfl,by unfold az;omega,bG ⟨_,by rw [dr];exact fk (o:=12) h2 4 rfl (bT Ks) rfl (by rw [gb];exact hk) rfl,cm (by rw [he];rfl) (hR H2 (Sep.uu h2))⟩⟩
set_option maxHeartbeats 4000000 in
theorem aqP {Ks:List Ka}{a:Ka}{todo dk df dc:Int}{UJ v w:Wd}{da:Option Addr}{dn j:Nat}(s:lP b m c Ks)(o:D.Ok d)(oz:z.Ok)(h:Sep H (bF b z Ks k a m d D c X T))(hk:k<Ks.length)(ht:todo=1∨todo=2)(h4:c.d0=4)(he:1<=a.elem)
  (hm:(a.elem,((j+1:Nat):Int))∈z.ps)(hu:∀q∈z.ps,q.1=a.elem->q.2=((j+1:Nat):Int))(hw:D.vs[j]? =some w)(hl:(X.G.S.acc a.elem 2 true id).1=(w,true))(cB:(X.G.S.acc a.elem 2 true λ_=>v).1.2=true)
  (sw:∀H',Sep H' (bF b z Ks k a m d D c (X.to (X.G.S.acc a.elem 2 true id).2) T)->R (.bool true) H')
  (mq:∀H',Sep H' (bF b z Ks k a m d {D with vs:=D.vs.set j v} c (X.to (X.G.S.acc a.elem 2 true λ_=>v).2) T)->R (.bool true) H') :
  CA en F.F_ [P b.p,I k,.agg #[I todo,I dk,W UJ,.slice da dn 0,I df,I dc,W v]] H R:=by
 apply alF;have na:=s.na;refine Sep.nw h λi1 H2 h2=>af ⟨_,_,Sep.bn h2 rfl,by unfold az;omega,bG ⟨_,by rw [dr];exact fk (o:=12) h2 4 rfl (bT Ks) rfl (by rw [gb];exact hk) rfl,bl (by rw [mc];show a.elem≠0;omega) (af ⟨_,Sep.bn h2 rfl,?_⟩)⟩⟩
 have h3:=Sep.pick h2 16 [14,15,0,1,2,3,4,5,6,7,8,9,10,11,12,13];rw [s.sx];refine aql h3 h4 he ⟨_,_,rfl,_,Sep.aG h2 rfl,?_⟩;have g2:=Sep.pick h2 16 [15,0,1,2,3,4,5,6,7,8,9,10,11,12,13,14];refine aI (λz1=>?_) λz1=>?_
 ·refine af ⟨_,Sep.bn h2 rfl,?_⟩;rw [s.sm];refine Gt g2 λgg j_=>?_
  rw [hl];have hB:=j_.ae 15;have ka:=Sep.pick hB 16 [2,3,4,5,6,7,8,9,10,11,12,13,14,15,0,1];refine ⟨_,_,rfl,af ⟨_,Sep.aG ka rfl,af (aj6 oz ka hm hu ⟨_,rfl,?_⟩)⟩⟩;have VI:=Sep.pick ka 16 [5,6,7,8,9,10,11,12,0,1,2,3,4,13,14,15];rw [s.sd];refine agH (m:=m) o VI hw ⟨_,_,rfl,cm rfl (cm rfl ?_),⟨⟨_,Sep.aG ka rfl,by rw [s.sd]⟩,⟨_,Sep.aG ka rfl,by rw [s.sd]⟩,trivial⟩,trivial⟩;have e1:(((w.toNat:Int))==(w.toNat:Int))=true:=by simp
  rw [e1];exact sw _ (Sep.pick ka 16 [0,1,2,3,4,5,6,7,8,9,10,11,12,13,14])
 ·have gB:=g2.ae 24;have hB:=h2.ae 24;refine af ⟨_,Sep.bn hB rfl,_,Sep.aG hB rfl,?_⟩;rw [s.sm];refine Vu gB λgV Ed=>⟨_,rfl,cm cB ?_⟩
  have ka:=Sep.pick Ed 16 [2,3,4,5,6,7,8,9,10,11,12,13,14,15,0,1];refine af ⟨_,Sep.aG ka rfl,af (aj6 oz ka hm hu ⟨_,rfl,_,Sep.ld ka 15 rfl rfl,?_⟩)⟩;have VI:=Sep.pick ka 16 [5,6,7,8,9,10,11,12,0,1,2,3,4,13,14,15];rw [s.sd];refine at0 (m:=m) o VI (bJ.1 hw).1 λlN VA=>⟨_,rfl,mq lN (Sep.pick VA 16 [8,9,10,11,12,0,1,2,3,4,5,6,7,13,14]),⟨⟨_,Sep.ld ka 15 rfl rfl,rfl⟩,⟨_,Sep.ld ka 15 rfl rfl,rfl⟩,trivial⟩,⟨⟨_,Sep.aG ka rfl,by rw [s.sd]⟩,⟨_,Sep.aG ka rfl,by rw [s.sd]⟩,trivial⟩,trivial⟩
end
section
variable {H H' H0:aa} {R:Value->aa->Prop} {L T:List ax} {c:Lc} {q:Qr} {X:Gx} {d:Dk} {D D':Dm} {es:List Int} {b:Pb} {z:Pz} {m:My} {k:Nat}
abbrev Ka.el (a:Ka)(d:Dk)(e:Int):Ka:=if 0<e/\d.kd=4 then {a with elem:=e} else a
set_option maxHeartbeats 8000000 in
theorem aeW {Ks:List Ka}{a:Ka}{Rr:Hr}{val:List Wd}{Post:Dm->Int->Prop}(s:lP b m c Ks)(kk:d.Ok)(o:D.Ok d)(hv:D.vs.length<1000000000)(oz:z.Ok)(QD:z.ps.length<1000000000)(hk:k<Ks.length)(cF:Rr.ok)(hm:old H0∈T)
  (h:Sep H (bF b z Ks k a m d D c X (dO c Rr::T)))(fB:a.run=some ⟨Rr.r,0,none⟩)(fW:Rr.q.no≠5)(ra:∀L,old H0∈L->lO L a.va val)(tW:a.vn=val.length)(xp:val.length<=8)(KD:tz d a.kind a.fl val)(lU:Rr.q.rv.length<1000)
  (JX:∀no rv rk el D',iQ d D a.kind a.key a.fl (val.getD 0 0) no rv rk el D'->D'.Ok d->Rr.q.no=no/\Rr.q.rv=rv/\Rr.q.rk=rk/\(Rr.q.el=0↔el=0)/\(∀q∈z.ps,q.1=Rr.q.el↔q.2=el)/\Post D' el)
  (hR:∀H' D' z' gK el,Post D' el->D'.Ok d->z'.Ok->(z'=z∨(Rr.q.el≠0/\z'.ps=z.ps++[(Rr.q.el,el)]))->(Rr.q.el≠0->(Rr.q.el,el)∈z'.ps)->gK.ok->gK.r=Rr.r->gK.q=Rr.q->Sep H' (bF b z' Ks k (a.el d Rr.q.el) m d D' c X (dO c gK::T))->R (.bool true) H') :
  CA en F.DS [P b.p,I k] H R:=by
 apply alG;have na:=s.na;have hlen:(Ks.map Ka.cells).length=Ks.length:=gb ..;have tQ:az (k:Int) b.na:=by unfold az;omega
 refine af ⟨_,_,Sep.aG h rfl,tQ,bG ⟨_,by rw [dr];exact EP h 3 rfl (bT Ks) rfl (by rw [hlen];exact hk) rfl,?_⟩⟩;rw [fB];have h1:AS.Sep H (dO c Rr::xA c::aR c.g c.m X::dm b z::cV z::cW z::dx b Ks k a::dP b d::cZ m d D T):=Sep.pick h 16 [15,13,14,0,1,2,3,4,5,6,7,8,9,10,11,12];refine akK (Hr.rk cF h1) λH9 g hg h9=>⟨_,_,_,_,_,rfl,?_⟩
 have⟨gK,gz,er,eq,eI⟩:=h9.hr;have eI:AS.Sep H9 (dO c gK::xA c::aR c.g c.m X::gl 1 g (bS Rr.q.rv)::dm b z::cV z::cW z::dx b Ks k a::dP b d::cZ m d D T):=eI;refine Sep.nw eI λi15 gC iJ=>Sep.dp iJ (aS rfl) λaQ g_=>⟨_,Sep.aG g_ rfl,bl (by rw [mc];exact fW) ?_⟩
 have hB:=g_.ae 19;have hB:AS.Sep (aQ.ae 19) (bx i15 (.cells true 0 [I Rr.q.no,.slice (addr g) Rr.q.rv.length 0,W Rr.q.rk,I Rr.q.el])::dO c gK::xA c::aR c.g c.m X::gl 1 g (bS Rr.q.rv)::dm b z::cV z::cW z::dx b Ks k a::dP b d::cZ m d D T):=hB;refine af ⟨_,_,_,_,_,Sep.jK hB rfl,af ⟨_,Sep.iL hB rfl,af ⟨_,_,Sep.iL hB rfl,tQ,bG ⟨_,_,_,_,_,_,by rw [dr];exact Ym (o:=5) (n:=5) hB 8 rfl (bT Ks) rfl (by rw [hlen];exact hk) rfl,?_⟩⟩⟩⟩;have pJ:AS.Sep (aQ.ae 19) (cZ m d D (dm b z::cV z::cW z::dx b Ks k a::dP b d::bx i15 (.cells true 0 [I Rr.q.no,.slice (addr g) Rr.q.rv.length 0,W Rr.q.rk,I Rr.q.el])::dO c gK::xA c::aR c.g c.m X::gl 1 g (bS Rr.q.rv)::T)):=Sep.pick hB 18 [10,11,12,13,14,15,16,17,5,6,7,8,9,0,1,2,3,4];rw [s.sd];refine We (H0:=H0) (val:=val) kk o hv pJ (by simp [hm]) ra tW xp (λ_ p_ no rv rk el D' g2 hd lZ sC h57=>⟨_,_,_,_,_,rfl,?_⟩) λhn=>absurd KD hn
 have⟨e1,e2,e3,e4,e5,atK⟩:=JX no rv rk el D' hd lZ;subst e1 e2 e3;have vX:AS.Sep p_ (dm b z::cV z::cW z::gl 1 g (bS Rr.q.rv)::gl 1 g2 (bS Rr.q.rv)::bx i15 (.cells true 0 [I Rr.q.no,.slice (addr g) Rr.q.rv.length 0,W Rr.q.rk,I Rr.q.el])::dO c gK::dx b Ks k a::dP b d::cZ m d D' (xA c::aR c.g c.m X::T)):=Sep.pick h57 19 [9,10,11,18,0,14,15,12,13,1,2,3,4,5,6,7,8,16,17];refine ao_ oz QD vX (HE (q:=g) (by simp) hg) (HE (q:=g2) (by simp) sC) lU e4 e5 λoA z' oz' hz Kx Gw=>⟨_,rfl,⟨bl rfl ⟨_,Sep.iL Gw rfl,?_⟩,⟨⟨_,_,_,_,_,Sep.jK hB rfl,by simp [fv,fv.jP]⟩,⟨_,_,_,_,_,Sep.QO vX rfl,by simp [fv,fv.jP]⟩,trivial⟩,trivial⟩⟩
 have fin:∀{H:aa}{a':Ka},a'=a.el d Rr.q.el->AS.Sep H (dm b z'::cV z'::cW z'::gl 1 g (bS Rr.q.rv)::gl 1 g2 (bS Rr.q.rv)::bx i15 (.cells true 0 [I Rr.q.no,.slice (addr g) Rr.q.rv.length 0,W Rr.q.rk,I Rr.q.el])::dO c gK::dx b Ks k a'::dP b d::cZ m d D' (xA c::aR c.g c.m X::T))->
   ∃ql i93,H.cell i15 1=some (.slice ql i93 0)/\CA en F.DQ [(.slice ql i93 0)] H λZT Iz=>ZT=undef/\R (.bool true) Iz:=λ{H a'} ea hs=>by
  refine ⟨_,_,Sep.iL hs rfl,aa4 rfl (by omega) hg (Sep.k_ hs) λIz h95=>⟨rfl,?_⟩⟩;subst ea;exact hR Iz D' z' gK el atK lZ oz' hz Kx gz er eq (Sep.pick h95 18 [0,1,2,6,7,8,9,10,11,12,13,14,15,16,17,5])
 refine aI (λzp=>?_) λzp=>?_
 ·have zp:0<Rr.q.el:=ga zp;have Kw:oA.cell b.li 0=some (I d.kd):=Sep.ld8 Gw rfl;refine af ⟨_,_,Sep.aG Gw rfl,⟨by decide,by decide⟩,bG ⟨_,Kw,aI (λz4=>?_) λz4=>?_⟩⟩
  ·have z4:d.kd=4:=by simpa using z4
   have hC:=Gw.ae 10;refine af ⟨_,_,Sep.aG hC rfl,_,Sep.iL hC rfl,tQ,bG ?_⟩;rw [dr];refine kI (o:=12) (vs:=[I Rr.q.el]) hC 7 rfl (bT Ks) rfl (by rw [hlen];exact hk) (by show 12+1<=14;decide) λqf VG=>⟨?_,trivial⟩
   exact fin (a':={a with elem:=Rr.q.el}) (ar ⟨zp,z4⟩).symm VG
  ·have z4:d.kd≠4:=by simpa using z4
   exact fin (a':=a) (an λhh=>z4 hh.2).symm Gw
 ·have zp:¬0<Rr.q.el:=fQ zp;exact fin (a':=a) (an λhh=>zp hh.1).symm Gw
set_option maxHeartbeats 8000000 in
theorem aq3 {Ks:List Ka}{a:Ka}{Rr:Hr}(s:lP b m c Ks)(kk:d.Ok)(o:D.Ok d)(hv:D.vs.length<1000000000)(hk:k<Ks.length)(cF:Rr.ok)(hm:old H0∈T)
  (h:Sep H (bF b z Ks k a m d D c X (dO c Rr::T)))(fB:a.run=some ⟨Rr.r,0,none⟩)(fW:Rr.q.no=5)(Wo:a.kind=2)(mM:a.fl≠2)(tM:∀x∈D.es,x.k≠a.key)(lB:X.G.S.room<8)
  (hR:∀H' gK,gK.ok->gK.r=Rr.r->gK.q=Rr.q->Sep H' (bF b z Ks k a m d D c X (dO c gK::T))->R (.bool true) H') :
  CA en F.DS [P b.p,I k] H R:=by
 apply alG;have na:=s.na;have hlen:(Ks.map Ka.cells).length=Ks.length:=gb ..;have tQ:az (k:Int) b.na:=by unfold az;omega
 refine af ⟨_,_,Sep.aG h rfl,tQ,bG ⟨_,by rw [dr];exact EP h 3 rfl (bT Ks) rfl (by rw [hlen];exact hk) rfl,?_⟩⟩;rw [fB];have h1:AS.Sep H (dO c Rr::xA c::aR c.g c.m X::dm b z::cV z::cW z::dx b Ks k a::dP b d::cZ m d D T):=Sep.pick h 16 [15,13,14,0,1,2,3,4,5,6,7,8,9,10,11,12];refine akK (Hr.rk cF h1) λH9 g hg h9=>⟨_,_,_,_,_,rfl,?_⟩
 have⟨gK,gz,er,eq,eI⟩:=h9.hr;have eI:AS.Sep H9 (dO c gK::xA c::aR c.g c.m X::gl 1 g (bS Rr.q.rv)::dm b z::cV z::cW z::dx b Ks k a::dP b d::cZ m d D T):=eI;refine Sep.nw eI λi15 gC iJ=>Sep.dp iJ (aS rfl) λaQ g_=>⟨_,Sep.aG g_ rfl,cm (by rw [fW];rfl) ?_⟩
 have g_:AS.Sep aQ (bx i15 (.cells true 0 [I Rr.q.no,.slice (addr g) Rr.q.rv.length 0,W Rr.q.rk,I Rr.q.el])::dO c gK::xA c::aR c.g c.m X::gl 1 g (bS Rr.q.rv)::dm b z::cV z::cW z::dx b Ks k a::dP b d::cZ m d D T):=g_;refine af ⟨_,_,Sep.iL g_ rfl,tQ,bG ⟨_,_,_,_,_,_,by rw [dr];exact Ym (o:=5) (n:=5) g_ 8 rfl (bT Ks) rfl (by rw [hlen];exact hk) rfl,?_⟩⟩;rw [Wo];have pJ:AS.Sep aQ (bF b z Ks k a m d D c X (dO c gK::T)):=Sep.pick g_ 18 [5,6,7,8,9,10,11,12,13,14,15,16,17,2,3,1];exact axG (H0:=H0) s kk o hv pJ (by simp [hm]) mM tM lB λbU pK=>⟨_,rfl,hR bU gK gz er eq pK⟩
end
section
variable {H H':aa} {R K:Value->aa->Prop} {T0 T1:List ax} {c:Lc} {q:Qr} {X X':Gx} {d:Dk} {D D':Dm} {hl:List Int} {b:Pb} {z:Pz} {m:My} {k:Nat}
def Ka.done (a:Ka):Ka:=if a.leave then {a with run:=none,cg:=none,leave:=false,cq:=false} else {a with run:=none,cq:=a.cg.isSome}
def Ka.fj (a:Ka)(aj dn:Bool)(e:Int):Ka:=
 if dn then (if aj then {a with cq:=true,elem:=e} else a).done else if aj then {a with cq:=true,elem:=e} else a
set_option maxHeartbeats 8000000 in
theorem akr {Ks:List Ka}{a:Ka}{r:Nat}{Post:Gx->Hr->Prop}{PostE:Gx->Hr->Hr->Dm->Pz->Int->Prop}(s:lP b m c Ks)(hk:k<Ks.length)(h:Sep H (bF b z Ks k a m d D c X T0))(fB:a.run=some ⟨r,0,none⟩)
  (cY:∀(H:aa)(K:Value->aa->Prop),AS.Sep H (bF b z Ks k a m d D c X T0)->(∀H' X' Rr,Post X' Rr->AS.Sep H' (bF b z Ks k a m d D c X' (dO c Rr::T1))->K (.tuple #[.bool Rr.q.aj,.bool Rr.q.dn]) H')->CA en F.BW [P r] H K)
  (qy:∀X' Rr,Post X' Rr->X'.G.S.count<=wr (X.G.S.count+1))(u6:∀X' Rr,Post X' Rr->Rr.q.aj=true->a.cq=false/\a.leave=false)
  (gH:∀X' Rr,Post X' Rr->Rr.q.dn=true->(a.cq||Rr.q.aj)≠a.leave)
  (Wf:∀(X':Gx)(Rr:Hr)(H:aa)(K:Value->aa->Prop),Post X' Rr->Rr.q.aj=true->AS.Sep H (bF b z Ks k {a with cq:=true} m d D c X' (dO c Rr::T1))->
   (∀H' D' z' gK e,PostE X' Rr gK D' z' e->AS.Sep H' (bF b z' Ks k {a with cq:=true,elem:=e} m d D' c X' (dO c gK::T1))->K (.bool true) H')->CA en F.DS [P b.p,I k] H K)
  (hR:∀H' X' Rr gK D' z' e,Post X' Rr->(Rr.q.aj=true->PostE X' Rr gK D' z' e)->(Rr.q.aj=false->D'=D/\z'=z/\gK=Rr/\e=0)->AS.Sep H' (bF b z' Ks k (a.fj Rr.q.aj Rr.q.dn e) m d D' c X' (dO c gK::T1))->(Rr.q.aj=true->True)->R (.bool true) H') :
  CA en F.lR [P b.p,I k] H R:=by
 apply alI;have na:=s.na;have hlen:(Ks.map Ka.cells).length=Ks.length:=gb ..;have bj:k<(Ks.map Ka.cells).length:=by rw [hlen];exact hk
 have tQ:az (k:Int) b.na:=by unfold az;omega
 refine af ⟨_,_,Sep.aG h rfl,tQ,bG (af ⟨_,Sep.aG h rfl,?_⟩)⟩;rw [s.sm];have hc:AS.Sep H (aR c.g c.m X::dm b z::cV z::cW z::dx b Ks k a::dP b d::cZ m d D (xA c::T0)):=Sep.pick h 15 [14,0,1,2,3,4,5,6,7,8,9,10,11,12,13];refine Jw (qu hc) ⟨_,rfl,?_⟩;rw [dr];refine ⟨_,EP h 3 rfl (bT Ks) rfl bj rfl,?_⟩;rw [fB];refine bl rfl ⟨_,EP h 3 rfl (bT Ks) rfl bj rfl,?_⟩;rw [fB];refine cY H _ h λmY X' Rr hp Ef=>⟨_,_,rfl,af ⟨_,Sep.aG Ef rfl,?_⟩⟩
 rw [s.sm];have Aa:AS.Sep mY (aR c.g c.m X'::dm b z::cV z::cW z::dx b Ks k a::dP b d::cZ m d D (xA c::dO c Rr::T1)):=Sep.pick Ef 16 [14,0,1,2,3,4,5,6,7,8,9,10,11,12,13,15];have sy:=qy X' Rr hp;refine Jw (qu Aa) ⟨_,rfl,bl (by rw [jF];have:X'.G.S.count<=IntKind.i64.wrap (X.G.S.count+1):=sy;omega) ?_⟩;have fin:∀{H:aa}{D':Dm}{z':Pz}{gK:Hr}{a1:Ka},Rr.q.dn=true->a1.cq≠a1.leave->a1.done=a1.done->AS.Sep H (bF b z' Ks k a1 m d D' c X' (dO c gK::T1))->(∀H',AS.Sep H' (bF b z' Ks k a1.done m d D' c X' (dO c gK::T1))->R (.bool true) H')->
   ∃pD,H.cell b.ab (0+k*14+11)=some (.bool pD)/\∃sf,H.cell b.ab (0+k*14+13)=some (.bool sf)/\(bif (pD==sf) then R (.bool false) H else
    aq H b.ab (0+k*14) [(.pointer none)] λmZ=>∃w_,mZ.cell b.ab (0+k*14+13)=some (.bool w_)/\bif w_ then (
     aq mZ b.ab (0+k*14+1) [(.pointer none)] λzG=>aq zG b.ab (0+k*14+13) [(.bool false)] λrX=>∃tC,rX.cell b.ab (0+k*14+1)=some (.pointer tC)/\aq rX b.ab (0+k*14+11) [(.bool (!tC.isNone))] λqf=>R (.bool true) qf)
    else (∃ql,mZ.cell b.ab (0+k*14+1)=some (.pointer ql)/\aq mZ b.ab (0+k*14+11) [(.bool (!ql.isNone))] λnP=>R (.bool true) nP)):=λ{H D' z' gK a1} hd aW _ hs hR'=>by
  refine ⟨_,fk (o:=11) hs 3 rfl (bT Ks) rfl bj rfl,_,fk (o:=13) hs 3 rfl (bT Ks) rfl bj rfl,bl (by rw [mc];exact aW) ?_⟩;refine kI (o:=0) (vs:=[.pointer none]) hs 3 rfl (bT Ks) rfl bj (by show 0+1<=14;decide) λmZ Gy=>?_
  have Gy:AS.Sep mZ (bF b z' Ks k {a1 with run:=none} m d D' c X' (dO c gK::T1)):=Gy;refine ⟨_,fk (o:=13) Gy 3 rfl (bT Ks) rfl bj rfl,?_⟩;cases hl:a1.leave with
  |true=>
   refine cm rfl ?_;refine kI (o:=1) (vs:=[.pointer none]) Gy 3 rfl (bT Ks) rfl bj (by show 1+1<=14;decide) λzG VF=>?_
   have VF:AS.Sep zG (bF b z' Ks k {a1 with run:=none,cg:=none} m d D' c X' (dO c gK::T1)):=VF;refine kI (o:=13) (vs:=[.bool false]) VF 3 rfl (bT Ks) rfl bj (by show 13+1<=14;decide) λrX Pq=>?_
   have Pq:AS.Sep rX (bF b z' Ks k {a1 with run:=none,cg:=none,leave:=false} m d D' c X' (dO c gK::T1)):=Pq;refine ⟨_,fk (o:=1) Pq 3 rfl (bT Ks) rfl bj rfl,?_⟩;refine kI (o:=11) (vs:=[.bool false]) Pq 3 rfl (bT Ks) rfl bj (by show 11+1<=14;decide) λqf VG=>hR' qf ?_
   have e:a1.done={a1 with run:=none,cg:=none,leave:=false,cq:=false}:=ar hl;rw [e];exact VG
  |false=>
   refine bl rfl ?_;refine ⟨_,fk (o:=1) Gy 3 rfl (bT Ks) rfl bj rfl,?_⟩;refine kI (o:=11) (vs:=[.bool (!a1.cg.isNone)]) Gy 3 rfl (bT Ks) rfl bj (by show 11+1<=14;decide) λnP Eg=>hR' nP ?_
   have e:a1.done={a1 with run:=none,cq:=a1.cg.isSome}:=an (by rw [hl];exact jY);have e2:(!a1.cg.isNone)=a1.cg.isSome:=by cases a1.cg<;>rfl
   rw [e,<-e2];exact Eg
 have aj:Rr.q.aj=true->aq mY b.ab (0+k*14+11) [(.bool true)] λmG=>CA en F.DS [P b.p,I k] mG λZR rW=>∃Jq,ZR=(.bool Jq)/\bif (!Jq) then R (.bool false) rW else (
   bif Rr.q.dn then (∃pD,(rW.ae 9).cell b.ab (0+k*14+11)=some (.bool pD)/\∃sf,(rW.ae 9).cell b.ab (0+k*14+13)=some (.bool sf)/\(bif (pD==sf) then R (.bool false) (rW.ae 9) else
    aq (rW.ae 9) b.ab (0+k*14) [(.pointer none)] λmZ=>∃w_,mZ.cell b.ab (0+k*14+13)=some (.bool w_)/\bif w_ then (
     aq mZ b.ab (0+k*14+1) [(.pointer none)] λzG=>aq zG b.ab (0+k*14+13) [(.bool false)] λrX=>∃tC,rX.cell b.ab (0+k*14+1)=some (.pointer tC)/\aq rX b.ab (0+k*14+11) [(.bool (!tC.isNone))] λqf=>R (.bool true) qf)
    else (∃ql,mZ.cell b.ab (0+k*14+1)=some (.pointer ql)/\aq mZ b.ab (0+k*14+11) [(.bool (!ql.isNone))] λnP=>R (.bool true) nP))/\True) else R (.bool true) rW):=λhe=>by
  have ho:=u6 X' Rr hp he;refine kI (o:=11) (vs:=[.bool true]) Ef 3 rfl (bT Ks) rfl bj (by show 11+1<=14;decide) λmG yG=>?_
  have yG:AS.Sep mG (bF b z Ks k {a with cq:=true} m d D c X' (dO c Rr::T1)):=yG;refine Wf X' Rr mG _ hp he yG λrW D' z' gK e hpe h82=>⟨_,rfl,bl rfl ?_⟩
  have mq:∀H',AS.Sep H' (bF b z' Ks k (a.fj Rr.q.aj Rr.q.dn e) m d D' c X' (dO c gK::T1))->R (.bool true) H':=λH' hs=>hR H' X' Rr gK D' z' e hp (λ_=>hpe) (λhf=>by rw [he] at hf;cases hf) hs λ_=>trivial
  cases hd:Rr.q.dn with
  |true=>
   rw [hd,he] at mq;have⟨pD,g1,sf,g2,g3⟩:=fin (a1:={a with cq:=true,elem:=e}) hd (by show true≠a.leave;rw [ho.2];decide) rfl (h82.ae 9) mq;exact ⟨pD,g1,sf,g2,g3,trivial⟩
  |false=>
   rw [hd,he] at mq;exact mq rW h82
 have av2:Rr.q.aj=false->bif Rr.q.dn then (∃pD,(mY.ae 9).cell b.ab (0+k*14+11)=some (.bool pD)/\∃sf,(mY.ae 9).cell b.ab (0+k*14+13)=some (.bool sf)/\(bif (pD==sf) then R (.bool false) (mY.ae 9) else
    aq (mY.ae 9) b.ab (0+k*14) [(.pointer none)] λmZ=>∃w_,mZ.cell b.ab (0+k*14+13)=some (.bool w_)/\bif w_ then (
     aq mZ b.ab (0+k*14+1) [(.pointer none)] λzG=>aq zG b.ab (0+k*14+13) [(.bool false)] λrX=>∃tC,rX.cell b.ab (0+k*14+1)=some (.pointer tC)/\aq rX b.ab (0+k*14+11) [(.bool (!tC.isNone))] λqf=>R (.bool true) qf)
    else (∃ql,mZ.cell b.ab (0+k*14+1)=some (.pointer ql)/\aq mZ b.ab (0+k*14+11) [(.bool (!ql.isNone))] λnP=>R (.bool true) nP))/\True) else R (.bool true) mY:=λhe=>by
  have mq:∀H',AS.Sep H' (bF b z Ks k (a.fj Rr.q.aj Rr.q.dn 0) m d D c X' (dO c Rr::T1))->R (.bool true) H':=λH' hs=>hR H' X' Rr Rr D z 0 hp (λhf=>by rw [he] at hf;cases hf) (λ_=>⟨rfl,rfl,rfl,rfl⟩) hs λ_=>trivial
  cases hd:Rr.q.dn with
  |true=>
   rw [hd,he] at mq;have aW:=gH X' Rr hp hd;rw [he,Nr] at aW;have⟨pD,g1,sf,g2,g3⟩:=fin (a1:=a) hd aW rfl (Ef.ae 9) mq;exact ⟨pD,g1,sf,g2,g3,trivial⟩
  |false=>
   rw [hd,he] at mq;exact mq mY Ef
 cases he:Rr.q.aj with
 |true=>
  have ho:=u6 X' Rr hp he;refine ⟨_,fk (o:=11) Ef 3 rfl (bT Ks) rfl bj rfl,?_⟩;rw [ho.1];refine ⟨_,fk (o:=13) Ef 3 rfl (bT Ks) rfl bj rfl,?_⟩;rw [ho.2];exact aj he
 |false=>exact av2 he
end
section
variable {H H':aa} {R:Value->aa->Prop} {T:List ax} {c:Lc} {q:Qr} {X:Gx} {d:Dk} {D:Dm} {es:List Int} {b:Pb} {z:Pz} {m:My} {k:Nat}
set_option maxHeartbeats 8000000 in
theorem X7 {Ks:List Ka}{a:Ka}{V:Hv}{room:Int}(s:lP b m c Ks)(kk:d.Ok)(o:D.Ok d)(hk:k<Ks.length)(cF:V.ok)(h:Sep H (bF b z Ks k a m d D c X (cf c V::T)))(fB:a.run=none)(qD:a.cg=some ⟨V.v,0,none⟩)(Wh:a.cq=false)(nY:IntKind.i64.wrap (a.key.toNat:Int)=room)
  (gH:V.z.dn=false)(fW:V.z.st≠.pQ)(hlen:V.z.keys.length<=1000/\V.z.av.length<=1000)(qy:(V.z.step c X.G.S).2.count<=wr (X.G.S.count+1))(hed:(V.z.step c X.G.S).1.dn=(V.z.step c X.G.S).1.aj)(ato:(V.z.step c X.G.S).1.keys.length<=1000)
  (Wn:(V.z.step c X.G.S).1.aj=true->∀out,IB out ((D.es.map En.k).filter λk=>decide (bZ k d.bk=room))->out=(V.z.step c X.G.S).1.keys)
  (sw:(V.z.step c X.G.S).1.aj=false->∀H' V',V'.ok->V'.v=V.v->V'.z=(V.z.step c X.G.S).1->Sep H' (bF b z Ks k a m d D c (X.to (V.z.step c X.G.S).2) (cf c V'::T))->R (.bool true) H')
  (mq:(V.z.step c X.G.S).1.aj=true->∀H' V' g,V'.ok->V'.v=V.v->V'.z=(V.z.step c X.G.S).1->(g=none->V'.z.keys=[])->Sep H' (bF b z Ks k {a with kg:=addr g,kn:=V'.z.keys.length,cq:=true} m d D c (X.to (V.z.step c X.G.S).2) (cf c V'::gl 1 g (bS V'.z.keys)::T))->R (.bool true) H') :
  CA en F.lR [P b.p,I k] H R:=by
 apply alI;have na:=s.na;have Kv:(Ks.map Ka.cells).length=Ks.length:=gb ..;have bj:k<(Ks.map Ka.cells).length:=by rw [Kv];exact hk
 have tQ:az (k:Int) b.na:=by unfold az;omega
 refine af ⟨_,_,Sep.aG h rfl,tQ,bG (af ⟨_,Sep.aG h rfl,?_⟩)⟩;rw [s.sm];have hc:AS.Sep H (aR c.g c.m X::dm b z::cV z::cW z::dx b Ks k a::dP b d::cZ m d D (xA c::cf c V::T)):=Sep.pick h 16 [14,0,1,2,3,4,5,6,7,8,9,10,11,12,13,15];refine Jw (qu hc) ⟨_,rfl,?_⟩;rw [dr];refine ⟨_,EP h 3 rfl (bT Ks) rfl bj rfl,?_⟩;rw [fB];refine cm rfl ⟨_,fk (o:=1) h 3 rfl (bT Ks) rfl bj rfl,?_⟩;rw [qD];have h1:AS.Sep H (cf c V::xA c::aR c.g c.m X::dm b z::cV z::cW z::dx b Ks k a::dP b d::cZ m d D T):=Sep.pick h 16 [15,13,14,0,1,2,3,4,5,6,7,8,9,10,11,12];have hv0:=Ce h1;refine af ⟨_,Sep.bn hv0 rfl,?_⟩;refine aB8 cF h1 (λ_=>fW) hlen λbf V' gz ev er ez gy=>?_
 have et:V.z.pX (V.z.step c X.G.S).1=((V.z.step c X.G.S).1.aj,(V.z.step c X.G.S).1.dn):=by unfold Vz.pX;rw [an (by rw [gH];exact jY)]
 rw [et,hed];refine ⟨_,_,rfl,?_⟩;have fV:AS.Sep bf (bF b z Ks k a m d D c (X.to (V.z.step c X.G.S).2) (cf c V'::T)):=Sep.pick gy 16 [3,4,5,6,7,8,9,10,11,12,13,14,15,1,2,0];cases he:(V.z.step c X.G.S).1.aj with
 |false=>
  refine bl rfl (af ⟨_,Sep.aG fV rfl,?_⟩);rw [s.sm];have Aa:AS.Sep bf (aR c.g c.m (X.to (V.z.step c X.G.S).2)::dm b z::cV z::cW z::dx b Ks k a::dP b d::cZ m d D (xA c::cf c V'::T)):=Sep.pick fV 16 [14,0,1,2,3,4,5,6,7,8,9,10,11,12,13,15];refine Jw (qu Aa) ⟨_,rfl,cm (by rw [gf];exact qy) ⟨_,fk (o:=11) fV 3 rfl (bT Ks) rfl bj rfl,?_⟩⟩;rw [Wh];exact sw he bf V' gz ev ez fV
 |true=>
  refine cm rfl ⟨_,fk (o:=1) fV 3 rfl (bT Ks) rfl bj rfl,?_⟩;rw [qD,<-ev];have mJ:AS.Sep bf (cf c V'::dm b z::cV z::cW z::dx b Ks k a::dP b d::cZ m d D (xA c::aR c.g c.m (X.to (V.z.step c X.G.S).2)::T)):=Sep.pick gy 16 [0,3,4,5,6,7,8,9,10,11,12,13,14,15,1,2];have hl3:V'.z.keys.length<=1000:=by rw [ez];exact ato
  refine aB4 gz mJ (by omega) λbM g hg kA=>⟨_,_,rfl,?_⟩
  refine kI (o:=2) (vs:=[.slice (addr g) V'.z.keys.length 0]) kA 5 rfl (bT Ks) rfl bj (by show 2+1<=14;decide) λfw Eb=>?_
  have Eb:AS.Sep fw (gl 1 g (bS V'.z.keys)::cf c V'::dm b z::cV z::cW z::dx b Ks k {a with kg:=addr g,kn:=V'.z.keys.length}::dP b d::cZ m d D (xA c::aR c.g c.m (X.to (V.z.step c X.G.S).2)::T)):=Eb;have hB:=Eb.ae 22;refine ⟨_,_,fk (o:=2) hB 5 rfl (bT Ks) rfl bj rfl,af ⟨_,Sep.eK hB rfl,?_⟩⟩;rw [s.sd];refine af ⟨_,_,Sep.au9 hB rfl,⟨by decide,by decide⟩,bG ⟨_,Sep.au_ hB rfl,_,fk (o:=5+1) hB 5 rfl (bT Ks) rfl bj rfl,?_⟩⟩;have e1:IntKind.i64.wrap (({a with kg:=addr g,kn:=V'.z.keys.length}:Ka).key.toNat:Int)=room:=nY;rw [e1];have tL:AS.Sep (fw.ae 22) (yE m.y d D::lE D::gl 1 g (bS V'.z.keys)::cf c V'::dm b z::cV z::cW z::dx b Ks k {a with kg:=addr g,kn:=V'.z.keys.length}::dP b d::vE D::xE D::bx m.mx (.cells true 0 [.slice (some ⟨m.al,0,none⟩) 3 0,I 1])::bx m.al (.cells true 1 [P m.y,P m.y2,P m.y3])::rE m.y2 m.s1 m.n1 m.s2 m.n2::rE m.y3 m.t1 m.m1 m.t2 m.m2::xA c::aR c.g c.m (X.to (V.z.step c X.G.S).2)::T):=Sep.pick hB 17 [7,8,0,1,2,3,4,5,6,9,10,11,12,13,14,15,16];refine auS (by have:=kk.bk;omega) o tL λuC g2 out qz sC h42=>⟨_,_,rfl,?_⟩
  have eo:=Wn he out qz;rw [<-ez] at eo;subst eo;refine aa3 h42 (HE (q:=g) (by simp) hg) (HE (q:=g2) (by simp) sC) rfl rfl (by omega) λp9 BU=>⟨_,rfl,⟨bl rfl ?_,⟨⟨_,_,fk (o:=2) hB 5 rfl (bT Ks) rfl bj rfl,rfl,rfl,rfl⟩,⟨_,_,fk (o:=2) h42 8 rfl (bT Ks) rfl bj rfl,rfl,rfl,rfl⟩,trivial⟩,trivial⟩⟩
  refine kI (o:=11) (vs:=[.bool true]) BU 8 rfl (bT Ks) rfl bj (by show 11+1<=14;decide) λdW su=>?_
  have su:AS.Sep dW (gl 1 g2 (bS V'.z.keys)::yE m.y d D::lE D::gl 1 g (bS V'.z.keys)::cf c V'::dm b z::cV z::cW z::dx b Ks k {a with kg:=addr g,kn:=V'.z.keys.length,cq:=true}::dP b d::vE D::xE D::bx m.mx (.cells true 0 [.slice (some ⟨m.al,0,none⟩) 3 0,I 1])::bx m.al (.cells true 1 [P m.y,P m.y2,P m.y3])::rE m.y2 m.s1 m.n1 m.s2 m.n2::rE m.y3 m.t1 m.m1 m.t2 m.m2::xA c::aR c.g c.m (X.to (V.z.step c X.G.S).2)::T):=su;have uU:AS.Sep dW (aR c.g c.m (X.to (V.z.step c X.G.S).2)::dm b z::cV z::cW z::dx b Ks k {a with kg:=addr g,kn:=V'.z.keys.length,cq:=true}::dP b d::cZ m d D (xA c::cf c V'::gl 1 g (bS V'.z.keys)::T)):=Sep.pick su 18 [17,5,6,7,8,9,1,2,10,11,12,13,14,15,16,4,3];refine af ⟨_,Sep.bn uU rfl,?_⟩;rw [s.sm];refine Jw (qu uU) ⟨_,rfl,cm (by rw [gf];exact qy) ⟨_,fk (o:=11) uU 4 rfl (bT Ks) rfl bj rfl,?_⟩⟩;exact mq he dW V' g gz ev ez hg (Sep.pick uU 17 [1,2,3,4,5,6,7,8,9,10,11,12,13,14,0,15,16])
end
section
variable {H H':aa} {R:Value->aa->Prop} {T:List ax} {c:Lc} {q:Qr} {X:Gx} {d:Dk} {D:Dm} {b:Pb} {z:Pz} {m:My} {k:Nat}
abbrev Kb (R:Value->aa->Prop):Value->aa->Prop:=λv H=>∃b,v=.bool b/\R (.bool b) H
abbrev Ka.look (a:Ka)(r:Nat)(kd:Int)(ky:Wd)(g:Nat):Ka:={a with cq:=false,run:=some ⟨r,0,none⟩,kind:=kd,key:=ky,va:=none,vn:=0,fl:=0,cp:=0,gone:=((g+1:Nat):Int)}
set_option maxHeartbeats 16000000 in
theorem aww {Ks:List Ka}{a:Ka}{V:Hv}{g:Nat}{kg:Option Nat}(s:lP b m c Ks)(hk:k<Ks.length)(cF:V.ok)(Wn:kg=none->V.z.keys=[])(h:Sep H (bF b z Ks k a m d D c X (cf c V::gl 1 kg (bS V.z.keys)::T)))(fB:a.run=none)(qD:a.cg=some ⟨V.v,0,none⟩)(Wh:a.cq=true)(Ku:a.kg=addr kg)(B9:a.kn=V.z.keys.length)(Eu:a.gone=(g:Int))(hlen:V.z.keys.length<=1000/\V.z.av.length=V.z.keys.length)(hg:g<=V.z.keys.length)
  (hL:g=V.z.keys.length->∀H' Rr,Rr.ok->Rr.q={Qr.zero with room:=V.z.room,nx:=.leave}->AS.Sep H' (bF b z Ks k {a with cq:=false,run:=some ⟨Rr.r,0,none⟩,leave:=true} m d D c X (dO c Rr::cf c V::gl 1 kg (bS V.z.keys)::T))->CA en F.lR [P b.p,I k] H' (Kb R))
  (hK:∀ky e,V.z.keys[g]? =some ky->V.z.av[g]? =some e->∀H' Rr,Rr.ok->Rr.q={Qr.zero with room:=V.z.room,cur:=e,nx:=.ot}->AS.Sep H' (bF b z Ks k (a.look Rr.r 1 ky g) m d D c X (dO c Rr::cf c V::gl 1 kg (bS V.z.keys)::T))->CA en F.lR [P b.p,I k] H' (Kb R))
  (hT:d.kd=4->∀ky e,V.z.keys[g]? =some ky->V.z.av[g]? =some e->∀H' r' i1 i3 i10,AS.Sep H' (bF b z Ks k (a.look r' 5 ky g) m d D c X (rA r' c (qT V.z.room e (py (c.h,hd V.z.room) (V.z.av.take g))) none (wE i1 i3 i10)::many [b1 i1 (P V.v),b1 i3 (I g),b1 i10 (P r')]::cf c V::gl 1 kg (bS V.z.keys)::T))->CA en F.lR [P b.p,I k] H' (Kb R)) :
  CA en F.Ga [P b.p,I k] H R:=by
 apply alH;have na:=s.na;have Kv:(Ks.map Ka.cells).length=Ks.length:=gb ..;have bj:k<(Ks.map Ka.cells).length:=by rw [Kv];exact hk
 have tQ:az (k:Int) b.na:=by unfold az;omega
 refine af ⟨_,_,Sep.aG h rfl,tQ,bG ?_⟩;rw [dr];refine ⟨_,fk (o:=11) h 3 rfl (bT Ks) rfl bj rfl,?_⟩;rw [Wh];refine bl rfl ?_;refine kI (o:=11) (vs:=[.bool false]) h 3 rfl (bT Ks) rfl bj (by show 11+1<=14;decide) λcj jo=>?_
 have jo:AS.Sep cj (bF b z Ks k {a with cq:=false} m d D c X (cf c V::gl 1 kg (bS V.z.keys)::T)):=jo;have hB:=jo.ae 10;refine ⟨_,fk (o:=3) hB 3 rfl (bT Ks) rfl bj rfl,_,_,fk (o:=2) hB 3 rfl (bT Ks) rfl bj rfl,⟨?_,trivial⟩⟩;rw [Eu,B9];refine aI (λze=>?_) λze=>?_
 ·have ze:g=V.z.keys.length:=by have:=ga ze;omega
  refine ⟨_,fk (o:=1) hB 3 rfl (bT Ks) rfl bj rfl,?_⟩;rw [qD];have fA:AS.Sep (cj.ae 10) (cf c V::xA c::aR c.g c.m X::dm b z::cV z::cW z::dx b Ks k {a with cq:=false}::dP b d::cZ m d D (gl 1 kg (bS V.z.keys)::T)):=Sep.pick hB 16 [15,13,14,0,1,2,3,4,5,6,7,8,9,10,11,12];refine aB5 cF fA λaQ r' aT rk=>⟨_,rfl,?_⟩
  have⟨Rr,gz,er,eq,g_⟩:=rk.hr;refine kI (o:=0) (vs:=[P r']) g_ 7 rfl (bT Ks) rfl bj (by show 0+1<=14;decide) λbf gy=>?_
  have gy:AS.Sep bf (dO c Rr::xA c::aR c.g c.m X::cf c V::dm b z::cV z::cW z::dx b Ks k {a with cq:=false,run:=some ⟨r',0,none⟩}::dP b d::cZ m d D (gl 1 kg (bS V.z.keys)::T)):=gy;refine kI (o:=13) (vs:=[.bool true]) gy 7 rfl (bT Ks) rfl bj (by show 13+1<=14;decide) λbu fV=>?_
  have fV:AS.Sep bu (dO c Rr::xA c::aR c.g c.m X::cf c V::dm b z::cV z::cW z::dx b Ks k {a with cq:=false,run:=some ⟨r',0,none⟩,leave:=true}::dP b d::cZ m d D (gl 1 kg (bS V.z.keys)::T)):=fV;refine ⟨_,fk (o:=0) fV 7 rfl (bT Ks) rfl bj rfl,cm rfl ?_⟩;subst er;exact hL ze bu Rr gz eq (Sep.pick fV 17 [4,5,6,7,8,9,10,11,12,13,14,15,16,1,2,0,3])
 ·have ze:g<V.z.keys.length:=by have:=fQ ze;omega
  have⟨ky,mP⟩:∃ky,V.z.keys[g]? =some ky:=⟨_,cM ze⟩;have⟨e,he⟩:∃e,V.z.av[g]? =some e:=⟨_,cM (by omega)⟩;obtain ⟨kb,rfl⟩:∃v,kg=some v:=by
   cases kg with
   |none=>have:=Wn rfl;rw [this] at mP;simp at mP
   |some v=>exact ⟨v,rfl⟩
  have ew:IntKind.i64.wrap ((g:Int)+1)=((g+1:Nat):Int):=by rw [wrap_i64 (by omega)];omega
  have ka:=hB.ae 15;refine ⟨_,_,fk (o:=2) ka 3 rfl (bT Ks) rfl bj rfl,_,fk (o:=3) ka 3 rfl (bT Ks) rfl bj rfl,?_⟩;rw [Eu,B9,Ku];have Et:AS.Sep ((cj.ae 10).ae 15) (gl 1 (some kb) (bS V.z.keys)::dm b z::cV z::cW z::dx b Ks k {a with cq:=false}::dP b d::cZ m d D (xA c::aR c.g c.m X::cf c V::T)):=Sep.pick ka 17 [16,0,1,2,3,4,5,6,7,8,9,10,11,12,13,14,15];refine ⟨by unfold az;omega,bG ⟨_,Sep.aG (dN.1 Et) (by rw [dr,cG,ou,jg,mP];rfl),?_⟩⟩;refine kI (o:=5) (vs:=[I 1,W ky,.slice none 0 0,I 0,I 0]) ka 3 rfl (bT Ks) rfl bj (by show 5+5<=14;decide) λft zW=>?_
  let a1:Ka:={a with cq:=false,kind:=1,key:=ky,va:=none,vn:=0,fl:=0,cp:=0}
  have zW:AS.Sep ft (bF b z Ks k a1 m d D c X (cf c V::gl 1 (some kb) (bS V.z.keys)::T)):=zW;have hC:=zW.ae 23;have US:IntKind.u64.wrap (Int.tmod (g:Int) 64)=((g % 64:Nat):Int):=by
   have:Int.tmod (g:Int) 64=((g % 64:Nat):Int):=by
    rw [Dj (by omega)];omega
   rw [this];exact AT (by omega) (by omega)
  have look:∀{H:aa},AS.Sep H (bF b z Ks k a1 m d D c X (cf c V::gl 1 (some kb) (bS V.z.keys)::T))->∃tA,H.cell b.ab (0+k*14+1)=some (.pointer tA)/\∃xy,H.cell b.ab (0+k*14+3)=some (.int .i64 xy)/\CA en F.J4 [(.pointer tA),(.int .i64 xy)] H λAY p_=>∃tB,AY=(.pointer tB)/\aq p_ b.ab (0+k*14) [(.pointer tB)] λoy=>
    (∃lY,oy.cell b.ab (0+k*14+3)=some (.int .i64 lY)/\aq oy b.ab (0+k*14+3) [(.int .i64 (IntKind.i64.wrap (lY+1)))] λuD=>∃kP,uD.cell b.ab (0+k*14)=some (.pointer kP)/\bif (!kP.isNone) then CA en F.lR [P b.p,I k] uD (Kb R) else R (.bool false) uD)/\True:=λ{H} hs=>by
   refine ⟨_,fk (o:=1) hs 3 rfl (bT Ks) rfl bj rfl,_,fk (o:=3) hs 3 rfl (bT Ks) rfl bj rfl,?_⟩;have e1:a1.cg=some ⟨V.v,0,none⟩:=qD;have e2:a1.gone=(g:Int):=Eu;rw [e1,e2];have fA:AS.Sep H (cf c V::xA c::aR c.g c.m X::dm b z::cV z::cW z::dx b Ks k a1::dP b d::cZ m d D (gl 1 (some kb) (bS V.z.keys)::T)):=Sep.pick hs 16 [15,13,14,0,1,2,3,4,5,6,7,8,9,10,11,12];refine aB6 cF fA he λp_ r' aT rk=>⟨_,rfl,?_⟩
   have⟨Rr,gz,er,eq,g_⟩:=rk.hr;refine kI (o:=0) (vs:=[P r']) g_ 7 rfl (bT Ks) rfl bj (by show 0+1<=14;decide) λbf gy=>⟨?_,trivial⟩
   have gy:AS.Sep bf (dO c Rr::xA c::aR c.g c.m X::cf c V::dm b z::cV z::cW z::dx b Ks k {a1 with run:=some ⟨r',0,none⟩}::dP b d::cZ m d D (gl 1 (some kb) (bS V.z.keys)::T)):=gy;refine ⟨_,fk (o:=3) gy 7 rfl (bT Ks) rfl bj rfl,?_⟩;have e3:({a1 with run:=some ⟨r',0,none⟩}:Ka).gone=(g:Int):=Eu;rw [e3,ew];refine kI (o:=3) (vs:=[I ((g+1:Nat):Int)]) gy 7 rfl (bT Ks) rfl bj (by show 3+1<=14;decide) λbu fV=>?_
   have fV:AS.Sep bu (dO c Rr::xA c::aR c.g c.m X::cf c V::dm b z::cV z::cW z::dx b Ks k (a.look r' 1 ky g)::dP b d::cZ m d D (gl 1 (some kb) (bS V.z.keys)::T)):=fV;refine ⟨_,fk (o:=0) fV 7 rfl (bT Ks) rfl bj rfl,cm rfl ?_⟩;subst er;exact hK ky e mP he bu Rr gz eq (Sep.pick fV 17 [4,5,6,7,8,9,10,11,12,13,14,15,16,1,2,0,3])
  refine ⟨⟨_,fk (o:=4) hC 3 rfl (bT Ks) rfl bj rfl,_,fk (o:=3) hC 3 rfl (bT Ks) rfl bj rfl,(by unfold nz;decide),?_,(by unfold nz;decide),aI (λzb=>?_) λzb=>⟨look (hC.ae 13),trivial⟩⟩,trivial⟩
  ·have e2:a1.gone=(g:Int):=Eu;rw [e2,US];show (0:Int)<=_;omega
  ·have Kw:(ft.ae 23).cell b.li 0=some (I d.kd):=Sep.lD hC rfl;refine af ⟨_,_,Sep.aG hC rfl,⟨by decide,by decide⟩,bG ⟨_,Kw,⟨aI (λz4=>?_) λz4=>look (hC.ae 13),trivial⟩⟩⟩;have z4:d.kd=4:=by simpa using z4
   refine kI (o:=5) (vs:=[I 5]) hC 3 rfl (bT Ks) rfl bj (by show 5+1<=14;decide) λp8 zX=>?_
   let a2:Ka:={a with cq:=false,kind:=5,key:=ky,va:=none,vn:=0,fl:=0,cp:=0}
   have zX:AS.Sep p8 (bF b z Ks k a2 m d D c X (cf c V::gl 1 (some kb) (bS V.z.keys)::T)):=zX;have hE:=zX.ae 13;refine ⟨_,fk (o:=1) hE 3 rfl (bT Ks) rfl bj rfl,_,fk (o:=3) hE 3 rfl (bT Ks) rfl bj rfl,?_⟩;have e1:a2.cg=some ⟨V.v,0,none⟩:=qD;have e2:a2.gone=(g:Int):=Eu;rw [e1,e2];have fA:AS.Sep (p8.ae 13) (cf c V::xA c::aR c.g c.m X::dm b z::cV z::cW z::dx b Ks k a2::dP b d::cZ m d D (gl 1 (some kb) (bS V.z.keys)::T)):=Sep.pick hE 16 [15,13,14,0,1,2,3,4,5,6,7,8,9,10,11,12];refine aB_ cF fA he (by omega) λdw r' i1 i3 i10 nW=>⟨_,rfl,?_⟩
   refine kI (o:=0) (vs:=[P r']) nW 8 rfl (bT Ks) rfl bj (by show 0+1<=14;decide) λbf gy=>⟨?_,trivial⟩
   have gy:AS.Sep bf (rA r' c (qT V.z.room e (py (c.h,hd V.z.room) (V.z.av.take g))) none (wE i1 i3 i10)::many [b1 i1 (P V.v),b1 i3 (I g),b1 i10 (P r')]::cf c V::xA c::aR c.g c.m X::dm b z::cV z::cW z::dx b Ks k {a2 with run:=some ⟨r',0,none⟩}::dP b d::cZ m d D (gl 1 (some kb) (bS V.z.keys)::T)):=gy;refine ⟨_,fk (o:=3) gy 8 rfl (bT Ks) rfl bj rfl,?_⟩;have e3:({a2 with run:=some ⟨r',0,none⟩}:Ka).gone=(g:Int):=Eu;rw [e3,ew];refine kI (o:=3) (vs:=[I ((g+1:Nat):Int)]) gy 8 rfl (bT Ks) rfl bj (by show 3+1<=14;decide) λbu fV=>?_
   have fV:AS.Sep bu (rA r' c (qT V.z.room e (py (c.h,hd V.z.room) (V.z.av.take g))) none (wE i1 i3 i10)::many [b1 i1 (P V.v),b1 i3 (I g),b1 i10 (P r')]::cf c V::xA c::aR c.g c.m X::dm b z::cV z::cW z::dx b Ks k (a.look r' 5 ky g)::dP b d::cZ m d D (gl 1 (some kb) (bS V.z.keys)::T)):=fV;refine ⟨_,fk (o:=0) fV 8 rfl (bT Ks) rfl bj rfl,cm rfl ?_⟩;exact hT z4 ky e mP he bu r' i1 i3 i10 (Sep.pick fV 18 [5,6,7,8,9,10,11,12,13,14,15,16,17,3,4,0,1,2])
end
section
variable {H H' H0:aa} {R:Value->aa->Prop} {L T:List ax} {c:Lc} {q:Qr} {X:Gx} {d:Dk} {D:Dm} {b:Pb} {z:Pz} {m:My} {k:Nat}
abbrev Ka.nf (a:Ka):Ka:={a with aP:=a.aP+1,cq:=false}
abbrev Ka.visit (a:Ka)(v:Nat)(room:Nat)(bits:Wd):Ka:={a.nf with cg:=some ⟨v,0,none⟩,kind:=0,key:=BitVec.ofNat 64 room,va:=none,vn:=0,fl:=0,cp:=0,bits:=bits,gone:=0}
abbrev Ka.begin (a:Ka)(r:Nat)(o:Op)(va:Option Addr):Ka:={a.nf with run:=some ⟨r,0,none⟩,kind:=o.kind,key:=o.key,va:=va,vn:=o.val.length,fl:=o.flag,cp:=o.bW}
set_option maxHeartbeats 16000000 in
theorem awy {Ks:List Ka}{a:Ka}{dl:List du}{la:Option Addr}{ln:Nat}(s:lP b m c Ks)(kk:d.Ok)(hb:pow d.bk)(qx:d.bk=c.d3)(hk:k<Ks.length)(hm:old H0∈T)(h:Sep H (bF b z Ks k a m d D c X T))(od:FF H0 la ln dl)(tS:dl.length<=12)(EH:∀x∈dl,x.o.val.length<=8)
  (h1:a.run≠none->CA en F.lR [P b.p,I k] H (Kb R))
  (h2:a.run=none->a.cg≠none->CA en F.Ga [P b.p,I k] H (Kb R))
  (h3:a.run=none->a.cg=none->dl.length<=a.aP->R (.bool true) H)
  (h4:a.run=none->a.cg=none->∀dd va vn,dl[a.aP]? =some dd->(dd.todo=1∨dd.todo=2)->∀H',AS.Sep H' (bF b z Ks k a.nf m d D c X T)->CA en F.F_ [P b.p,I k,.agg #[I dd.todo,I dd.o.kind,W dd.o.key,.slice va vn 0,I dd.o.flag,I dd.o.bW,W dd.v]] H' (Kb R))
  (h5:a.run=none->a.cg=none->∀dd,dl[a.aP]? =some dd->∀H' (V:Hv) b0 (room:Nat),(room:Int)<d.bk->V.ok->V.z=Vz.new room b0->AS.Sep H' (bF b z Ks k (a.visit V.v room dd.o.key) m d D c X (cf c V::T))->CA en F.lR [P b.p,I k] H' (Kb R))
  (h6:a.run=none->a.cg=none->∀dd va,dl[a.aP]? =some dd->(∀L,old H0∈L->lO L va dd.o.val)->tz d dd.o.kind dd.o.flag dd.o.val->∀H' (Rr:Hr) b0,Rr.ok->Rr.q=Qr.new c dd.o.kind dd.o.key dd.o.flag dd.o.bW (dd.o.val.headD 0) b0->AS.Sep H' (bF b z Ks k (a.begin Rr.r dd.o va) m d D c X (dO c Rr::T))->CA en F.lR [P b.p,I k] H' (Kb R))
  (h7:a.run=none->a.cg=none->∀dd,dl[a.aP]? =some dd->∀H',AS.Sep H' (bF b z Ks k a.nf m d D c X T)->R (.bool true) H') :
  CA en F.Ox [P b.p,I k,.slice la ln 0] H R:=by
 apply azV;have na:=s.na;have Kv:(Ks.map Ka.cells).length=Ks.length:=gb ..;have bj:k<(Ks.map Ka.cells).length:=by rw [Kv];exact hk
 have tQ:az (k:Int) b.na:=by unfold az;omega
 have v_:=od.len;have aDu:=kk.bk;refine af ⟨_,_,Sep.aG h rfl,tQ,bG ?_⟩;rw [dr];refine ⟨_,EP h 3 rfl (bT Ks) rfl bj rfl,?_⟩;cases fB:a.run with
 |some ra=>exact cm rfl (h1 (by rw [fB];simp))
 |none=>
 refine bl rfl ⟨_,fk (o:=1) h 3 rfl (bT Ks) rfl bj rfl,?_⟩;cases qD:a.cg with
 |some va=>exact cm rfl (h2 fB (by rw [qD];simp))
 |none=>
 refine bl rfl ⟨_,fk (o:=10) h 3 rfl (bT Ks) rfl bj rfl,aI (λze=>?_) λze=>?_⟩
 ·have ze:dl.length<=a.aP:=by have:=ga ze;omega
  exact h3 fB qD ze
 have ze:a.aP<dl.length:=by have:=fQ ze;omega
 have⟨dd,tN⟩:∃dd,dl[a.aP]? =some dd:=⟨_,cM ze⟩;have xp:=EH dd (dF tN);obtain ⟨il,va,vn,rfl,sF,_,tW,ra⟩:=od.aP h (by simp [hm]) tN;have ew:IntKind.i64.wrap ((a.aP:Int)+1)=((a.aP+1:Nat):Int):=by rw [wrap_i64 (by omega)];omega
 refine ⟨_,fk (o:=10) h 3 rfl (bT Ks) rfl bj rfl,by unfold az;omega,bG ?_⟩;rw [dr];refine ⟨_,_,_,_,_,_,_,_,sF,Sep.nw h λi27 bN tL=>Sep.dp tL (aS rfl) λfq rm=>⟨_,fk (o:=10) rm 4 rfl (bT Ks) rfl bj rfl,?_⟩⟩;rw [ew];refine kI (o:=10) (vs:=[I ((a.aP+1:Nat):Int)]) rm 4 rfl (bT Ks) rfl bj (by show 10+1<=14;decide) λft zW=>?_
 have zW:AS.Sep ft (bx i27 (.cells true 0 (si dd va vn))::bF b z Ks k {a with aP:=a.aP+1} m d D c X T):=zW;refine kI (o:=11) (vs:=[.bool false]) zW 4 rfl (bT Ks) rfl bj (by show 11+1<=14;decide) λbU pK=>?_
 have pK:AS.Sep bU (bx i27 (.cells true 0 (si dd va vn))::bF b z Ks k a.nf m d D c X T):=pK;refine ⟨_,Sep.aG pK rfl,aI (λz1=>?_) λz1=>⟨_,Sep.aG pK rfl,aI (λz2=>?_) λz2=>⟨_,Sep.aG pK rfl,aI (λz3=>?_) λz3=>?_⟩⟩⟩
 ·have z1:dd.todo=1:=by simpa using z1
  refine ⟨_,_,_,_,_,_,_,_,Sep.jK pK rfl,?_⟩;exact h4 fB qD dd va vn tN (.inl z1) bU (Sep.uu pK)
 ·have z2:dd.todo=2:=by simpa using z2
  refine ⟨_,_,_,_,_,_,_,_,Sep.jK pK rfl,?_⟩;exact h4 fB qD dd va vn tN (.inr z2) bU (Sep.uu pK)
 ·
  have hB:=pK.ae 13;have Kw:(bU.ae 13).cell b.li 3=some (I d.bk):=Sep.iL hB rfl;have eb:IntKind.u64.wrap d.bk=d.bk:=AT (by omega) (by omega);have⟨B,ka⟩:∃B:Nat,d.bk=(B:Int):=⟨d.bk.toNat,by omega⟩;have⟨room,lB⟩:∃room:Nat,room=dd.v.toNat % B:=⟨_,rfl⟩;have aE:room<B:=by rw [lB];exact FB _ (by omega)
  have em:Int.tmod (dd.v.toNat:Int) d.bk=(room:Int):=by
   rw [ka,Dj (by omega),lB];rfl
  have ei:IntKind.i64.wrap (room:Int)=(room:Int):=wrap_i64 ⟨by omega,by omega⟩;have eu:IntKind.u64.wrap (room:Int)=(((BitVec.ofNat 64 room).toNat:Nat):Int):=by
   rw [AT (by omega) (by omega),Io,Da (by omega)]
  refine ⟨_,Sep.aG hB rfl,af ⟨_,_,Sep.bn hB rfl,⟨by decide,by decide⟩,bG ⟨_,Kw,?_⟩⟩⟩;rw [eb,em,ei];refine ⟨by unfold nz;omega,af ⟨_,Sep.bn hB rfl,?_⟩,trivial⟩;rw [s.sx];have JQ:AS.Sep (bU.ae 13) (xA c::aR c.g c.m X::bx i27 (.cells true 0 (si dd va vn))::dm b z::cV z::cW z::dx b Ks k a.nf::dP b d::cZ m d D T):=Sep.pick hB 16 [14,15,0,1,2,3,4,5,6,7,8,9,10,11,12,13];refine aB7 JQ λqc V b0 gz ez h70=>⟨_,rfl,?_⟩
  refine kI (o:=1) (vs:=[P V.v]) h70 7 rfl (bT Ks) rfl bj (by show 1+1<=14;decide) λwQ VC=>?_
  have VC:AS.Sep wQ (cf c V::xA c::aR c.g c.m X::bx i27 (.cells true 0 (si dd va vn))::dm b z::cV z::cW z::dx b Ks k {a.nf with cg:=some ⟨V.v,0,none⟩}::dP b d::cZ m d D T):=VC;rw [eu];refine kI (o:=5) (vs:=[I 0,W (BitVec.ofNat 64 room),.slice none 0 0,I 0,I 0]) VC 7 rfl (bT Ks) rfl bj (by show 5+5<=14;decide) λkM rn=>?_
  have rn:AS.Sep kM (cf c V::xA c::aR c.g c.m X::bx i27 (.cells true 0 (si dd va vn))::dm b z::cV z::cW z::dx b Ks k {a.nf with cg:=some ⟨V.v,0,none⟩,kind:=0,key:=BitVec.ofNat 64 room,va:=none,vn:=0,fl:=0,cp:=0}::dP b d::cZ m d D T):=rn;refine ⟨_,Sep.iV rn rfl,?_⟩;refine kI (o:=4) (vs:=[W dd.o.key]) rn 7 rfl (bT Ks) rfl bj (by show 4+1<=14;decide) λBr VD=>?_
  have VD:AS.Sep Br (cf c V::xA c::aR c.g c.m X::bx i27 (.cells true 0 (si dd va vn))::dm b z::cV z::cW z::dx b Ks k {a.nf with cg:=some ⟨V.v,0,none⟩,kind:=0,key:=BitVec.ofNat 64 room,va:=none,vn:=0,fl:=0,cp:=0,bits:=dd.o.key}::dP b d::cZ m d D T):=VD;refine kI (o:=3) (vs:=[I 0]) VD 7 rfl (bT Ks) rfl bj (by show 3+1<=14;decide) λgW zY=>?_
  have zY:AS.Sep gW (cf c V::xA c::aR c.g c.m X::bx i27 (.cells true 0 (si dd va vn))::dm b z::cV z::cW z::dx b Ks k (a.visit V.v room dd.o.key)::dP b d::cZ m d D T):=zY;refine ⟨_,fk (o:=1) zY 7 rfl (bT Ks) rfl bj rfl,cm rfl ?_⟩;exact h5 fB qD dd tN gW V b0 room (by omega) gz ez (Sep.pick zY 17 [4,5,6,7,8,9,10,11,12,13,14,15,16,1,2,0])
 ·
  have hB:=pK.ae 8;refine af ⟨_,_,Sep.bn hB rfl,_,_,_,_,_,_,Sep.jK hB rfl,?_⟩;have Wv:old H0∈bx i27 (.cells true 0 (si dd va vn))::bF b z Ks k a.nf m d D c X T:=by simp [hm]
  refine atP (H0:=H0) (d:=d) (val:=dd.o.val) kk hb hB (li:=b.li) (by simp) Wv ra tW xp (λKD FO Pr=>⟨_,rfl,⟨bl rfl ?_,trivial⟩⟩) λ_ FO Pr=>⟨_,rfl,⟨cm rfl (h7 fB qD dd tN FO (Sep.uu Pr)),trivial⟩⟩
  refine ⟨_,_,_,_,_,_,Sep.jK Pr rfl,Sep.nw Pr λi100 FI ar2=>Sep.dp ar2 (aS rfl) λDr afP=>⟨_,_,Sep.bn afP rfl,?_⟩⟩;refine Ny afP (ra _ (by simp [hm])) tW (by omega) λwO g hg ar3=>⟨_,_,rfl,?_⟩
  refine Sep.lK ar3 (aS rfl) λzF Vv=>?_
  have Vv:AS.Sep zF (gl 1 g (bS dd.o.val)::bx i100 (.cells true 0 [I dd.o.kind,W dd.o.key,.slice (addr g) dd.o.val.length 0,I dd.o.flag,I dd.o.bW])::bx i27 (.cells true 0 (si dd va vn))::bF b z Ks k a.nf m d D c X T):=Vv;have hC:=Vv.ae 10;refine af ⟨_,Sep.iV hC rfl,_,_,_,_,_,_,Sep.wu hC rfl,?_⟩;rw [s.sx];have ar4:AS.Sep (zF.ae 10) (xA c::aR c.g c.m X::gl 1 g (bS dd.o.val)::bx i100 (.cells true 0 [I dd.o.kind,W dd.o.key,.slice (addr g) dd.o.val.length 0,I dd.o.flag,I dd.o.bW])::bx i27 (.cells true 0 (si dd va vn))::dm b z::cV z::cW z::dx b Ks k a.nf::dP b d::cZ m d D T):=Sep.pick hC 18 [16,17,0,1,2,3,4,5,6,7,8,9,10,11,12,13,14,15];refine amL (vs:=dd.o.val) ar4 rfl (by omega) (λw hw=>?_) λjj r PL b0 rk=>⟨_,rfl,?_⟩
  ·cases g with
   |none=>have:=hg rfl;rw [this] at hw;cases hw
   |some g=>
    refine ⟨g,0,rfl,λH' hs=>?_⟩
    have:(dd.o.val)[0]? =some w:=by rw [<-List.head?_eq_getElem?];exact hw
    exact Sep.aG (dN.1 hs) (by rw [jg,this];rfl)
  ·have⟨Rr,gz,er,eq,Vx⟩:=rk.hr;have Vx:AS.Sep jj (dO c Rr::xA c::aR c.g c.m X::gl 1 g (bS dd.o.val)::bx i100 (.cells true 0 [I dd.o.kind,W dd.o.key,.slice (addr g) dd.o.val.length 0,I dd.o.flag,I dd.o.bW])::bx i27 (.cells true 0 (si dd va vn))::dm b z::cV z::cW z::dx b Ks k a.nf::dP b d::cZ m d D T):=Vx;refine kI (o:=0) (vs:=[P r]) Vx 9 rfl (bT Ks) rfl bj (by show 0+1<=14;decide) λBo Pk=>⟨?_,trivial⟩
   have Pk:AS.Sep Bo (dO c Rr::xA c::aR c.g c.m X::gl 1 g (bS dd.o.val)::bx i100 (.cells true 0 [I dd.o.kind,W dd.o.key,.slice (addr g) dd.o.val.length 0,I dd.o.flag,I dd.o.bW])::bx i27 (.cells true 0 (si dd va vn))::dm b z::cV z::cW z::dx b Ks k {a.nf with run:=some ⟨r,0,none⟩}::dP b d::cZ m d D T):=Pk;refine ⟨_,_,Sep.lD Pk rfl,aa4 rfl (by omega) hg (Sep.k_ Pk) λFJ afR=>⟨rfl,?_⟩⟩;refine ⟨_,_,_,_,_,_,Sep.ah5 afR rfl,?_⟩;refine kI (o:=5) (vs:=[I dd.o.kind,W dd.o.key,.slice va vn 0,I dd.o.flag,I dd.o.bW]) afR 8 rfl (bT Ks) rfl bj (by show 5+5<=14;decide) λBp Pl=>?_
   subst er tW;have Pl:AS.Sep Bp (dO c Rr::xA c::aR c.g c.m X::bx i100 (.cells true 0 [I dd.o.kind,W dd.o.key,.slice (addr g) dd.o.val.length 0,I dd.o.flag,I dd.o.bW])::bx i27 (.cells true 0 (si dd va dd.o.val.length))::dm b z::cV z::cW z::dx b Ks k (a.begin Rr.r dd.o va)::dP b d::cZ m d D T):=Pl;refine ⟨_,fk (o:=0) Pl 8 rfl (bT Ks) rfl bj rfl,cm rfl ?_⟩;exact h6 fB qD dd va tN ra KD Bp Rr b0 gz eq (Sep.pick Pl 18 [5,6,7,8,9,10,11,12,13,14,15,16,17,1,2,0])
end
section
variable {H0:aa} {R:Value->aa->Prop} {L:List ax} {N:Nm} {c:Lc} {A A':Ab} {G G':Gr} {cap:Int} {q q' x:Qr} {i j k:Nat} {n a au:Nat} {rs:List Qr} {M M':List (List El)} {ks ks':Nat->Nat} {b:Pb} {S:Sm} {d:Dk} {D D':Dm} {es hl:List Int} {z:Pz}
inductive Ag where
 |idle
 |run (R:Hr)(val:List Wd)
 |gG (V:Hv)
 |sZ (V:Hv)(i:Nat)(pre rest:List El)
 |rest (V:Hv)(kg:Option Nat)(i g:Nat)(E1:List Int)(K l:List El)
 |take (V:Hv)(kg:Option Nat)(R:Hr)(i g:Nat)(E1:List Int)(K l:List El)(e:El)
def Ag.B (c:Lc):Ag->List ax
 |.idle=>[]
 |.run R _=>[dO c R]
 |.gG V=>[cf c V]
 |.sZ V _ _ _=>[cf c V]
 |.rest V kg _ _ _ _ _=>[cf c V,gl 1 kg (bS V.z.keys)]
 |.take V kg R _ _ _ _ _ _=>[dO c R,cf c V,gl 1 kg (bS V.z.keys)]
structure NO (a:Ka)(V:Hv):Prop where
 run:a.run=none
 cg:a.cg=some ⟨V.v,0,none⟩
 leave:a.leave=false
 cq:a.cq=false
 gone:a.gone=0
 key:IntKind.i64.wrap (a.key.toNat:Int)=V.z.room
structure Tl (H0:aa)(d:Dk)(a:Ka)(R:Hr)(q:Qr)(val:List Wd):Prop where
 run:a.run=some ⟨R.r,0,none⟩
 cg:a.cg=none
 leave:a.leave=false
 cq:a.cq=q.fx
 kind:a.kind=q.kd
 key:a.key=q.ky
 fl:a.fl=q.fl
 qv:q.kd=2->q.val=val.getD 0 0
 right:tz d a.kind a.fl val
 vn:a.vn=val.length
 vl:val.length<=8
 ra:∀L,old H0∈L->lO L a.va val
structure Tm (a:Ka)(V:Hv)(kg:Option Nat)(g:Nat):Prop where
 cg:a.cg=some ⟨V.v,0,none⟩
 leave:a.leave=false
 G4:a.kg=addr kg
 kn:a.kn=V.z.keys.length
 gone:a.gone=(g:Int)
 kz:kg=none->V.z.keys=[]
def Qr.xX (q:Qr):Prop:=q.nx=.change (.take .gZ)∨q.nx=.after (.take .gZ)∨q.nx=.off .gZ∨q.nx=.gp .gZ∨∃v,q.nx=.iD v .gZ
def tj (H0:aa)(c:Lc)(d:Dk)(A:Ab)(M:List (List El))(s:Ag)(q:Qr)(a:Ka)(kk:Nat):Prop:=
 match s with
 |.idle=>a.run=none/\a.cg=none/\a.leave=false/\q.dn=true
 |.run R val=>R.ok/\R.q=q/\q.dn=false/\Tl H0 d a R q val
 |.gG V=>V.ok/\SV V.z q/\q.kd=1/\NO a V
 |.sZ V i pre rest=>V.ok/\IJ c A i V.z pre rest/\q.nx=.leave/\q.dn=false/\q.room=(i:Int)/\V.z.st.kF rest<=kk/\NO a V
 |.rest V kg i g E1 K l=>V.ok/\qg c M V.z i g E1 K l/\q.nx=.leave/\q.dn=false/\q.room=(i:Int)/\1<=kk/\Tm a V kg g/\a.run=none/\a.cq=true
 |.take V kg R i g E1 K l e=>V.ok/\R.ok/\Vr R.q q/\q.xX/\R.q.dn=false/\q.dn=false/\q.room=(i:Int)/\q.ky=e.k/\q.kd=5/\NT c V.z i g E1 K l/\M[i]? =some (K++if q.fx then l else e::l)/\Tm a V kg (g+1)/\a.run=some ⟨R.r,0,none⟩/\a.cq=q.fx/\a.kind=5/\a.key=e.k/\a.fl=0/\q.fl=0/\a.vn=0/\d.kd=4
theorem ax9 (h:q.xX)(hd:q.dn=false):q.holds=true:=by
 rw [holds_of hd];rcases h with h|h|h|h|⟨v,h⟩<;>rw [h]<;>rfl
theorem ah9 (h:q.nx=.leave)(hd:q.dn=false):q.holds=true:=by rw [holds_of hd,h];rfl
theorem tj.iy {s:Ag}{a:Ka}{kk kk':Nat}(h:tj H0 c d A M s q a kk)(hk:kk<=kk')(ho:q.holds=true->∀i:Nat,q.room=(i:Int)->A'.ls[i]? =A.ls[i]? /\M'[i]? =M[i]?):tj H0 c d A' M' s q a kk':=by
 cases s with
 |idle=>exact h
 |run R val=>exact h
 |gG V=>exact h
 |sZ V i pre rest=>
  have⟨h1,h2,h3,h4,h5,h6,h7⟩:=h;have e:=(ho (ah9 h3 h4) i h5).1;exact ⟨h1,⟨h2.dn,h2.room,by rw [e];exact h2.ls,h2.keys,h2.av,h2.ah,h2.ai,h2.st⟩,h3,h4,h5,wK h6 hk,h7⟩
 |rest V kg i g E1 K l=>
  have⟨h1,h2,h3,h4,h5,h6,h7⟩:=h;have e:=(ho (ah9 h3 h4) i h5).2;exact ⟨h1,⟨h2.room,h2.av,h2.len,h2.keys,h2.kl,by rw [e];exact h2.ls,h2.spot,h2.le⟩,h3,h4,h5,wK h6 hk,h7⟩
 |take V kg R i g E1 K l e=>
  have⟨h1,h2,h3,h4,h5,h6,h7,h8,h9,eI,jo,fA⟩:=h;have e2:=(ho (ax9 h4 h6) i h7).2;exact ⟨h1,h2,h3,h4,h5,h6,h7,h8,h9,eI,by rw [e2];exact jo,fA⟩
def Ag.ext (N:Nm):Ag->Nat
 |.idle=>0
 |.run _ _=>0
 |.gG _=>(N.E+1)*(Nm.st N+1)
 |.sZ _ _ _ _=>(N.E+1)*(Nm.st N+1)
 |.rest V _ _ g _ _ l=>(l.length+1)*(Nm.st N+1)
 |.take V _ _ _ g _ _ l _=>(l.length+1)*(Nm.st N+1)
def Told (c:Lc)(d:Dk)(G:Gr)(rs:List Qr)(ps:List (Int×Int))(e:Int):Prop:=e=0∨(d.kd=4/\1<=e/\(∃j:Nat,(e,((j+1:Nat):Int))∈ps)/\qY c G rs e)
structure gJ (H0:aa)(N:Nm)(c:Lc)(cap:Int)(d:Dk)(ll:List (List du))(au:Nat)(A:Ab)(G:Gr)(rs:List Qr)(ks:Nat->Nat)(M:List (List El))(es hl:List Int)(D:Dm)(z:Pz)(Ks:List Ka)(Ss:List Ag)(ex:Nat):Prop where
 w:World N c cap au A G rs ks M
 nh:tp rs
 ins:G.ins≠[]/\∀a∈G.ins,0<=a/\a<(N.n:Int)
 ay:0<=G.S.count/\G.S.count<=au
 iK:∀h∈es,m0 c G rs h
 mo:fy d M G.S es D hl
 gN:D.Ok d
 kj:z.Ok
 zp:pq d es z.ps
 zl:z.ps.length<=au
 vl:D.vs.length<=au
 lk:Ks.length=N.n
 ls:Ss.length=N.n
 KY:ll.length=N.n
 aP:∀(k:Nat)(a:Ka)(dl:List du),Ks[k]? =some a->ll[k]? =some dl->a.aP<=dl.length
 ag:∀(k:Nat)(s:Ag)(q:Qr)(a:Ka),k≠ex->Ss[k]? =some s->rs[k]? =some q->Ks[k]? =some a->tj H0 c d A M s q a (ks k)
 told:∀(k:Nat)(a:Ka),Ks[k]? =some a->Told c d G rs z.ps a.elem
theorem j9 {α:Type}{l:List α}{a b:Nat}{y x:α}(hl:a<l.length)(h:(l.set a y)[b]? =some x):(b=a/\x=y)∨(b≠a/\l[b]? =some x):=by
 rw [mD] at h;by_cases e:a=b
 ·subst e;rw [ar rfl,ar hl] at h;exact .inl ⟨rfl,(dM h).symm⟩
 ·rw [an e] at h;exact .inr ⟨λh2=>e h2.symm,h⟩
theorem gJ.set {ll:List (List du)}{Ks:List Ka}{Ss:List Ag}{tG:Nat}{es' ct:List Int}{z':Pz}{a':Ka}{s':Ag}{dl:List du}{ex:Nat}(Pp:gJ H0 N c cap d ll au A G rs ks M es hl D z Ks Ss ex)(hex:ex=k∨ex=N.n)(hk:k<N.n)(cN:ll[k]? =some dl)
  (w:World N c cap tG A' G' (rs.set k q') ks' M')(nh:tp (rs.set k q'))(ins:G'.ins=G.ins)(ay:0<=G'.S.count/\G'.S.count<=tG)(iK:∀h∈es',m0 c G' (rs.set k q') h)(mo:fy d M' G'.S es' D' ct)(gN:D'.Ok d)(kj:z'.Ok)(zp:pq d es' z'.ps)(zl:z'.ps.length<=tG)(vl:D'.vs.length<=tG)
  (cX:a'.aP<=dl.length)(ml:tj H0 c d A' M' s' q' a' (ks' k))(cT:∀(b2:Nat)(x:Qr),b2≠k->rs[b2]? =some x->x.holds=true->∀i:Nat,x.room=(i:Int)->A'.ls[i]? =A.ls[i]? /\M'[i]? =M[i]?)(kD:∀b2,b2≠k->ks b2<=ks' b2)
  (told:∀e,Told c d G rs z.ps e->Told c d G' (rs.set k q') z'.ps e)(MI:Told c d G' (rs.set k q') z'.ps a'.elem):gJ H0 N c cap d ll tG A' G' (rs.set k q') ks' M' es' ct D' z' (Ks.set k a') (Ss.set k s') N.n:=by
 have lU:k<rs.length:=by rw [<-Pp.w.nn];exact hk
 have bj:k<Ks.length:=by rw [Pp.lk];exact hk
 have xn:k<Ss.length:=by rw [Pp.ls];exact hk
 refine ⟨w,nh,by rw [ins];exact Pp.ins,ay,iK,mo,gN,kj,zp,zl,vl,by rw [gT];exact Pp.lk,by rw [gT];exact Pp.ls,Pp.KY,λk2 a2 UK h1 h2=>?_,λk2 s2 q2 a2 GN h1 h2 h3=>?_,λk2 a2 h1=>?_⟩
 ·rcases j9 bj h1 with ⟨rfl,rfl⟩|⟨_,h⟩
  ·rw [cN] at h2;obtain rfl:=dM h2;exact cX
  ·exact Pp.aP k2 a2 UK h h2
 ·rcases j9 lU h2 with ⟨rfl,rfl⟩|⟨aW,g2⟩
  ·rcases j9 xn h1 with ⟨_,rfl⟩|⟨h,_⟩
   ·rcases j9 bj h3 with ⟨_,rfl⟩|⟨h,_⟩
    ·exact ml
    ·exact absurd rfl h
   ·exact absurd rfl h
  ·rcases j9 xn h1 with ⟨h,_⟩|⟨_,g1⟩
   ·exact absurd h aW
   ·rcases j9 bj h3 with ⟨h,_⟩|⟨_,g3⟩
    ·exact absurd h aW
    ·exact (Pp.ag k2 s2 q2 a2 (by omega) g1 g2 g3).iy (kD k2 aW) (cT k2 q2 aW g2)
 ·rcases j9 bj h1 with ⟨rfl,rfl⟩|⟨_,h⟩
  ·exact MI
  ·exact told _ (Pp.told k2 a2 h)
end
section
variable {H0:aa} {N:Nm} {c:Lc} {A A':Ab} {G G':Gr} {cap:Int} {q q' x:Qr} {i k:Nat} {a au:Nat} {rs:List Qr} {M M':List (List El)} {ks ks':Nat->Nat} {S:Sm} {d:Dk} {D D':Dm} {es hl:List Int} {z:Pz} {st:Option (Int×Wd)}
theorem au6 (W:World N c cap au A G rs ks M){h:Int}(hh:h∈hs M)(hn:0<rs.length):m0 c G rs h:=by
 have hq:rs[0]? =some rs[0]:=cM hn;have⟨h1,_,h3⟩:=W.HZ hq hh;exact ⟨h3,h1,λa q ha hp=>(W.HZ ha hh).2.1 hp⟩
theorem ark (T:yl N c cap au A G rs ks M k q q' G' A' M' ks' st)(ha:rs[k]? =some q)(hd:q.dn=false){h:Int}(l:m0 c G' (rs.set k q') h):val G'.S h=after st G.S h:=
 (T.CY hd h l.ne (l.own k q' ((f_ ha).2 (.inl ⟨rfl,rfl⟩))) l.live).2
theorem aq2 (W:World N c cap au A G rs ks M)(ha:rs[k]? =some q)(hd:q.dn=false){b:Bs}(T:yl N c cap au A G rs ks M k q (q.step c G b).1 (q.step c G b).2 A' M' ks' st)(hE:mW c q M G.S (q.step c G b).1.no (q.step c G b).1.rv (q.step c G b).1.rk (q.step c G b).1.el st M')(he:(q.step c G b).1.aj=true)
  (hl:∀h∈es,m0 c G rs h):∀h,h∈hs M'->h∉hs M->h∉es:=by
 intro h h1 h2 h3;generalize fW:(q.step c G b).1.no=no at hE;generalize (q.step c G b).1.rv=rv at hE;generalize (q.step c G b).1.rk=rk at hE;generalize (q.step c G b).1.el=el at hE;have sub:∀{i:Nat}{pre rest:List El}{e:El},M[i]? =some (pre++e::rest)->h∈hs (M.set i (pre++rest))->False:=λhM hh=>by
  have⟨y,hy,ey⟩:=cL.1 hh;exact h2 (cL.2 ⟨y,(afj hM).mem_iff.2 (jh _ hy),ey⟩)
 cases hE with
 |none=>exact h2 h1
 |oq=>exact h2 h1
 |set=>exact h2 h1
 |look=>exact h2 h1
 |full=>exact h2 h1
 |mem=>exact h2 h1
 |del g1 g2=>exact sub g2.2.1 h1
 |MG g1 g2 g3 g4 g5=>exact sub g5.2.1 h1
 |om=>exact h2 h1
 |next=>exact h2 h1
 |@add i pre rest hn w g1 g2 g3 g4 g5 g6 g7 g8 g9=>
  have hm:yj c M q.ky:=⟨i,_,g3,g4,λx hx e=>by
   rcases dV.1 hx with hx|hx
   ·have:=g5 x hx;rw [e] at this;omega
   ·have:=g6 x hx;rw [e] at this;omega⟩
  have⟨e1,e2,e3,e4⟩:=aqZ (b:=b) W ha hd g1 hm he fW;have W':=T.w;have yO:(rs.set k (q.step c G b).1)[k]? =some (q.step c G b).1:=(f_ ha).2 (.inl ⟨rfl,rfl⟩);rcases W'.fact k _ yO with gH|⟨i0,hF⟩
  ·rw [e4] at gH;cases gH
  ·rw [e2] at hF;have⟨_,_,vo,pS,I,_,xh⟩:=hF;have aE:i<M.length:=(bJ.1 g4).1;have hMi:(M.set i (pre++⟨hn,q.ky⟩::rest))[i]? =some (pre++⟨hn,q.ky⟩::rest):=E4 aE;have mP:(q.step c G b).1.ky=q.ky:=T.qI.2.1;rw [e3,mP] at xh;have qx:bZ q.ky c.d3=(i0:Int):=(W'.iO i0 _ xh).2 ⟨q.made,q.ky⟩ (by simp);obtain rfl:i0=i:=by rw [g3] at qx;omega
   rw [hMi] at xh;have hu:=Zu (W'.iO i0 _ hMi).1 (dM xh) rfl;have rC:hn=q.made:=hZ El.h hu.2.1;have hh:h=hn:=by
    have⟨y,hy,ey⟩:=cL.1 h1;rcases dU.1 ((O5 g4).mem_iff.1 hy) with rfl|hy
    ·exact ey.symm
    ·exact absurd (cL.2 ⟨y,hy,ey⟩) h2
   have tV:=(hl h h3).own k q ha (by rw [e1,hh,rC];exact .head _);rw [aK hd tV] at he;cases he
theorem gJ.go {ll:List (List du)}{Ks:List Ka}{Ss:List Ag}{ex:Nat}(Pp:gJ H0 N c cap d ll au A G rs ks M es hl D z Ks Ss ex)(L:Lk c d M)(ha:rs[k]? =some q)(hd:q.dn=false)(ke:au+1<2305843009213692000)(b:Bs) :
  ∃A' M' ks' st,yl N c cap au A G rs ks M k q (q.step c G b).1 (q.step c G b).2 A' M' ks' st/\
   (∀(b2:Nat)(x:Qr),b2≠k->rs[b2]? =some x->x.holds=true->∀i:Nat,x.room=(i:Int)->A'.ls[i]? =A.ls[i]? /\M'[i]? =M[i]?)/\(∀b2,b2≠k->ks b2<=ks' b2)/\
   (∀h∈es,m0 c (q.step c G b).2 (rs.set k (q.step c G b).1) h)/\(∀e,Told c d G rs z.ps e->Told c d (q.step c G b).2 (rs.set k (q.step c G b).1) z.ps e)/\
   (0<=(q.step c G b).2.S.count/\(q.step c G b).2.S.count<=au+1/\(q.step c G b).2.S.count<=wr (G.S.count+1))/\M'.length=M.length/\
   ((q.step c G b).1.aj=false->M'=M/\fy d M (q.step c G b).2.S es D hl)/\
   ((q.step c G b).1.aj=true->(q.step c G b).1.no=5->M'=M/\fy d M (q.step c G b).2.S es D hl/\q.kd=2/\q.fl≠2/\(∀x∈D.es,x.k≠q.ky)/\G.S.room<3)/\
   ((q.step c G b).1.aj=true->(q.step c G b).1.no≠5->(q.kd=1∨q.kd=2∨q.kd=3∨q.kd=4∨q.kd=5)->∀no rv rk el D',iQ d D q.kd q.ky q.fl q.val no rv rk el D'->
    (q.step c G b).1.no=no/\(q.step c G b).1.rv=rv/\(q.step c G b).1.rk=rk/\Dq d es (q.step c G b).1.el el/\∃es' ct,fy d M' (q.step c G b).2.S es' D' ct/\(es'=es∨∃h,es'=es++[h])/\∀h∈es',m0 c (q.step c G b).2 (rs.set k (q.step c G b).1) h):=by
 have W:=Pp.w;have hb:=W.mem.bk;have⟨A',M',ks',st,T,own,kD,len⟩:=ayd W Pp.nh ha ke b;have cx:M'.length=M.length:=by rw [T.w.cx,len,W.cx]
 have Qh:∀h∈es,m0 c (q.step c G b).2 (rs.set k (q.step c G b).1) h:=λh hh=>(Pp.iK h hh).step W Pp.ins.1 ha hd
 have yN:0<(rs.set k (q.step c G b).1).length:=by rw [gT];have:=(bJ.1 ha).1;omega
 have Cf:∀h,(h∈hs M'∨h∈es)->val (q.step c G b).2.S h=after st G.S h:=λh hh=>by
  rcases hh with hh|hh
  ·exact T.value ha hh
  ·exact ark T ha hd (Qh h hh)
 have kp:=W5 (c:=c) (q:=q) (b:=b) hb.ok Pp.ins.1 hb.fresh;have sy:=Pp.ay;have BR:wr (G.S.count+1)=G.S.count+1:=o_ (by omega);refine ⟨A',M',ks',st,T,λb2 x aW hx hh i hr=>awo W len cx own ha hx aW hh hr,kD,Qh,λe he=>?_,?_,cx,λhe=>?_,λhe h5=>?_,λhe h5 mO no rv rk el D' hD=>?_⟩
 ·rcases he with h|⟨h1,h2,h3,h4⟩
  ·exact .inl h
  ·exact .inr ⟨h1,h2,h3,h4.step W Pp.ins.1 ha hd⟩
 ·rcases kp.ay with e|e<;>rw [e,BR]<;>omega
 ·rcases T.aj hd with ⟨h,_⟩|⟨_,h1,h2,_⟩
  ·rw [he] at h;cases h
  ·subst h1 h2;exact ⟨rfl,Pp.mo.same Cf⟩
 ·rcases T.aj hd with ⟨_,hE⟩|⟨h,_⟩
  ·rw [h5] at hE;generalize (q.step c G b).1.rv=rv at hE;generalize (q.step c G b).1.rk=rk at hE;generalize (q.step c G b).1.el=el at hE;cases hE with
   |mem g1 g2 g3 g4=>exact ⟨rfl,Pp.mo.same Cf,g1,g2,Pp.mo.aiG W.iO g3,g4⟩
  ·rw [he] at h;cases h
 ·rcases T.aj hd with ⟨_,hE⟩|⟨h,_⟩
  ·have nt:=aq2 W ha hd T hE he Pp.iK;have⟨e1,e2,e3,e4,es',ct,m1,m2⟩:=aq4 L W.iO Pp.mo hE h5 mO hD Cf nt λh hh=>by
    obtain ⟨y,hy,rfl⟩:=cL.1 hh
    have:=W.HZ ha hh
    have h1:=hb.sL y.h (II.1 this.2.2);omega
   refine ⟨e1,e2,e3,e4,es',ct,m1,m2.imp_right λ⟨h,h1,_⟩=>⟨h,h1⟩,λh hh=>?_⟩;rcases m2 with rfl|⟨h0,rfl,h1⟩
   ·exact Qh h hh
   ·rcases dV.1 hh with hh|hh
    ·exact Qh h hh
    ·simp only [fo] at hh;subst hh;exact au6 T.w h1 yN
  ·rw [he] at h;cases h
end
section
variable {N:Nm} {c:Lc} {A:Ab} {G:Gr} {cap:Int} {q x:Qr} {i j k:Nat} {au:Nat} {rs:List Qr} {M M':List (List El)} {ks:Nat->Nat} {S:Sm} {d:Dk} {D D':Dm} {es hl:List Int} {z:Pz} {st:Option (Int×Wd)}
theorem aeX {no:Int}{rv:List Wd}{rk:Wd}{el:Int}(h:mW c q M S no rv rk el st M'):rv.length<=1:=by
 cases h<;>first|exact h_ _|exact bq _
theorem iQ.val {kd:Int}{ky:Wd}{fl:Int}{v v':Wd}{no:Int}{rv:List Wd}{rk:Wd}{el:Int}(h:iQ d D kd ky fl v no rv rk el D')(hv:kd=2->v=v'):iQ d D kd ky fl v' no rv rk el D':=by
 cases h with
 |uo f1 f2 f3=>exact .uo f1 f2 f3
 |um f1 f2 f3=>exact .um f1 f2 f3
 |oq f1 f2 f3 f4=>exact .oq f1 f2 f3 f4
 |set f1 f2 f3 f4=>rw [hv f1];exact .set f1 f2 f3 f4
 |full f1 f2 f3 f4=>exact .full f1 f2 f3 f4
 |lay f1 f2 f3 f4=>rw [hv f1];exact .lay f1 f2 f3 f4
 |look f1 f2 f3=>exact .look f1 f2 f3
 |take f1 f2 f3=>exact .take f1 f2 f3
 |del f1 f2 f3 f4 f5 f6=>exact .del f1 f2 f3 f4 f5 f6
 |om f1 f2=>exact .om f1 f2
 |next f1 f2 f3 f4=>exact .next f1 f2 f3 f4
theorem m0.pos (W:World N c cap au A G rs ks M){h:Int}(l:m0 c G rs h):1<=h:=(W.mem.bk.sL h (II.1 l.live)).1
theorem ae0 {e v:Int}(h:Dq d es e v)(hn:es.Nodup)(hp:∀h∈es,1<=h)(k2:d.kd=4∨d.kd=10)(zp:pq d es z.ps):(e=0↔v=0)/\∀q∈z.ps,q.1=e↔q.2=v:=by
 rcases h with ⟨rfl,rfl⟩|⟨k4,j,rfl,h2⟩|⟨jS,rfl⟩
 ·refine ⟨Iff.rfl,λq hq=>?_⟩;rcases zp q hq with ⟨_,j',g1,g2,g3⟩|⟨_,g⟩
  ·constructor<;>intro h<;>omega
  ·rw [g]
 ·refine ⟨⟨λh=>?_,λh=>by omega⟩,λq hq=>?_⟩
  ·have:=hp e (dF h2);omega
  ·rcases zp q hq with ⟨_,j',g1,g2,g3⟩|⟨jS,_⟩
   ·constructor
    ·intro h;rw [h] at g2
     have:=LV hn g2 h2
     subst this;exact g1
    ·intro h
     have:j'=j:=by omega
     subst this;rw [g2] at h2;exact dM h2
   ·omega
 ·refine ⟨Iff.rfl,λq hq=>?_⟩;rcases zp q hq with ⟨k4,_⟩|⟨_,g⟩
  ·omega
  ·rw [g]
theorem pq.more {e v:Int}(h:Dq d es e v)(hp:∀h∈es,1<=h)(he:e≠0){ps:List (Int×Int)}(zp:pq d es ps):pq d es (ps++[(e,v)]):=λq hq=>by
 rcases dV.1 hq with hq|hq
 ·exact zp q hq
 ·simp only [fo] at hq
  subst hq
  rcases h with ⟨h,_⟩|⟨k4,j,h1,h2⟩|⟨jS,h⟩
  ·exact absurd h he
  ·exact .inl ⟨k4,j,h1,h2,hp e (dF h2)⟩
  ·exact .inr ⟨jS,h⟩
theorem pq.grow {es':List Int}{ps:List (Int×Int)}(zp:pq d es ps)(h:es'=es∨∃h,es'=es++[h]):pq d es' ps:=λq hq=>by
 rcases zp q hq with ⟨k4,j,g1,g2,g3⟩|g
 ·refine .inl ⟨k4,j,g1,?_,g3⟩
  rcases h with rfl|⟨h0,rfl⟩
  ·exact g2
  ·rw [uB (bJ.1 g2).1];exact g2
 ·exact .inr g
theorem ax_ (W:World N c cap au A G rs ks M)(Dn:tp rs)(nd:(hs M).Nodup)(ha:rs[k]? =some q)(hh:q.holds=true)(hp:q.nx.nD=false)(hr:q.room=(i:Int)){l:List El}{y:El}(hl:M[i]? =some l)(hy:y∈l):qY c G rs y.h:=by
 have hm:y.h∈hs M:=avu hl hy;have⟨v1,_,v3⟩:=W.HZ ha hm;refine ⟨v3,v1,λcA=>?_⟩;have⟨x,hx,KJ⟩:=zk.1 cA;have⟨b,hb⟩:=qV hx;have xq:=(W.HZ hb hm).2.1 KJ;have GZ:y.h=x.made:=by
  have:x.aB=[x.made]:=by unfold Qr.aB;rw [xq];rfl
  rw [this] at KJ;simpa using KJ
 have mr:x.dn=false:=by
  cases hd:x.dn with
  |false=>rfl
  |true=>
   have:=(QI (Dn b x hb hd) hd).2.2.1
   rw [this] at KJ;cases KJ
 rcases W.fact b x hb with hd|⟨j,hF⟩
 ·rw [mr] at hd;cases hd
 rw [xq] at hF;have⟨_,_,pre,rest,I,_,hM⟩:=hF;have WY:x.holds=true:=by rw [holds_of mr,xq];rfl
 by_cases e:b=k
 ·subst e;rw [ha] at hb;obtain rfl:=dM hb;rw [xq] at hp;cases hp
 ·have Wj:i≠j:=λe2=>by
   subst e2;have⟨Q,hQ,_⟩:=W.pR i I.lt;exact e (hQ.one hb ha WY hh I.room hr)
  have h1:⟨x.made,x.ky⟩∈(pre++(⟨x.made,x.ky⟩:El)::rest):=by simp
  have h2:M.Pairwise λl l'=>∀y∈l,∀y'∈l',y.h≠y'.h:=by
   have:(M.map (List.map El.h)).flatten.Nodup:=by
    have e:hs M=(M.map (List.map El.h)).flatten:=by unfold hs;rw [List.map_flatten]
    rw [<-e];exact nd
   have h3:=(List.pairwise_flatten.1 this).2;rw [List.pairwise_map] at h3;exact h3.imp λhd y hy y' hy'=>hd y.h (cL.2 ⟨y,hy,rfl⟩) y'.h (cL.2 ⟨y',hy',rfl⟩)
  rw [Sn] at h2;have⟨i1,i2⟩:=bJ.1 hl;have⟨j1,j2⟩:=bJ.1 hM;rcases SG Wj with aE|aE
  ·exact h2 i j i1 j1 aE y (by rw [i2];exact hy) _ (by rw [j2];exact h1) GZ
  ·exact h2 j i j1 i1 aE _ (by rw [j2];exact h1) y (by rw [i2];exact hy) GZ.symm
end
section
variable {H H' H0:aa} {R:Value->aa->Prop} {L T:List ax} {N:Nm} {c:Lc} {A A':Ab} {G:Gr} {X X':Gx} {cap:Int} {q q' x:Qr} {i j k:Nat} {n au:Nat} {rs:List Qr} {M M':List (List El)} {ks ks':Nat->Nat} {b:Pb} {S:Sm} {d:Dk} {D D':Dm} {es hl:List Int} {z:Pz} {m:My} {ll:List (List du)} {Ks:List Ka} {Ss:List Ag} {dl:List du} {s s':Ag} {a a':Ka}
theorem iQ.alS {kd:Int}{ky:Wd}{fl:Int}{v:Wd}{no:Int}{rv:List Wd}{rk:Wd}{el:Int}(h:iQ d D kd ky fl v no rv rk el D'):D'.vs.length<=D.vs.length+1:=by
 cases h with
 |set f1 f2 f3 f4=>
  unfold Dm.put;split
  ·show (D.vs.set _ _).length<=_;rw [gT];omega
  ·exact zA _
 |lay f1 f2 f3 f4=>
  unfold Dm.lay;split
  ·show (D.vs++[_]).length<=_;simp
  ·exact zA _
 |_=>exact zA _
theorem arG {t:Bool}(h:(q.found t).aj=true)(h0:q.aj=false):(q.found t).el=0:=by
 rcases Vd (q:=q) (t:=t) with e|e|⟨n,e⟩
 ·rw [e];rfl
 ·rw [e];rfl
 ·rw [e] at h;have h:q.aj=true:=h;rw [h0] at h;cases h
theorem aem {cb:Cb}{t:Bool}(h:(q.cb cb t).aj=true)(h0:q.aj=false):(q.cb cb t).el=0:=by
 cases cb with
 |find=>exact arG h h0
 |next r=>
  unfold Qr.cb at h;dsimp only at h;split at h
  ·have h:q.aj=true:=h;rw [h0] at h;cases h
  ·have h:q.aj=true:=h;rw [h0] at h;cases h
theorem aih {w k:Wd}{bh:Bool}{cb:Cb}(h0:q.aj=false)(h:(q.di w k bh cb).aj=true):(q.di w k bh cb).el=0:=by
 unfold Qr.di at h⊢;split at h
 ·rename_i e;rw [ar e];exact aem h h0
 ·have h:q.aj=true:=h;rw [h0] at h;cases h
theorem apx {w k:Wd}{bh:Bool}{cb:Cb}(h0:q.aj=false)(h:(q.asked w k bh cb).aj=true):(q.asked w k bh cb).el=0:=by
 unfold Qr.asked at h⊢;split at h
 ·rename_i e;rw [ar e];exact aem h h0
 ·have h:q.aj=true:=h;rw [h0] at h;cases h
theorem aq0 (W:World N c cap au A G rs ks M){a:Nat}{b:Bs}(ha:rs[a]? =some q)(hd:q.dn=false)(he:(q.step c G b).1.aj=true)(h0:(q.step c G b).1.el≠0):q.nx=.look:=by
 have hF:∃i:Nat,_:=(W.fact a q ha).resolve_left (by rw [hd];exact jY);have⟨i,hF⟩:=hF;cases hn:q.nx with
 |look=>rfl
 |none=>rw [hn] at hF;exact hF.elim
 |ot=>rw [hn] at hF;exact hF.elim
 |th th=>
  rw [aK hd hn] at he h0;have h0:(Qr.di _ _ _ _ _).el≠0:=h0;exact absurd (aih rfl he) h0
 |load _ _ _=>
  rw [aK hd hn] at he h0;have h0:(Qr.di _ _ _ _ _).el≠0:=h0;exact absurd (aih rfl he) h0
 |ask _ _ _=>
  rw [aK hd hn] at he h0;have h0:(Qr.asked _ _ _ _ _).el≠0:=h0;exact absurd (apx rfl he) h0
 |space=>
  rw [aK hd hn] at he h0;have he:(Qr.space c {q with aj:=false} (G.S.acc c.h 0 true id).1.1 (G.mem (G.S.acc c.h 0 true id).2)).1.aj=true:=he;have h0:(Qr.space c {q with aj:=false} (G.S.acc c.h 0 true id).1.1 (G.mem (G.S.acc c.h 0 true id).2)).1.el≠0:=h0;unfold Qr.space at he h0;split at he
  ·cases he
  ·rename_i e1;split at he
   ·rename_i e2;rw [an e1,ar e2] at h0;exact absurd rfl h0
   ·cases he
 |make=>
  rw [aK hd hn] at he h0;have he:(if (G.S.make b.1 3).1.2≠0 then _ else _:Qr×Gr).1.aj=true:=he;have h0:(if (G.S.make b.1 3).1.2≠0 then _ else _:Qr×Gr).1.el≠0:=h0;split at he
  ·rename_i e1;rw [ar e1] at h0;exact absurd rfl h0
  ·cases he
 |after f=>
  cases f with
  |add=>
   rw [aK hd hn] at he h0;have he:(kR c .add {q with aj:=false} G.S).1.aj=true:=he;have h0:(kR c .add {q with aj:=false} G.S).1.el≠0:=h0;unfold kR at he h0;dsimp only at he h0;split at he
   ·rename_i e1;rw [ar e1] at h0;exact absurd rfl h0
   ·cases he
  |drop=>rw [aK hd hn] at h0;exact absurd rfl h0
  |take _=>rw [aK hd hn] at h0;exact absurd rfl h0
 |set=>rw [aK hd hn] at h0;exact absurd rfl h0
 |k9=>
  rw [aK hd hn] at he h0;have he:(if (Qr.still c {q with aj:=false} G.S).1 then {({q with aj:=false}:Qr).dH 2 [] 0 0 with dn:=true} else ({q with aj:=false}:Qr).to .begin:Qr).aj=true:=he;have h0:(if (Qr.still c {q with aj:=false} G.S).1 then {({q with aj:=false}:Qr).dH 2 [] 0 0 with dn:=true} else ({q with aj:=false}:Qr).to .begin:Qr).el≠0:=h0;split at he
  ·rename_i e1;rw [ar e1] at h0;exact absurd rfl h0
  ·cases he
 |kZ=>
  rw [aK hd hn] at he h0;have he:(if (Qr.still c {q with aj:=false} G.S).1 then (({q with aj:=false}:Qr).dH 0 [] q.key 0).to .leave else ({q with aj:=false}:Qr).to .mn:Qr).aj=true:=he;have h0:(if (Qr.still c {q with aj:=false} G.S).1 then (({q with aj:=false}:Qr).dH 0 [] q.key 0).to .leave else ({q with aj:=false}:Qr).to .mn:Qr).el≠0:=h0;split at he
  ·rename_i e1;rw [ar e1] at h0;exact absurd rfl h0
  ·cases he
 |begin=>rw [aK hd hn] at he;have he:(Qr.search c _ _ _ _).aj=true:=he;rw [RK] at he;cases he
 |free _=>rw [aK hd hn] at he;have he:(Qr.search c _ _ _ _).aj=true:=he;rw [RK] at he;cases he
 |iD v w=>rw [aK hd hn] at he;cases w<;>cases he
 |_=>rw [aK hd hn] at he;cases he
theorem arI {t:Bool}(h:(q.found t).aj=true)(h0:q.aj=false):(q.found t).no≠5:=by
 rcases Vd (q:=q) (t:=t) with e|e|⟨n,e⟩
 ·rw [e];show (3:Int)≠5;decide
 ·rw [e];show (2:Int)≠5;decide
 ·rw [e] at h;have h:q.aj=true:=h;rw [h0] at h;cases h
theorem aen {cb:Cb}{t:Bool}(h:(q.cb cb t).aj=true)(h0:q.aj=false):(q.cb cb t).no≠5:=by
 cases cb with
 |find=>exact arI h h0
 |next r=>
  unfold Qr.cb at h;dsimp only at h;split at h
  ·have h:q.aj=true:=h;rw [h0] at h;cases h
  ·have h:q.aj=true:=h;rw [h0] at h;cases h
theorem aii {w k:Wd}{bh:Bool}{cb:Cb}(h0:q.aj=false)(h:(q.di w k bh cb).aj=true):(q.di w k bh cb).no≠5:=by
 unfold Qr.di at h⊢;split at h
 ·rename_i e;rw [ar e];exact aen h h0
 ·have h:q.aj=true:=h;rw [h0] at h;cases h
theorem apy {w k:Wd}{bh:Bool}{cb:Cb}(h0:q.aj=false)(h:(q.asked w k bh cb).aj=true):(q.asked w k bh cb).no≠5:=by
 unfold Qr.asked at h⊢;split at h
 ·rename_i e;rw [ar e];exact aen h h0
 ·have h:q.aj=true:=h;rw [h0] at h;cases h
theorem aq1 (W:World N c cap au A G rs ks M){a:Nat}{b:Bs}(ha:rs[a]? =some q)(hd:q.dn=false)(he:(q.step c G b).1.aj=true)(h0:(q.step c G b).1.no=5):q.nx=.make:=by
 have hF:∃i:Nat,_:=(W.fact a q ha).resolve_left (by rw [hd];exact jY);have⟨i,hF⟩:=hF;cases hn:q.nx with
 |look=>rw [aK hd hn] at h0;cases h0
 |none=>rw [hn] at hF;exact hF.elim
 |ot=>rw [hn] at hF;exact hF.elim
 |th th=>
  rw [aK hd hn] at he h0;have h0:(Qr.di _ _ _ _ _).no=5:=h0;exact absurd h0 (aii rfl he)
 |load _ _ _=>
  rw [aK hd hn] at he h0;have h0:(Qr.di _ _ _ _ _).no=5:=h0;exact absurd h0 (aii rfl he)
 |ask _ _ _=>
  rw [aK hd hn] at he h0;have h0:(Qr.asked _ _ _ _ _).no=5:=h0;exact absurd h0 (apy rfl he)
 |space=>
  rw [aK hd hn] at he h0;have he:(Qr.space c {q with aj:=false} (G.S.acc c.h 0 true id).1.1 (G.mem (G.S.acc c.h 0 true id).2)).1.aj=true:=he;have h0:(Qr.space c {q with aj:=false} (G.S.acc c.h 0 true id).1.1 (G.mem (G.S.acc c.h 0 true id).2)).1.no=5:=h0;unfold Qr.space at he h0;split at he
  ·cases he
  ·rename_i e1;split at he
   ·rename_i e2;rw [an e1,ar e2] at h0;cases h0
   ·cases he
 |make=>rfl
 |after f=>
  cases f with
  |add=>
   rw [aK hd hn] at he h0;have he:(kR c .add {q with aj:=false} G.S).1.aj=true:=he;have h0:(kR c .add {q with aj:=false} G.S).1.no=5:=h0;unfold kR at he h0;dsimp only at he h0;split at he
   ·rename_i e1;rw [ar e1] at h0;cases h0
   ·cases he
  |drop=>rw [aK hd hn] at h0;cases h0
  |take _=>rw [aK hd hn] at h0;cases h0
 |set=>rw [aK hd hn] at h0;cases h0
 |k9=>
  rw [aK hd hn] at he h0;have he:(if (Qr.still c {q with aj:=false} G.S).1 then {({q with aj:=false}:Qr).dH 2 [] 0 0 with dn:=true} else ({q with aj:=false}:Qr).to .begin:Qr).aj=true:=he;have h0:(if (Qr.still c {q with aj:=false} G.S).1 then {({q with aj:=false}:Qr).dH 2 [] 0 0 with dn:=true} else ({q with aj:=false}:Qr).to .begin:Qr).no=5:=h0;split at he
  ·rename_i e1;rw [ar e1] at h0;cases h0
  ·cases he
 |kZ=>
  rw [aK hd hn] at he h0;have he:(if (Qr.still c {q with aj:=false} G.S).1 then (({q with aj:=false}:Qr).dH 0 [] q.key 0).to .leave else ({q with aj:=false}:Qr).to .mn:Qr).aj=true:=he;have h0:(if (Qr.still c {q with aj:=false} G.S).1 then (({q with aj:=false}:Qr).dH 0 [] q.key 0).to .leave else ({q with aj:=false}:Qr).to .mn:Qr).no=5:=h0;split at he
  ·rename_i e1;rw [ar e1] at h0;cases h0
  ·cases he
 |begin=>rw [aK hd hn] at he;have he:(Qr.search c _ _ _ _).aj=true:=he;rw [RK] at he;cases he
 |free _=>rw [aK hd hn] at he;have he:(Qr.search c _ _ _ _).aj=true:=he;rw [RK] at he;cases he
 |iD v w=>rw [aK hd hn] at he;cases w<;>cases he
 |_=>rw [aK hd hn] at he;cases he
theorem arz {a:Nat}{b:Bs}(W:World N c cap au A G rs ks M)(ha:rs[a]? =some q)(hd:q.dn=false)(he:(q.step c G b).1.aj=true)(h0:(q.step c G b).1.no=5):(q.step c G b).2.S.room=G.S.room:=by
 have hn:=aq1 W ha hd he h0;rcases W.mem.make b.1 with ⟨h1,h2⟩|⟨h1,h2,_⟩
 ·rw [aK hd hn];show (if (G.S.make b.1 3).1.2≠0 then _ else _:Qr×Gr).2.S.room=_;rw [h2];rfl
 ·exfalso;rw [aK hd hn] at he;have he:(if (G.S.make b.1 3).1.2≠0 then _ else _:Qr×Gr).1.aj=true:=he;rw [h2] at he;cases he
theorem fy.ndM (R:fy d M S es D hl):(hs M).Nodup:=by
 have h1:=R.perm.map El.h;have e:(List.zipWith j6 hl D.es).map El.h=hl:=by
  refine x9 λn=>?_
  rw [jg,Dh];cases hx:hl[n]? with
  |none=>rfl
  |some h=>
   have aE:=(bJ.1 hx).1;have⟨x,Qz⟩:∃x,D.es[n]? =some x:=⟨_,cM (by rw [<-R.len];exact aE)⟩;rw [Qz];rfl
 rw [e] at h1;exact h1.nodup_iff.1 R.nd
theorem gJ.alp {b:Bs}{ex:Nat}(Pp:gJ H0 N c cap d ll au A G rs ks M es hl D z Ks Ss ex)(Lq:Lk c d M)(hq:rs[k]? =some q)(hd:q.dn=false)(he:(q.step c G b).1.aj=true)(h0:(q.step c G b).1.el≠0)(k4:d.kd=4):qY c (q.step c G b).2 (rs.set k (q.step c G b).1) (q.step c G b).1.el:=by
 have W:=Pp.w;have hn:=aq0 W hq hd he h0;rcases W.fact k q hq with h|⟨i,hF⟩
 ·rw [hd] at h;cases h
 rw [hn] at hF;have⟨⟨pre,e,rest,I,hu,ek,hb⟩,_,_⟩:=hF;have hh:q.holds=true:=by rw [holds_of hd,hn];rfl
 have hp:q.nx.nD=false:=by rw [hn];rfl
 have hM:M[i]? =some (pre++e::rest):=by rw [W.u5 hq hh hp I.room I.lt];exact I.ls
 have Ro:=ax_ W Pp.nh Pp.mo.ndM hq hh hp I.room hM (y:=e) (by simp);have nr:(q.step c G b).1.el=e.h:=by
  rw [aK hd hn];show Qr.elem c {q with aj:=false} _=e.h;unfold Qr.elem;rw [an (by rw [<-Lq.kd,k4];decide)];exact hu
 rw [nr];exact Ro.step W Pp.ins.1 hq hd
def Nm.C (N:Nm):Nat:=(N.E+2)*(Nm.st N+1)
def zI (N:Nm)(A A':Ab)(ks ks':Nat->Nat)(q q':Qr)(s s':Ag)(a a':Ka)(dl:List du):Prop:=
 gA ks' N.n+s'.ext N+(dl.length - a'.aP)*N.C+1<=gA ks N.n+s.ext N+(dl.length - a.aP)*N.C∨
 (Bv N A q/\gA ks' N.n=gA ks N.n/\A'.sv=A.sv/\A'.ay=A.ay/\q'.nx=q.nx/\q'.room=q.room/\q'.dn=q.dn/\s'.ext N=s.ext N/\a'.aP=a.aP/\(q.dn=true->dl.length<=a.aP))
def Fin (R:Value->aa->Prop)(H0:aa)(N:Nm)(c:Lc)(cap:Int)(d:Dk)(ll:List (List du))(au:Nat)(A:Ab)(rs:List Qr)(ks:Nat->Nat)(Ks:List Ka)(Ss:List Ag)(b:Pb)(m:My)(k:Nat)(q:Qr)(s:Ag)(a:Ka)(dl:List du)(T:List ax):Prop:=
 ∀H' (tG:Nat) A' X' q' ks' M' es' ct D' z' a' s',tG<=au+3->gJ H0 N c cap d ll tG A' X'.G (rs.set k q') ks' M' es' ct D' z' (Ks.set k a') (Ss.set k s') N.n->M'.length=A'.ls.length->zI N A A' ks ks' q q' s s' a a' dl->AS.Sep H' (bF b z' Ks k a' m d D' c X' (s'.B c++T))->R (.bool true) H'
set_option maxHeartbeats 8000000 in
theorem ab5 {Rr:Hr}{val:List Wd}(Pp:gJ H0 N c cap d ll au A X.G rs ks M es hl D z Ks Ss N.n)(sm:lP b m c Ks)(kk:d.Ok)(Lq:Lk c d M)(ke:au<900000000)(hk:k<N.n)(hq:rs[k]? =some Rr.q)(ha:Ks[k]? =some a)(hs:Ss[k]? =some (.run Rr val))(cN:ll[k]? =some dl)(hm:old H0∈T){ck:Nat}(hck:au<=ck+2)
  (h:Sep H (bF b z Ks k a m d D c X (dO c Rr::T)))(hF:Fin R H0 N c cap d ll ck A rs ks Ks Ss b m k Rr.q (.run Rr val) a dl T):CA en F.lR [P b.p,I k] H R:=by
 have⟨cF,_,lT,kr⟩:Rr.ok/\Rr.q=Rr.q/\Rr.q.dn=false/\Tl H0 d a Rr Rr.q val:=Pp.ag k _ _ a (by omega) hs hq ha;have W:=Pp.w;have bj:k<Ks.length:=by rw [Pp.lk];exact hk
 have Cd:=W.mem.lH;have go:=λb=>gJ.go Pp Lq hq lT (by omega) b
 have mO:Rr.q.kd=1∨Rr.q.kd=2∨Rr.q.kd=3∨Rr.q.kd=4∨Rr.q.kd=5:=by
  have:=UM kk kr.right.1
  rw [kr.kind] at this;omega
 have cX:=Pp.aP k a dl ha cN;have xp:=Pp.vl;have QD:=Pp.zl;have yN:∀h∈es,1<=h:=λh hh=>(Pp.iK h hh).pos W
 let Po:Gx->Hr->Prop:=λX' R1=>∃b,R1.ok/\R1.r=Rr.r/\R1.q=(Rr.q.step c X.G b).1/\X'.G=(Rr.q.step c X.G b).2
 let PE:Gx->Hr->Dm->Pz->Int->Prop:=λX' R1 D' z' e=>∃A' M' ks' es' ct,(∃st,yl N c cap au A X.G rs ks M k Rr.q R1.q X'.G A' M' ks' st)/\
   (∀(b2:Nat)(x:Qr),b2≠k->rs[b2]? =some x->x.holds=true->∀i:Nat,x.room=(i:Int)->A'.ls[i]? =A.ls[i]? /\M'[i]? =M[i]?)/\(∀b2,b2≠k->ks b2<=ks' b2)/\
   (∀e,Told c d X.G rs z.ps e->Told c d X'.G (rs.set k R1.q) z'.ps e)/\(0<=X'.G.S.count/\X'.G.S.count<=au+1)/\M'.length=M.length/\
   fy d M' X'.G.S es' D' ct/\(∀h∈es',m0 c X'.G (rs.set k R1.q) h)/\D'.Ok d/\z'.Ok/\pq d es' z'.ps/\z'.ps.length<=au+1/\D'.vs.length<=au+1/\Told c d X'.G (rs.set k R1.q) z'.ps e
 have fin:∀(H':aa)(X':Gx)(R1 R2:Hr)(D':Dm)(z':Pz)(e:Int),Po X' R1->PE X' R1 D' z' e->R2.ok->R2.r=Rr.r->R2.q=R1.q->AS.Sep H' (bF b z' Ks k (a.fj R1.q.aj R1.q.dn e) m d D' c X' (dO c R2::T))->R (.bool true) H':=by
  rintro H' X' R1 R2 D' z' e ⟨b1,_,_,e1,e2⟩ ⟨A',M',ks',es',ct,⟨st,Tn⟩,cT,kD,told,ay,cx,mo,iK,gN,kj,zp,zl,vl,te⟩ lZ pH ni iu;have one:=Tn.one lT;have qI:=Tn.qI;have lW:A'.ls.length=A.ls.length:=by rw [<-Tn.w.nB];exact W.nB
  have HD:∀(s':Ag)(a':Ka),s'.ext N=0->a'.aP=a.aP->zI N A A' ks ks' Rr.q R1.q (.run Rr val) s' a a' dl:=λs' a' g1 g2=>by
   unfold zI;rw [g1,g2];show _+0+_+1<=_+0+_∨_;rcases Tn.ur with h1|⟨h1,h2,h3,h4,h5,h6,h7⟩
   ·left;omega
   ·exact .inr ⟨h1,h2,h3,h4,h5,h6,h7,rfl,rfl,λhh=>by rw [lT] at hh;cases hh⟩
  have mk:∀(s':Ag)(a':Ka),a'.aP=a.aP->Told c d X'.G (rs.set k R1.q) z'.ps a'.elem->tj H0 c d A' M' s' R1.q a' (ks' k)->gJ H0 N c cap d ll (au+1) A' X'.G (rs.set k R1.q) ks' M' es' ct D' z' (Ks.set k a') (Ss.set k s') N.n:=λs' a' g1 g2 g3=>
   Pp.set (.inr rfl) hk cN Tn.w Tn.nh Tn.ins (by omega) iK mo gN kj zp zl vl (by omega) g3 cT kD told g2
  cases gH:R1.q.dn with
  |true=>
   have bK:R1.q.fx=true:=by unfold Qr.fx;rw [gH];rfl
   rw [gH] at iu;have key:∀a1:Ka,a1.leave=false->a1.cg=none->a1.aP=a.aP->a1.elem=e∨a1.elem=a.elem->AS.Sep H' (bF b z' Ks k a1.done m d D' c X' (dO c R2::T))->R (.bool true) H':=λa1 g1 g2 g3 g4 hs=>by
    have ed:a1.done={a1 with run:=none,cq:=a1.cg.isSome}:=an (by rw [g1];exact jY);have tl:Told c d X'.G (rs.set k R1.q) z'.ps a1.elem:=by
     rcases g4 with g|g
     ·rw [g];exact te
     ·rw [g];exact told _ (Pp.told k a ha)
    refine hF H' (au+1) A' X' R1.q ks' M' es' ct D' z' a1.done .idle (by omega) (mk .idle a1.done (by rw [ed];exact g3) (by rw [ed];exact tl) ?_) (by rw [cx,lW];exact W.cx) (HD _ _ rfl (by rw [ed];exact g3)) ?_
    ·rw [ed];exact ⟨rfl,g2,g1,gH⟩
    ·exact Sep.pick hs 16 [0,1,2,3,4,5,6,7,8,9,10,11,12,13,14]
   cases he:R1.q.aj with
   |true=>
    rw [he] at iu;exact key {a with cq:=true,elem:=e} kr.leave kr.cg rfl (.inl rfl) iu
   |false=>
    rw [he] at iu;exact key a kr.leave kr.cg rfl (.inr rfl) iu
  |false=>
   rw [gH] at iu;have kr':∀a1:Ka,a1.cq=R1.q.fx->a1.run=a.run->a1.cg=a.cg->a1.leave=a.leave->a1.kind=a.kind->a1.key=a.key->a1.fl=a.fl->a1.va=a.va->a1.vn=a.vn->Tl H0 d a1 R2 R1.q val:=λa1 g1 g2 g3 g4 g5 g6 g7 g8 g9=>
    ⟨by rw [g2,kr.run,pH],by rw [g3];exact kr.cg,by rw [g4];exact kr.leave,g1,by rw [g5,kr.kind,qI.1],by rw [g6,kr.key,qI.2.1],by rw [g7,kr.fl,qI.2.2.1],λh2=>by rw [qI.2.2.2];exact kr.qv (by rw [<-qI.1];exact h2),by rw [g5,g7];exact kr.right,by rw [g9];exact kr.vn,kr.vl,λL hL=>by rw [g8];exact kr.ra L hL⟩
   cases he:R1.q.aj with
   |true=>
    rw [he] at iu one;refine hF H' (au+1) A' X' R1.q ks' M' es' ct D' z' {a with cq:=true,elem:=e} (.run R2 val) (by omega) (mk _ _ rfl te ⟨lZ,ni,gH,kr' _ (by rw [one.1];simp) rfl rfl rfl rfl rfl rfl rfl rfl⟩) (by rw [cx,lW];exact W.cx) (HD _ _ rfl rfl) iu
   |false=>
    rw [he] at iu one;refine hF H' (au+1) A' X' R1.q ks' M' es' ct D' z' a (.run R2 val) (by omega) (mk _ _ rfl (told _ (Pp.told k a ha)) ⟨lZ,ni,gH,kr' _ (by rw [one.1,kr.cq];simp) rfl rfl rfl rfl rfl rfl rfl rfl⟩) (by rw [cx,lW];exact W.cx) (HD _ _ rfl rfl) iu
 refine akr (Post:=Po) (PostE:=λX' R1 R2 D' z' e=>PE X' R1 D' z' e/\R2.ok/\R2.r=R1.r/\R2.q=R1.q) (T1:=T) sm bj h kr.run ?_ ?_ ?_ ?_ ?_ ?_
 ·intro H1 K h1 hK;have h2:AS.Sep H1 (dO c Rr::xA c::aR c.g c.m X::dm b z::cV z::cW z::dx b Ks k a::dP b d::cZ m d D T):=Sep.pick h1 16 [15,13,14,0,1,2,3,4,5,6,7,8,9,10,11,12];refine RY (Hr.rk cF h2) W.mem.bk.L9 W.mem.bk.fresh (λ_ e=>?_) (by omega) λH' aT X' b1 _ eX kB=>?_
  ·have⟨i,hF⟩:=(W.fact k Rr.q hq).resolve_left (by rw [lT];exact jY);rw [e] at hF;exact hF
  ·have⟨R1,g1,g2,g3,g4⟩:=kB.hr;have et:Rr.q.pX (Rr.q.step c X.G b1).1=((Rr.q.step c X.G b1).1.aj,(Rr.q.step c X.G b1).1.dn):=by unfold Qr.pX;rw [an (by rw [lT];exact jY)]
   rw [et,<-g3];exact hK H' X' R1 ⟨b1,g1,g2,g3,eX⟩ (Sep.pick g4 16 [3,4,5,6,7,8,9,10,11,12,13,14,15,1,2,0])
 ·rintro X' R1 ⟨b1,_,_,_,e2⟩;have⟨_,_,_,_,_,_,_,_,_,g,_⟩:=go b1;rw [e2];exact g.2.2
 ·rintro X' R1 ⟨b1,_,_,e1,_⟩ he;have⟨_,_,_,_,Tn,_⟩:=go b1;rw [e1] at he;refine ⟨?_,kr.leave⟩;rw [kr.cq];cases hf:Rr.q.fx with
  |false=>rfl
  |true=>have:=(Tn.one lT).2 hf;rw [this] at he;cases he
 ·rintro X' R1 ⟨b1,_,_,e1,_⟩ gH;have⟨_,_,_,_,Tn,_⟩:=go b1;rw [e1] at gH⊢;rw [kr.cq,kr.leave,<-(Tn.one lT).1];unfold Qr.fx;rw [gH];simp
 ·intro X' R1 H1 K hP he h1 hK;have⟨b1,CO,D1,e1,e2⟩:=id hP;have⟨A',M',ks',st,Tn,cT,kD,iK,told,ay,cx,_,g5,gE⟩:=go b1;have fB:({a with cq:=true}:Ka).run=some ⟨R1.r,0,none⟩:=by rw [D1];exact kr.run
  have hT:old H0∈T:=hm;have vY:(Rr.q.step c X.G b1).1.aj=true:=by rw [<-e1];exact he
  by_cases h5:R1.q.no=5
  ·have⟨eM,mo,k2,f2,tM,lB⟩:=g5 vY (by rw [<-e1];exact h5);have atS:X'.G.S.room<8:=by
    rw [e2,arz W hq lT vY (by rw [<-e1];exact h5)];omega
   refine aq3 (H0:=H0) sm kk Pp.gN (by omega) bj CO hT h1 fB h5 (by show a.kind=2;rw [kr.kind];exact k2) (by show a.fl≠2;rw [kr.fl];exact f2) (λx hx=>by show x.k≠a.key;rw [kr.key];exact tM x hx) atS λH2 R2 lZ pH ni h2=>?_
   refine hK H2 D z R2 a.elem ⟨⟨A',M',ks',es,hl,⟨st,by rw [e1,e2];exact Tn⟩,cT,kD,by rw [e1,e2];exact told,by rw [e2];exact ⟨ay.1,ay.2.1⟩,cx,by rw [e2,eM];exact mo,by rw [e1,e2];exact iK,Pp.gN,Pp.kj,Pp.zp,by omega,by omega,by rw [e1,e2];exact told _ (Pp.told k a ha)⟩,lZ,pH,ni⟩ h2
  ·have gE:=gE vY (by rw [<-e1];exact h5) mO;have lU:R1.q.rv.length<1000:=by
    rcases Tn.aj lT with ⟨_,hE⟩|⟨h,_⟩
    ·have:=aeX hE;rw [e1];omega
    ·rw [vY] at h;cases h
   refine aeW (H0:=H0) (Post:=λD' el=>iQ d D Rr.q.kd Rr.q.ky Rr.q.fl Rr.q.val R1.q.no R1.q.rv R1.q.rk el D'/\Dq d es R1.q.el el/\∃es' ct,fy d M' X'.G.S es' D' ct/\(es'=es∨∃h,es'=es++[h])/\∀h∈es',m0 c X'.G (rs.set k R1.q) h) (val:=val) sm kk Pp.gN (by omega) Pp.kj (by omega) bj CO hT h1 fB h5 kr.ra kr.vn kr.vl kr.right lU (λno rv rk el D' hD DU=>?_) λH2 D' z' R2 el VR DU aal hz Kx lZ pH ni h2=>?_
   ·have hD:iQ d D Rr.q.kd Rr.q.ky Rr.q.fl Rr.q.val no rv rk el D':=by
     rw [<-kr.kind,<-kr.key,<-kr.fl];exact iQ.val hD λh2=>(kr.qv (by rw [<-kr.kind];exact h2)).symm
    have⟨r1,r2,r3,r4,es',ct,m1,m2,m3⟩:=gE no rv rk el D' hD;rw [<-e1] at r1 r2 r3 r4;rw [<-e2] at m1;rw [<-e1,<-e2] at m3;have hi:=ae0 (z:=z) r4 Pp.mo.vT yN Lq.k2 Pp.zp;refine ⟨r1,r2,r3,hi.1,hi.2,?_,r4,es',ct,m1,m2,m3⟩;rw [r1,r2,r3];exact hD
   ·have⟨hD,r4,es',ct,m1,m2,m3⟩:=VR;have aud:=hD.alS;have aDb:z'.ps.length<=z.ps.length+1:=by
     rcases hz with rfl|⟨_,e⟩
     ·omega
     ·rw [e];simp
    have zp':pq d es' z'.ps:=by
     refine pq.grow (es:=es) ?_ m2;rcases hz with rfl|⟨aW,e⟩
     ·exact Pp.zp
     ·rw [e];exact Pp.zp.more r4 yN aW
    have aan:∀p∈z.ps,p∈z'.ps:=λp hp=>by
     rcases hz with rfl|⟨_,e⟩
     ·exact hp
     ·rw [e];exact iZ _ hp
    have MH:∀e,Told c d X.G rs z.ps e->Told c d X'.G (rs.set k R1.q) z'.ps e:=λe u_=>by
     rcases told e u_ with h|⟨h1,h2,⟨j,hj⟩,h4⟩
     ·exact .inl h
     ·exact .inr ⟨h1,h2,⟨j,aan _ hj⟩,by rw [e1,e2];exact h4⟩
    have VY:(({a with cq:=true}:Ka).el d R1.q.el)={a with cq:=true,elem:=(({a with cq:=true}:Ka).el d R1.q.el).elem}:=by
     unfold Ka.el;split<;>rfl
    have te:Told c d X'.G (rs.set k R1.q) z'.ps (({a with cq:=true}:Ka).el d R1.q.el).elem:=by
     unfold Ka.el;split
     ·rename_i EC;refine .inr ⟨EC.2,EC.1,?_,?_⟩
      ·rcases r4 with ⟨h,_⟩|⟨_,j,hv,_⟩|⟨h,_⟩
       ·omega
       ·exact ⟨j,by rw [<-hv];exact Kx (by omega)⟩
       ·omega
      ·show qY c X'.G (rs.set k R1.q) R1.q.el;rw [e1,e2];exact Pp.alp Lq hq lT vY (by rw [<-e1];omega) EC.2
     ·exact MH _ (Pp.told k a ha)
    rw [VY] at h2;exact hK H2 D' z' R2 _ ⟨⟨A',M',ks',es',ct,⟨st,by rw [e1,e2];exact Tn⟩,cT,kD,MH,by rw [e2];exact ⟨ay.1,ay.2.1⟩,cx,m1,m3,DU,aal,zp',by omega,by omega,te⟩,lZ,pH,ni⟩ h2
 ·intro H' X' R1 R2 D' z' e hP hE hN hs _;cases he:R1.q.aj with
  |true=>
   have⟨hPE,lZ,pH,ni⟩:=hE he;exact fin H' X' R1 R2 D' z' e hP hPE lZ (pH.trans (by have⟨_,_,g,_⟩:=hP;exact g)) ni hs
  |false=>
   obtain ⟨rfl,rfl,rfl,rfl⟩:=hN he;have⟨b1,CO,D1,e1,e2⟩:=id hP;have⟨A',M',ks',st,Tn,cT,kD,iK,told,ay,cx,g0,_⟩:=go b1;have⟨eM,mo⟩:=g0 (by rw [<-e1];exact he);refine fin H' X' R2 R2 D' z' 0 hP ⟨A',M',ks',es,hl,⟨st,by rw [e1,e2];exact Tn⟩,cT,kD,by rw [e1,e2];exact told,by rw [e2];exact ⟨ay.1,ay.2.1⟩,cx,by rw [e2,eM];exact mo,by rw [e1,e2];exact iK,Pp.gN,Pp.kj,Pp.zp,by omega,by omega,.inl rfl⟩ CO D1 rfl hs
end
section
variable {H H' H0:aa} {R:Value->aa->Prop} {N:Nm} {c:Lc} {A A':Ab} {G:Gr} {X X':Gx} {cap:Int} {q x:Qr} {i j k:Nat} {n au:Nat} {rs:List Qr} {M M':List (List El)} {ks ks':Nat->Nat} {b:Pb} {S:Sm} {d:Dk} {D D':Dm} {es hl:List Int} {z:Pz} {m:My} {ll:List (List du)} {Ks:List Ka} {Ss:List Ag} {a:Ka}
theorem alT {p q:Qr}(h:Vr p q)(hl:q.nx≠.leave)(hk:q.xX)(h1:p.dn=false)(h2:q.dn=false):p.fx=q.fx:=by
 unfold Qr.fx;rw [h1,h2];cases h with
 |look g1 g2 _=>rcases hk with h|h|h|h|⟨v,h⟩<;>rw [g2] at h<;>cases h
 |change g1 g2 _ _ _=>rw [g1,g2];rfl
 |after g1 g2 _ _ _=>rw [g1,g2];rfl
 |off g1 g2 _ _ _=>rw [g1,g2];rfl
 |gp g1 g2 _ _ _=>rw [g1,g2];rfl
 |iD g1 g2 _ _ _=>rw [g1,g2];rfl
 |leave g1 g2 _=>exact absurd g2 hl
theorem ZB (h:q.xX):q.nx≠.leave:=by
 intro e;rcases h with h|h|h|h|⟨v,h⟩<;>rw [e] at h<;>cases h
theorem alU {p q:Qr}{b:Bs}(h:Vr p q)(hk:q.xX)(h1:p.dn=false)(h2:q.dn=false) :
  ((p.step c G b).1.dn=false/\(q.step c G b).1.dn=false/\Vr (p.step c G b).1 (q.step c G b).1/\(q.step c G b).1.xX)∨((p.step c G b).1.dn=true/\(q.step c G b).1.nx=.leave/\(q.step c G b).1.dn=false/\q.fx=true/\(q.step c G b).1.aj=false):=by
 have hv:=Fq (c:=c) (G:=G) (b:=b) h h1 h2;rcases hv.2.2.2.2 with ⟨g1,g2,g3⟩|⟨g1,g2,g3,g4⟩|⟨_,g2,_⟩
 ·left;refine ⟨g1,g2,g3,?_⟩;rcases hk with e|e|e|e|⟨v,e⟩
  ·right;left;rw [aK h2 e];rfl
  ·right;right;left;rw [aK h2 e];rfl
  ·right;right;right;left;rw [aK h2 e];rfl
  ·right;right;right;right;exact ⟨_,by rw [aK h2 e];rfl⟩
  ·exfalso;cases h with
   |look a b _=>rw [e] at b;cases b
   |change a b _ _ _=>rw [e] at b;cases b
   |after a b _ _ _=>rw [e] at b;cases b
   |off a b _ _ _=>rw [e] at b;cases b
   |gp a b _ _ _=>rw [e] at b;cases b
   |iD a b _ _ _=>rw [aK h1 a] at g1;cases g1
   |leave a b _=>rw [e] at b;cases b
 ·right;refine ⟨g1,g3,g4,?_⟩;rcases hk with h|h|h|h|⟨v,h⟩
  ·rw [aK h2 h] at g3;cases g3
  ·rw [aK h2 h] at g3;cases g3
  ·rw [aK h2 h] at g3;cases g3
  ·rw [aK h2 h] at g3;cases g3
  ·exact ⟨by unfold Qr.fx;rw [h2,h];rfl,by rw [aK h2 h];rfl⟩
 ·exact absurd g2 (ZB hk)
set_option maxHeartbeats 8000000 in
theorem N_ {T0 T1:List ax}{r:Nat}{QQ:Bs->Gx->Hr->Prop}{ex:Nat}(Pp:gJ H0 N c cap d ll au A X.G rs ks M es hl D z Ks Ss ex)(sm:lP b m c Ks)(kk:d.Ok)(Lq:Lk c d M)(ke:au<900000000)(hk:k<N.n)(hq:rs[k]? =some q)(lT:q.dn=false)(hm:old H0∈T1)(h:Sep H (bF b z Ks k a m d D c X T0))(fB:a.run=some ⟨r,0,none⟩)
  (hef:(∀b,(q.step c X.G b).1.aj=false)∨((q.kd=1∨q.kd=5)/\a.kind=q.kd/\a.key=q.ky/\a.fl=q.fl/\a.vn=0/\tz d a.kind a.fl []))(u6:a.cq=true∨a.leave=true->∀b,(q.step c X.G b).1.aj=false)(u_:Told c d X.G rs z.ps a.elem)
  (cY:∀(H:aa)(K:Value->aa->Prop),AS.Sep H (bF b z Ks k a m d D c X T0)->(∀H' X' R1 b1,R1.ok->R1.r=r->R1.q.aj=(q.step c X.G b1).1.aj->(R1.q.aj=true->R1.q.no=(q.step c X.G b1).1.no/\R1.q.rv=(q.step c X.G b1).1.rv/\R1.q.rk=(q.step c X.G b1).1.rk/\R1.q.el=(q.step c X.G b1).1.el)->X'.G=(q.step c X.G b1).2->QQ b1 X' R1->
   AS.Sep H' (bF b z Ks k a m d D c X' (dO c R1::T1))->K (.tuple #[.bool R1.q.aj,.bool R1.q.dn]) H')->CA en F.BW [P r] H K)
  (gH:∀b1 X' R1,QQ b1 X' R1->R1.q.aj=(q.step c X.G b1).1.aj->R1.q.dn=true->(a.cq||R1.q.aj)≠a.leave)
  (hF:∀(H':aa)(X':Gx)(b1:Bs)(R1 R2:Hr)(A':Ab)(M':List (List El))(ks':Nat->Nat)(es' ct:List Int)(D':Dm)(z':Pz)(e:Int)(st:Option (Int×Wd)),QQ b1 X' R1->R2.ok->R2.r=r->R2.q=R1.q->R1.q.aj=(q.step c X.G b1).1.aj->X'.G=(q.step c X.G b1).2->yl N c cap au A X.G rs ks M k q (q.step c X.G b1).1 X'.G A' M' ks' st->
   (∀(b2:Nat)(x:Qr),b2≠k->rs[b2]? =some x->x.holds=true->∀i:Nat,x.room=(i:Int)->A'.ls[i]? =A.ls[i]? /\M'[i]? =M[i]?)->(∀b2,b2≠k->ks b2<=ks' b2)->
   (∀e,Told c d X.G rs z.ps e->Told c d X'.G (rs.set k (q.step c X.G b1).1) z'.ps e)->(0<=X'.G.S.count/\X'.G.S.count<=au+1)->M'.length=M.length->(R1.q.aj=false->M'=M)->
   fy d M' X'.G.S es' D' ct->(∀h∈es',m0 c X'.G (rs.set k (q.step c X.G b1).1) h)->D'.Ok d->z'.Ok->pq d es' z'.ps->z'.ps.length<=au+1->D'.vs.length<=au+1->Told c d X'.G (rs.set k (q.step c X.G b1).1) z'.ps (a.fj R1.q.aj R1.q.dn e).elem->
   AS.Sep H' (bF b z' Ks k (a.fj R1.q.aj R1.q.dn e) m d D' c X' (dO c R2::T1))->R (.bool true) H'):CA en F.lR [P b.p,I k] H R:=by
 have W:=Pp.w;have bj:k<Ks.length:=by rw [Pp.lk];exact hk
 have go:=λb=>gJ.go Pp Lq hq lT (by omega) b
 have xp:=Pp.vl;have QD:=Pp.zl;have yN:∀h∈es,1<=h:=λh hh=>(Pp.iK h hh).pos W
 let Po:Gx->Hr->Prop:=λX' R1=>∃b1,R1.ok/\R1.r=r/\R1.q.aj=(q.step c X.G b1).1.aj/\(R1.q.aj=true->R1.q.no=(q.step c X.G b1).1.no/\R1.q.rv=(q.step c X.G b1).1.rv/\R1.q.rk=(q.step c X.G b1).1.rk/\R1.q.el=(q.step c X.G b1).1.el)/\X'.G=(q.step c X.G b1).2/\QQ b1 X' R1
 let PE:Gx->Hr->Hr->Dm->Pz->Int->Prop:=λX' R1 R2 D' z' e=>R2.ok/\R2.r=R1.r/\R2.q=R1.q/\∃b1 A' M' ks' es' ct st,QQ b1 X' R1/\R1.q.aj=(q.step c X.G b1).1.aj/\X'.G=(q.step c X.G b1).2/\yl N c cap au A X.G rs ks M k q (q.step c X.G b1).1 X'.G A' M' ks' st/\
   (∀(b2:Nat)(x:Qr),b2≠k->rs[b2]? =some x->x.holds=true->∀i:Nat,x.room=(i:Int)->A'.ls[i]? =A.ls[i]? /\M'[i]? =M[i]?)/\(∀b2,b2≠k->ks b2<=ks' b2)/\
   (∀e,Told c d X.G rs z.ps e->Told c d X'.G (rs.set k (q.step c X.G b1).1) z'.ps e)/\(0<=X'.G.S.count/\X'.G.S.count<=au+1)/\M'.length=M.length/\(R1.q.aj=false->M'=M)/\
   fy d M' X'.G.S es' D' ct/\(∀h∈es',m0 c X'.G (rs.set k (q.step c X.G b1).1) h)/\D'.Ok d/\z'.Ok/\pq d es' z'.ps/\z'.ps.length<=au+1/\D'.vs.length<=au+1/\Told c d X'.G (rs.set k (q.step c X.G b1).1) z'.ps e
 have nel:∀(aj dn:Bool)(e:Int),(a.fj aj dn e).elem=if aj then e else a.elem:=λaj dn e=>by
  unfold Ka.fj Ka.done;cases aj<;>cases dn<;>simp<;>split<;>rfl
 refine akr (Post:=Po) (PostE:=PE) (T1:=T1) sm bj h fB ?_ ?_ ?_ ?_ ?_ ?_
 ·intro H1 K h1 hK;exact cY H1 K h1 λH' X' R1 b1 g1 g2 g3 g4 g5 g6 g7=>hK H' X' R1 ⟨b1,g1,g2,g3,g4,g5,g6⟩ g7
 ·rintro X' R1 ⟨b1,_,_,_,_,e2,_⟩;have⟨_,_,_,_,_,_,_,_,_,g,_⟩:=go b1;rw [e2];exact g.2.2
 ·rintro X' R1 ⟨b1,_,_,e1,_,_,_⟩ he;rw [e1] at he;refine ⟨?_,?_⟩
  ·cases hh:a.cq with
   |false=>rfl
   |true=>have:=u6 (.inl hh) b1;rw [this] at he;cases he
  ·cases hh:a.leave with
   |false=>rfl
   |true=>have:=u6 (.inr hh) b1;rw [this] at he;cases he
 ·rintro X' R1 ⟨b1,_,_,e1,_,_,hQ⟩ hd;exact gH b1 X' R1 hQ e1 hd
 ·intro X' R1 H1 K hP he h1 hK;have⟨b1,CO,D1,e1,e4,e2,hQ⟩:=id hP;have⟨f1,f2,f3,f4⟩:=e4 he;have⟨A',M',ks',st,Tn,cT,kD,iK,told,ay,cx,_,g5,gE⟩:=go b1;have vY:(q.step c X.G b1).1.aj=true:=by rw [<-e1];exact he
  rcases hef with xm|⟨mO,Wo,nY,mM,tW,WQ⟩
  ·rw [xm b1] at vY;cases vY
  have atT:({a with cq:=true}:Ka).run=some ⟨R1.r,0,none⟩:=by rw [D1];exact fB
  have h5:(q.step c X.G b1).1.no≠5:=λh5=>by
   have:=(g5 vY h5).2.2.1
   omega
  have gE:=gE vY h5 (by omega);have lU:R1.q.rv.length<1000:=by
   rcases Tn.aj lT with ⟨_,hE⟩|⟨h,_⟩
   ·have:=aeX hE;rw [f2];omega
   ·rw [vY] at h;cases h
  refine aeW (H0:=H0) (Post:=λD' el=>D'.vs.length<=D.vs.length+1/\Dq d es R1.q.el el/\∃es' ct,fy d M' X'.G.S es' D' ct/\(es'=es∨∃h,es'=es++[h])/\∀h∈es',m0 c X'.G (rs.set k (q.step c X.G b1).1) h) (val:=[]) sm kk Pp.gN (by omega) Pp.kj (by omega) bj CO hm h1 atT (by rw [f1];exact h5) (λ_ _ _ _ j w hw=>by simp at hw) tW (by decide) WQ lU (λno rv rk el D' hD DU=>?_) λH2 D' z' R2 el VR DU aal hz Kx lZ pH ni h2=>?_
  ·have hD:iQ d D q.kd q.ky q.fl q.val no rv rk el D':=by
    have hD:iQ d D a.kind a.key a.fl _ no rv rk el D':=hD;rw [Wo,nY,mM] at hD;exact iQ.val hD λh2=>by omega
   have⟨r1,r2,r3,r4,es',ct,m1,m2,m3⟩:=gE no rv rk el D' hD;rw [<-f1] at r1;rw [<-f2] at r2;rw [<-f3] at r3;rw [<-f4] at r4;rw [<-e2] at m1 m3;have hi:=ae0 (z:=z) r4 Pp.mo.vT yN Lq.k2 Pp.zp;exact ⟨r1,r2,r3,hi.1,hi.2,hD.alS,r4,es',ct,m1,m2,m3⟩
  ·have⟨aud,r4,es',ct,m1,m2,m3⟩:=VR;have aDb:z'.ps.length<=z.ps.length+1:=by
    rcases hz with rfl|⟨_,e⟩
    ·omega
    ·rw [e];simp
   have zp':pq d es' z'.ps:=by
    refine pq.grow (es:=es) ?_ m2;rcases hz with rfl|⟨aW,e⟩
    ·exact Pp.zp
    ·rw [e];exact Pp.zp.more r4 yN aW
   have aan:∀p∈z.ps,p∈z'.ps:=λp hp=>by
    rcases hz with rfl|⟨_,e⟩
    ·exact hp
    ·rw [e];exact iZ _ hp
   have MH:∀e,Told c d X.G rs z.ps e->Told c d X'.G (rs.set k (q.step c X.G b1).1) z'.ps e:=λe u_=>by
    rcases told e u_ with h|⟨h1,h2,⟨j,hj⟩,h4⟩
    ·exact .inl h
    ·exact .inr ⟨h1,h2,⟨j,aan _ hj⟩,by rw [e2];exact h4⟩
   have VY:(({a with cq:=true}:Ka).el d R1.q.el)={a with cq:=true,elem:=(({a with cq:=true}:Ka).el d R1.q.el).elem}:=by
    unfold Ka.el;split<;>rfl
   have te:Told c d X'.G (rs.set k (q.step c X.G b1).1) z'.ps (({a with cq:=true}:Ka).el d R1.q.el).elem:=by
    unfold Ka.el;split
    ·rename_i EC;refine .inr ⟨EC.2,EC.1,?_,?_⟩
     ·rcases r4 with ⟨h,_⟩|⟨_,j,hv,_⟩|⟨h,_⟩
      ·omega
      ·exact ⟨j,by rw [<-hv];exact Kx (by omega)⟩
      ·omega
     ·show qY c X'.G (rs.set k (q.step c X.G b1).1) R1.q.el;rw [f4,e2];exact Pp.alp Lq hq lT vY (by rw [<-f4];omega) EC.2
    ·exact MH _ u_
   rw [VY] at h2;exact hK H2 D' z' R2 _ ⟨lZ,pH,ni,b1,A',M',ks',es',ct,st,hQ,e1,e2,by rw [e2];exact Tn,cT,kD,MH,by rw [e2];exact ⟨ay.1,ay.2.1⟩,cx,λhf=>(by rw [he] at hf;cases hf),m1,m3,DU,aal,zp',by omega,by omega,te⟩ h2
 ·intro H' X' R1 R2 D' z' e hP hE hN hs _;cases he:R1.q.aj with
  |true=>
   have⟨lZ,pH,ni,b1,A',M',ks',es',ct,st,hQ,e1,e2,Tn,cT,kD,told,ay,cx,hM,mo,iK,gN,kj,zp,zl,vl,te⟩:=hE he;refine hF H' X' b1 R1 R2 A' M' ks' es' ct D' z' e st hQ lZ (pH.trans (by have⟨_,_,g,_⟩:=hP;exact g)) ni e1 e2 Tn cT kD told ay cx hM mo iK gN kj zp zl vl ?_ hs;rw [nel,he];exact te
  |false=>
   obtain ⟨rfl,rfl,rfl,rfl⟩:=hN he;have⟨b1,CO,D1,e1,e4,e2,hQ⟩:=id hP;have⟨A',M',ks',st,Tn,cT,kD,iK,told,ay,cx,g0,_⟩:=go b1;have⟨eM,mo⟩:=g0 (by rw [<-e1];exact he);refine hF H' X' b1 R2 R2 A' M' ks' es hl D' z' 0 st hQ CO D1 rfl e1 e2 (by rw [e2];exact Tn) cT kD (by rw [e2];exact told) (by rw [e2];exact ⟨ay.1,ay.2.1⟩) cx (λ_=>eM) (by rw [e2,eM];exact mo) (by rw [e2];exact iK) Pp.gN Pp.kj Pp.zp (by omega) (by omega) ?_ hs;rw [nel,he];show Told c d X'.G (rs.set k (q.step c X.G b1).1) z'.ps a.elem;rw [e2];exact told _ u_
end
section
variable {H H' H0:aa} {R:Value->aa->Prop} {T:List ax} {N:Nm} {c:Lc} {A A':Ab} {G:Gr} {X X':Gx} {cap:Int} {q:Qr} {i k:Nat} {n au:Nat} {rs:List Qr} {M M':List (List El)} {ks ks':Nat->Nat} {b:Pb} {S:Sm} {d:Dk} {D D':Dm} {es hl:List Int} {z:Pz} {m:My} {ll:List (List du)} {Ks:List Ka} {Ss:List Ag} {dl:List du} {s':Ag} {a a':Ka}
theorem ax4 {st:Option (Int×Wd)}{no:Int}{rv:List Wd}{rk:Wd}{el:Int}{K l:List El}{e:El}(kU:IH c M)(hE:mW c q M S no rv rk el st M')(hk:q.kd=5)(mP:q.ky=e.k)(hM:M[i]? =some (K++e::l)):M'[i]? =some (K++l):=by
 have hb:bZ e.k c.d3=(i:Int):=(kU i _ hM).2 e (by simp);cases hE with
 |none g1 g2 g3=>
  exfalso;have⟨i2,l2,h1,h2,h3⟩:=g3;rw [mP,hb] at h1;obtain rfl:i=i2:=by omega
  rw [hM] at h2;obtain rfl:=dM h2;exact h3 e (by simp) mP.symm
 |MG g1 g2 g3 g4 g5=>
  have⟨h1,h2,h3⟩:=g5;rw [mP,hb] at h1;rename_i i2 pre rest e2;obtain rfl:i=i2:=by omega
  rw [hM] at h2;have hu:=Zu (kU i _ hM).1 (dM h2) (by rw [h3,mP]);obtain ⟨rfl,_,rfl⟩:=hu;exact E4 (bJ.1 hM).1
 |oq g1=>omega
 |set g1=>omega
 |look g1=>omega
 |full g1=>omega
 |mem g1=>omega
 |add g1=>omega
 |del g1=>omega
 |om g1=>omega
 |next g1=>omega
set_option maxHeartbeats 8000000 in
theorem apA {V:Hv}{kg:Option Nat}{Rr:Hr}{g:Nat}{E1:List Int}{Kl l:List El}{e:El}(Pp:gJ H0 N c cap d ll au A X.G rs ks M es hl D z Ks Ss N.n)(sm:lP b m c Ks)(kk:d.Ok)(Lq:Lk c d M)(ke:au<900000000)(hk:k<N.n)(hq:rs[k]? =some q)(ha:Ks[k]? =some a)(hs:Ss[k]? =some (.take V kg Rr i g E1 Kl l e))(cN:ll[k]? =some dl)(hm:old H0∈T)
  (h:Sep H (bF b z Ks k a m d D c X (dO c Rr::cf c V::gl 1 kg (bS V.z.keys)::T)))(hF:Fin R H0 N c cap d ll au A rs ks Ks Ss b m k q (.take V kg Rr i g E1 Kl l e) a dl T):CA en F.lR [P b.p,I k] H R:=by
 have⟨ux,cF,vr,xX,pd,qd,qr,X8,Ru,tk,hM,kt,KU,KT,QN,W9,QM,qfl,Xc,k4⟩:=Pp.ag k _ _ a (by omega) hs hq ha;have W:=Pp.w;have Cd:=W.mem.lH;have cX:=Pp.aP k a dl ha cN;have bK:Rr.q.fx=q.fx:=alT vr (ZB xX) xX pd qd;have WQ:tz d a.kind a.fl []:=by rw [QN,QM];exact UL (by rw [k4];decide) (by decide)
 refine N_ (T1:=cf c V::gl 1 kg (bS V.z.keys)::T) (QQ:=λb1 X' R1=>R1.q=(Rr.q.step c X.G b1).1) Pp sm kk Lq ke hk hq qd (by simp [hm]) h KU (.inr ⟨.inr Ru,QN.trans Ru.symm,W9.trans X8.symm,QM.trans qfl.symm,Xc,WQ⟩) (λmQ b1=>?_) (Pp.told k a ha) (λH1 K h1 hK=>?_) (λb1 X' R1 hQ he hd=>?_) ?_
 ·have⟨_,_,_,_,Tn,_⟩:=gJ.go Pp Lq hq qd (by omega) b1;rcases mQ with h1|h1
  ·exact (Tn.one qd).2 (by rw [<-KT];exact h1)
  ·rw [kt.leave] at h1;cases h1
 ·have h2:AS.Sep H1 (dO c Rr::xA c::aR c.g c.m X::dm b z::cV z::cW z::dx b Ks k a::dP b d::cZ m d D (cf c V::gl 1 kg (bS V.z.keys)::T)):=Sep.pick h1 16 [15,13,14,0,1,2,3,4,5,6,7,8,9,10,11,12];refine RY (Hr.rk cF h2) W.mem.bk.L9 W.mem.bk.fresh (λ_ e0=>?_) (by omega) λH' aT X' b1 _ eX kB=>?_
  ·cases vr with
   |look g1 _ _=>rw [g1] at e0;cases e0
   |change g1 _ _ _ _=>rw [g1] at e0;cases e0
   |after g1 _ _ _ _=>rw [g1] at e0;cases e0
   |off g1 _ _ _ _=>rw [g1] at e0;cases e0
   |gp g1 _ _ _ _=>rw [g1] at e0;cases e0
   |iD g1 _ _ _ _=>rw [g1] at e0;cases e0
   |leave g1 _ _=>rw [g1] at e0;cases e0
  ·have⟨R1,g1,g2,g3,g4⟩:=kB.hr;have hv:=Fq (c:=c) (G:=X.G) (b:=b1) vr pd qd;have et:Rr.q.pX (Rr.q.step c X.G b1).1=((Rr.q.step c X.G b1).1.aj,(Rr.q.step c X.G b1).1.dn):=by unfold Qr.pX;rw [an (by rw [pd];exact jY)]
   rw [et,<-g3];exact hK H' X' R1 b1 g1 g2 (by rw [g3];exact hv.2.1) (λhe=>by rw [g3] at he⊢;exact hv.2.2.2.1 he) (eX.trans hv.1) g3 (Sep.pick g4 16 [3,4,5,6,7,8,9,10,11,12,13,14,15,1,2,0])
 ·rw [kt.leave];rcases alU (c:=c) (G:=X.G) (b:=b1) vr xX pd qd with ⟨g1,_⟩|⟨_,_,_,g4,_⟩
  ·rw [hQ,g1] at hd;cases hd
  ·rw [KT,g4];simp
 ·intro H' X' b1 R1 R2 A' M' ks' es' ct D' z' e' st hQ lZ pH ni yL eX Tn cT kD told ay cx JV mo iK gN kj zp zl vl te iu;have hv:=Fq (c:=c) (G:=X.G) (b:=b1) vr pd qd;have one:=Tn.one qd;have lW:A'.ls.length=A.ls.length:=by rw [<-Tn.w.nB];exact W.nB
  have lB:(q.step c X.G b1).1.room=(i:Int):=by rw [hv.2.2.1];exact qr
  have xh:M'[i]? =some (Kl++if (q.step c X.G b1).1.fx then l else e::l):=by
   rw [one.1];cases hf:(q.step c X.G b1).1.aj with
   |true=>
    have h0:q.fx=false:=by
     cases yP:q.fx with
     |false=>rfl
     |true=>have:=one.2 yP;rw [this] at hf;cases hf
    rw [h0] at hM;rcases Tn.aj qd with ⟨_,hE⟩|⟨h,_⟩
    ·rw [h0];exact ax4 W.iO hE Ru X8 hM
    ·rw [hf] at h;cases h
   |false=>
    rw [JV (by rw [yL];exact hf),Nr];exact hM
  have HD:∀(s':Ag)(a':Ka),s'.ext N=(l.length+1)*(Nm.st N+1)->a'.aP=a.aP->zI N A A' ks ks' q (q.step c X.G b1).1 (.take V kg Rr i g E1 Kl l e) s' a a' dl:=λs' a' g1 g2=>by
   unfold zI;rw [g1,g2];have ge:(Ag.take V kg Rr i g E1 Kl l e).ext N=(l.length+1)*(Nm.st N+1):=rfl;rw [ge];rcases Tn.ur with h1|⟨h1,h2,h3,h4,h5,h6,h7⟩
   ·left;omega
   ·exact .inr ⟨h1,h2,h3,h4,h5,h6,h7,rfl,rfl,λhh=>by rw [qd] at hh;cases hh⟩
  have PX:∀(aj dn:Bool)(e:Int),(a.fj aj dn e).aP=a.aP:=λaj dn e=>by
   unfold Ka.fj Ka.done;cases aj<;>cases dn<;>simp<;>split<;>rfl
  rcases alU (c:=c) (G:=X.G) (b:=b1) vr xX pd qd with ⟨g1,g2,g3,g4⟩|⟨g1,g2,g3,g4,g5⟩
  ·have OQ:R1.q.dn=false:=by rw [hQ];exact g1
   have efx:R2.q.fx=(q.step c X.G b1).1.fx:=by rw [ni,hQ];exact alT g3 (ZB g4) g4 g1 g2
   rw [OQ] at iu te;have row:∀aj e',aj=R1.q.aj->(a.fj aj false e')=a.fj aj false e'/\Tm (a.fj aj false e') V kg (g+1)/\(a.fj aj false e').run=some ⟨R2.r,0,none⟩/\(a.fj aj false e').cq=(q.step c X.G b1).1.fx/\(a.fj aj false e').kind=5/\(a.fj aj false e').key=e.k/\(a.fj aj false e').fl=0/\(a.fj aj false e').vn=0:=λaj e' he=>by
    have h1:(q.step c X.G b1).1.fx=(q.fx||aj):=by rw [one.1,he,yL]
    cases aj with
    |true=>exact ⟨rfl,⟨kt.cg,kt.leave,kt.G4,kt.kn,kt.gone,kt.kz⟩,by rw [pH];exact KU,by rw [h1];simp [Ka.fj],QN,W9,QM,Xc⟩
    |false=>exact ⟨rfl,⟨kt.cg,kt.leave,kt.G4,kt.kn,kt.gone,kt.kz⟩,by rw [pH];exact KU,by rw [h1,Nr];exact KT,QN,W9,QM,Xc⟩
   have⟨_,r1,r2,r3,r4,r5,r6,r7⟩:=row R1.q.aj e' rfl;refine hF H' (au+1) A' X' _ ks' M' es' ct D' z' _ (.take V kg R2 i g E1 Kl l e) (by omega) (Pp.set (.inr rfl) hk cN Tn.w Tn.nh Tn.ins (by omega) iK mo gN kj zp zl vl (by rw [PX];omega) ⟨ux,lZ,by rw [ni,hQ];exact g3,g4,by rw [ni];exact OQ,g2,lB,by rw [Tn.qI.2.1];exact X8,by rw [Tn.qI.1];exact Ru,tk,xh,r1,r2,r3,r4,r5,r6,by rw [Tn.qI.2.2.1];exact qfl,r7,k4⟩ cT kD told te) (by rw [cx,lW];exact W.cx) (HD _ _ rfl (PX ..)) iu
  ·have OQ:R1.q.dn=true:=by rw [hQ];exact g1
   have aqU:R1.q.aj=false:=by rw [yL];exact g5
   rw [OQ,aqU] at iu te;have ed:a.fj false true e'={a with run:=none,cq:=a.cg.isSome}:=by
    show a.done=_;exact an (by rw [kt.leave];exact jY)
   have hM2:M'[i]? =some (Kl++l):=by
    rw [xh,one.1,g4];rfl
   have yO:(rs.set k (q.step c X.G b1).1)[k]? =some (q.step c X.G b1).1:=(f_ hq).2 (.inl ⟨rfl,rfl⟩);have⟨_,_,_,Kt⟩:=Tn.w.Xn yO g3 g2;refine hF H' (au+1) A' X' _ ks' M' es' ct D' z' _ (.rest V kg i (g+1) (E1++[0]) Kl l) (by omega) (Pp.set (.inr rfl) hk cN Tn.w Tn.nh Tn.ins (by omega) iK mo gN kj zp zl vl (by rw [PX];omega) ⟨ux,tk.kY hM2,g2,g3,lB,Kt,?_,?_,?_⟩ cT kD told te) (by rw [cx,lW];exact W.cx) (HD _ _ rfl (PX ..)) (Sep.pick iu 18 [0,1,2,3,4,5,6,7,8,9,10,11,12,13,14,16,17])
   ·rw [ed];exact ⟨kt.cg,kt.leave,kt.G4,kt.kn,kt.gone,kt.kz⟩
   ·rw [ed]
   ·rw [ed];show a.cg.isSome=true;rw [kt.cg];rfl
end
section
variable {H H' H0:aa} {R:Value->aa->Prop} {T:List ax} {N:Nm} {c:Lc} {A:Ab} {G:Gr} {X:Gx} {cap:Int} {q q' x:Qr} {i k:Nat} {n k' au:Nat} {rs:List Qr} {M:List (List El)} {ks:Nat->Nat} {b:Pb} {S:Sm} {d:Dk} {D:Dm} {es hl:List Int} {z:Pz} {m:My} {ll:List (List du)} {Ks:List Ka} {Ss:List Ag} {dl:List du} {s':Ag} {a a':Ka}
theorem Told.set {ps:List (Int×Int)}{S':Sm}{e:Int}(h:Told c d G rs ps e)(ha:rs[k]? =some q)(h':q'.aB=[])(hl:∀h,G.S.V h≠none->S'.V h≠none):Told c d (G.mem S') (rs.set k q') ps e:=by
 rcases h with h|⟨h1,h2,h3,h4⟩
 ·exact .inl h
 ·obtain ⟨n,rfl⟩:∃n:Nat,e=(n:Int):=⟨e.toNat,by omega⟩;exact .inr ⟨h1,h2,h3,qY.set h4 ha h' hl⟩
theorem gJ.akE {ex:Nat}{S':Sm}{q2:Qr}(Pp:gJ H0 N c cap d ll au A G rs ks M es hl D z Ks Ss ex)(hex:ex=k∨ex=N.n)(hk:k<N.n)(cN:ll[k]? =some dl)(hq:rs[k]? =some q)(hQ:qZ q)(yI:qZ q2)(hr:q2.room=q.room)(aW:∀t th,q2.nx≠.enter t th)(hs:q2.nx.scan N.B q2.room=none)
  (hm:Mem c cap A (rs.flatMap Qr.aB) (G.mem S'))(hV:∀h,S'.V h=G.S.V h)(hf:Fact N c A M G.S.V q2 k')(qy:0<=S'.count/\S'.count<=au+1)(ke:au<900000000)(cX:a'.aP<=dl.length)(ml:tj H0 c d A M s' q2 a' k')(MI:Told c d G rs z.ps a'.elem) :
  gJ H0 N c cap d ll (au+1) A (G.mem S') (rs.set k q2) (rM ks k k') M es hl D z (Ks.set k a') (Ss.set k s') N.n:=by
 have⟨w,dn⟩:=Pp.w.alq Pp.nh hq hQ yI hr aW hs hm hV hf (by omega);have hl:∀h,G.S.V h≠none->S'.V h≠none:=λh hh=>by rw [hV];exact hh
 have hv:∀h,val S' h=val G.S h:=λh=>by unfold val;rw [hV]
 have e1:rM ks k k' k=k':=ar rfl;refine Pp.set hex hk cN w dn rfl qy (λh hh=>(Pp.iK h hh).set hq yI.pr hl) (Pp.mo.same λh _=>hv h) Pp.gN Pp.kj Pp.zp (by have:=Pp.zl;omega) (by have:=Pp.vl;omega) cX (by rw [e1];exact ml) (λ_ _ _ _ _ _ _=>⟨rfl,rfl⟩) (λb2 J9=>?_) (λe he=>he.set hq yI.pr hl) (MI.set hq yI.pr hl);show ks b2<=if b2=k then k' else ks b2+0;rw [an J9];omega
set_option maxHeartbeats 8000000 in
theorem apD {V:Hv}{pre rest:List El}(Pp:gJ H0 N c cap d ll au A X.G rs ks M es hl D z Ks Ss N.n)(sm:lP b m c Ks)(kk:d.Ok)(Lq:Lk c d M)(ke:au<900000000)(hk:k<N.n)(hq:rs[k]? =some q)(ha:Ks[k]? =some a)(hs:Ss[k]? =some (.sZ V i pre rest))(cN:ll[k]? =some dl)
  (h:Sep H (bF b z Ks k a m d D c X (cf c V::T)))(hF:Fin R H0 N c cap d ll au A rs ks Ks Ss b m k q (.sZ V i pre rest) a dl T):CA en F.lR [P b.p,I k] H R:=by
 have⟨ux,wk,qn,qd,qr,kF,kv⟩:=Pp.ag k _ _ a (by omega) hs hq ha;have W:=Pp.w;have Cd:=W.mem.lH;have cX:=Pp.aP k a dl ha cN;have bj:k<Ks.length:=by rw [Pp.lk];exact hk
 have hQ:=Yb qd qn;have hi:i<A.ls.length:=(bJ.1 wk.ls).1;have hM:M[i]? =some (pre++rest):=by rw [W.Yk hq hQ qr hi];exact wk.ls
 have Wq:=W.QS hM;have hE:=W.wC;have⟨g1,g2,g3⟩:=aCI (z:=V.z) W.mem wk;have kp:=ahB (c:=c) (S:=X.G.S) (z:=V.z) (x:=[]);have sy:=Pp.ay;have BR:wr (X.G.S.count+1)=X.G.S.count+1:=o_ (by omega);have qy:0<=(V.z.step c X.G.S).2.count/\(V.z.step c X.G.S).2.count<=au+1/\(V.z.step c X.G.S).2.count<=wr (X.G.S.count+1):=by
  rcases kp.ay with e|e<;>rw [e,BR]<;>omega
 have lB:V.z.room=(i:Int):=wk.room;have xk:V.z.keys.length<=1000/\V.z.av.length<=1000:=by
  rw [wk.keys,wk.av,gb,gb];rw [e_] at Wq;omega
 have aDE:2<=ks k:=by
  have h2:=wk.st;cases cB:V.z.st with
  |load=>rw [cB] at kF;have kF:2*rest.length+2<=ks k:=kF;omega
  |ask w=>
   rw [cB] at kF h2;obtain ⟨e,r,rfl,_⟩:=h2;have kF:2*(e::r).length+1<=ks k:=kF;simp only [gU] at kF;omega
  |enter t=>rw [cB] at h2;exact h2.elim
  |th=>rw [cB] at h2;exact h2.elim
  |pQ=>rw [cB] at h2;exact h2.elim
 have fW:V.z.st≠.pQ:=λe=>by have h2:=wk.st;rw [e] at h2;exact h2.elim
 have nY:IntKind.i64.wrap (a.key.toNat:Int)=(i:Int):=by rw [kv.key];exact lB
 have L7:=HB (k':=ks k - 1) W hq;have K5:∀(s':Ag)(a':Ka),a'.aP=a.aP->a'.elem=a.elem->tj H0 c d A M s' q a' (ks k - 1)->gJ H0 N c cap d ll (au+1) A (X.to (V.z.step c X.G.S).2).G (rs.set k q) (rM ks k (ks k - 1)) M es hl D z (Ks.set k a') (Ss.set k s') N.n:=λs' a' e1 e2 JX=>
  Pp.akE (.inr rfl) hk cN hq hQ hQ rfl (λt th e=>by rw [qn] at e;cases e) (by rw [qn];rfl) g1 g2 (afc qn qr hi (by omega)) ⟨qy.1,qy.2.1⟩ ke (by omega) JX (by rw [e2];exact Pp.told k a ha)
 have ur:∀(s':Ag)(a':Ka),s'.ext N<=(N.E+1)*(Nm.st N+1)->a'.aP=a.aP->zI N A A ks (rM ks k (ks k - 1)) q q (.sZ V i pre rest) s' a a' dl:=λs' a' e1 e2=>by
  left;rw [e2];have e3:(Ag.sZ V i pre rest).ext N=(N.E+1)*(Nm.st N+1):=rfl;rw [e3];omega
 refine X7 (T:=T) (room:=(i:Int)) sm kk Pp.gN bj ux h kv.run kv.cg kv.cq nY wk.dn fW xk qy.2.2 ?_ ?_ (λhe out qz=>?_) (λhe H' V' gz ev ez h'=>?_) (λhe H' V' g gz ev ez hg h'=>?_)
 ·rcases g3 with ⟨vo,pS,_,w',_,e⟩|gO
  ·rw [w'.dn,e]
  ·rw [gO.dn,gO.aj]
 ·rcases g3 with ⟨vo,pS,e0,w',_,e⟩|gO
  ·rw [w'.keys,gb]
   have:=hZ List.length e0
   rw [e_,e_] at this;rw [e_] at Wq;omega
  ·rw [gO.keys,gb];omega
 ·rcases g3 with ⟨vo,pS,_,w',_,e⟩|gO
  ·rw [e] at he;cases he
  ·rw [gO.keys];exact Pp.mo.keys W.iO Lq.bk hM qz
 ·rcases g3 with ⟨vo,pS,e0,w',aE,e⟩|gO
  ·rw [<-ez] at w' aE;have Xb:NO a V':=⟨kv.run,by rw [ev];exact kv.cg,kv.leave,kv.cq,kv.gone,by rw [nY,w'.room]⟩;refine hF H' (au+1) A (X.to (V.z.step c X.G.S).2) q _ M es hl D z a (.sZ V' i vo pS) (by omega) (K5 _ _ rfl rfl ⟨gz,w',qn,qd,qr,by omega,Xb⟩) W.cx (ur _ _ (bq _) rfl) h'
  ·rw [gO.aj] at he;cases he
 ·rcases g3 with ⟨vo,pS,_,w',_,e⟩|gO
  ·rw [e] at he;cases he
  ·rw [<-ez] at gO;have⟨kY,_⟩:=qg.begin (c:=c) (M:=M) gO hM (by omega) (by omega);refine hF H' (au+1) A (X.to (V.z.step c X.G.S).2) q _ M es hl D z {a with kg:=addr g,kn:=V'.z.keys.length,cq:=true} (.rest V' g i 0 [] [] (pre++rest)) (by omega) (K5 _ _ rfl rfl ⟨gz,kY,qn,qd,qr,by omega,⟨by rw [ev];exact kv.cg,kv.leave,rfl,rfl,kv.gone,hg⟩,kv.run,rfl⟩) W.cx (ur _ _ ?_ rfl) h';exact x_ _ (by omega)
end
section
variable {H H' H0:aa} {R:Value->aa->Prop} {T:List ax} {N:Nm} {c:Lc} {A A':Ab} {G:Gr} {X:Gx} {cap:Int} {q x:Qr} {i k:Nat} {n k' au:Nat} {rs:List Qr} {M M':List (List El)} {ks ks':Nat->Nat} {b:Pb} {S:Sm} {d:Dk} {D:Dm} {es hl:List Int} {z:Pz} {m:My} {ll:List (List du)} {Ks:List Ka} {Ss:List Ag} {dl:List du} {s':Ag} {a a':Ka}
set_option maxHeartbeats 8000000 in
theorem abY {V:Hv}(Pp:gJ H0 N c cap d ll au A X.G rs ks M es hl D z Ks Ss N.n)(sm:lP b m c Ks)(kk:d.Ok)(Lq:Lk c d M)(ke:au<900000000)(hk:k<N.n)(hq:rs[k]? =some q)(ha:Ks[k]? =some a)(hs:Ss[k]? =some (.gG V))(cN:ll[k]? =some dl){ck:Nat}(hck:au<=ck+2)
  (h:Sep H (bF b z Ks k a m d D c X (cf c V::T)))(hF:Fin R H0 N c cap d ll ck A rs ks Ks Ss b m k q (.gG V) a dl T):CA en F.lR [P b.p,I k] H R:=by
 have⟨ux,dg,qk,kv⟩:=Pp.ag k _ _ a (by omega) hs hq ha;have W:=Pp.w;have Cd:=W.mem.lH;have cX:=Pp.aP k a dl ha cN;have bj:k<Ks.length:=by rw [Pp.lk];exact hk
 have hE:=W.wC;have kp:=ahB (c:=c) (S:=X.G.S) (z:=V.z) (x:=[]);have sy:=Pp.ay;have BR:wr (X.G.S.count+1)=X.G.S.count+1:=o_ (by omega);have qy:0<=(V.z.step c X.G.S).2.count/\(V.z.step c X.G.S).2.count<=au+1/\(V.z.step c X.G.S).2.count<=wr (X.G.S.count+1):=by
  rcases kp.ay with e|e<;>rw [e,BR]<;>omega
 have xk:V.z.keys.length<=1000/\V.z.av.length<=1000:=by rw [dg.keys,dg.av];exact ⟨h_ _,h_ _⟩
 rcases dg.st with ⟨t,st,nx⟩|⟨st,nx⟩
 ·have⟨e1,e2,e3,e4,e5⟩:=arb (c:=c) (G:=X.G) (b:=(0,0,0)) dg st nx;have⟨A',M',ks',Mz,Tn,cT,kD,iK,told,ay,cx,g0,_⟩:=gJ.go Pp Lq hq dg.yY (by omega) (0,0,0);have⟨eM,mo⟩:=g0 e4;have lW:A'.ls.length=A.ls.length:=by rw [<-Tn.w.nB];exact W.nB
  refine X7 (T:=T) (room:=V.z.room) sm kk Pp.gN bj ux h kv.run kv.cg kv.cq kv.key dg.dn (by rw [st];intro h;cases h) xk qy.2.2 (by rw [e2.dn,e3]) (by rw [e2.keys];exact h_ _) (λhe=>by rw [e3] at he;cases he) (λhe H' V' gz ev ez h'=>?_) (λhe=>by rw [e3] at he;cases he);rw [<-ez] at e2;have er:V'.z.room=V.z.room:=by rw [e2.room,e5,dg.room]
  have eX:(X.to (V.z.step c X.G.S).2).G=(q.step c X.G (0,0,0)).2:=e1.symm;refine hF H' (au+1) A' (X.to (V.z.step c X.G.S).2) (q.step c X.G (0,0,0)).1 ks' M' es hl D z a (.gG V') (by omega) ?_ (by rw [cx,lW];exact W.cx) ?_ h'
  ·rw [eX];refine Pp.set (.inr rfl) hk cN Tn.w Tn.nh Tn.ins ⟨ay.1,ay.2.1⟩ iK (by rw [eM];exact mo) Pp.gN Pp.kj Pp.zp (by have:=Pp.zl;omega) (by have:=Pp.vl;omega) cX ⟨gz,e2,by rw [Tn.qI.1];exact qk,⟨kv.run,by rw [ev];exact kv.cg,kv.leave,kv.cq,kv.gone,by rw [er];exact kv.key⟩⟩ cT kD told (told _ (Pp.told k a ha))
  ·unfold zI;have x1:(Ag.gG V').ext N=(Ag.gG V).ext N:=rfl;rw [x1];rcases Tn.ur with h1|⟨h1,h2,h3,h4,h5,h6,h7⟩
   ·left;omega
   ·exact .inr ⟨h1,h2,h3,h4,h5,h6,h7,rfl,rfl,λhh=>by rw [dg.yY] at hh;cases hh⟩
 ·have⟨i,qr,hi,Wp⟩:=W.ax5 hq dg.yY nx;have hQ:=awE dg.yY nx;have Qg:A.ls[i]? =some A.ls[i]:=cM hi;have hM:M[i]? =some A.ls[i]:=by rw [W.Yk hq hQ qr hi];exact Qg
  have Wq:=W.QS hM;have lB:V.z.room=(i:Int):=by rw [dg.room];exact qr
  have⟨g1,g2,g3⟩:=ax6 (z:=V.z) W.mem st dg.dn lB Qg dg.keys dg.av;have yI:qZ (q.to .leave):=Yb dg.yY rfl;have hw:N.w=2*N.E+2:=rfl;have nY:IntKind.i64.wrap (a.key.toNat:Int)=(i:Int):=by rw [kv.key];exact lB
  have L7:=HB (k':=ks k - 1) W hq;have K5:∀(s':Ag)(a':Ka),a'.aP=a.aP->a'.elem=a.elem->tj H0 c d A M s' (q.to .leave) a' (ks k - 1)->gJ H0 N c cap d ll (au+1) A (X.to (V.z.step c X.G.S).2).G (rs.set k (q.to .leave)) (rM ks k (ks k - 1)) M es hl D z (Ks.set k a') (Ss.set k s') N.n:=λs' a' e1 e2 JX=>
   Pp.akE (.inr rfl) hk cN hq hQ yI rfl (λt th e=>by cases e) rfl g1 g2 (afc rfl qr hi (by omega)) ⟨qy.1,qy.2.1⟩ ke (by omega) JX (by rw [e2];exact Pp.told k a ha)
  have ur:∀(s':Ag)(a':Ka),s'.ext N<=(N.E+1)*(Nm.st N+1)->a'.aP=a.aP->zI N A A ks (rM ks k (ks k - 1)) q (q.to .leave) (.gG V) s' a a' dl:=λs' a' e1 e2=>by
   left;rw [e2];have e3:(Ag.gG V).ext N=(N.E+1)*(Nm.st N+1):=rfl;rw [e3];omega
  refine X7 (T:=T) (room:=(i:Int)) sm kk Pp.gN bj ux h kv.run kv.cg kv.cq nY dg.dn (by rw [st];intro h;cases h) xk qy.2.2 ?_ ?_ (λhe out qz=>?_) (λhe H' V' gz ev ez h'=>?_) (λhe H' V' g gz ev ez hg h'=>?_)
  ·rcases g3 with ⟨w',_,e⟩|gO
   ·rw [w'.dn,e]
   ·rw [gO.dn,gO.aj]
  ·rcases g3 with ⟨w',_,e⟩|gO
   ·rw [w'.keys];exact h_ _
   ·rw [gO.keys,gb];omega
  ·rcases g3 with ⟨w',_,e⟩|gO
   ·rw [e] at he;cases he
   ·rw [gO.keys];exact Pp.mo.keys W.iO Lq.bk hM qz
  ·rcases g3 with ⟨w',aE,e⟩|gO
   ·rw [<-ez] at w' aE;have Xb:NO a V':=⟨kv.run,by rw [ev];exact kv.cg,kv.leave,kv.cq,kv.gone,by rw [nY,w'.room]⟩;refine hF H' (au+1) A (X.to (V.z.step c X.G.S).2) (q.to .leave) _ M es hl D z a (.sZ V' i [] A.ls[i]) (by omega) (K5 _ _ rfl rfl ⟨gz,w',rfl,dg.yY,qr,by omega,Xb⟩) W.cx (ur _ _ (bq _) rfl) h'
   ·rw [gO.aj] at he;cases he
  ·rcases g3 with ⟨w',_,e⟩|gO
   ·rw [e] at he;cases he
   ·rw [<-ez] at gO;have⟨kY,_⟩:=qg.begin (c:=c) (M:=M) gO hM (by omega) (by omega);refine hF H' (au+1) A (X.to (V.z.step c X.G.S).2) (q.to .leave) _ M es hl D z {a with kg:=addr g,kn:=V'.z.keys.length,cq:=true} (.rest V' g i 0 [] [] A.ls[i]) (by omega) (K5 _ _ rfl rfl ⟨gz,kY,rfl,dg.yY,qr,by omega,⟨by rw [ev];exact kv.cg,kv.leave,rfl,rfl,kv.gone,hg⟩,kv.run,rfl⟩) W.cx (ur _ _ ?_ rfl) h';exact x_ _ (by omega)
end
section
variable {H H' H0:aa} {R:Value->aa->Prop} {T:List ax} {N:Nm} {c:Lc} {A A':Ab} {G G':Gr} {X X':Gx} {cap:Int} {q q':Qr} {i k:Nat} {n k' au:Nat} {rs:List Qr} {M M':List (List El)} {ks ks':Nat->Nat} {b:Pb} {S:Sm} {d:Dk} {D D':Dm} {es hl:List Int} {z:Pz} {m:My} {ll:List (List du)} {Ks:List Ka} {Ss:List Ag} {dl:List du} {s s':Ag} {a a':Ka}
theorem Fin.kb (h:Fin R H0 N c cap d ll au A rs ks Ks Ss b m k q s a dl T):Fin (Kb R) H0 N c cap d ll au A rs ks Ks Ss b m k q s a dl T:=
 λH' tG A' X' q' ks' M' es' ct D' z' a' s' h1 h2 h3 h4 h5=>⟨true,rfl,h H' tG A' X' q' ks' M' es' ct D' z' a' s' h1 h2 h3 h4 h5⟩
theorem gJ.mid {q2:Qr}(Pp:gJ H0 N c cap d ll au A G rs ks M es hl D z Ks Ss N.n)(hq:rs[k]? =some q)(hQ:qZ q)(yI:qZ q2)(hr:q2.room=q.room)(aW:∀t th,q2.nx≠.enter t th)(hs:q2.nx.scan N.B q2.room=none)(hf:Fact N c A M G.S.V q2 k')(ke:au<900000000) :
  gJ H0 N c cap d ll (au+1) A G (rs.set k q2) (rM ks k k') M es hl D z Ks Ss k:=by
 have⟨w,dn⟩:=Pp.w.alq Pp.nh hq hQ yI hr aW hs (G':=G) Pp.w.mem (λ_=>rfl) hf (by omega);refine ⟨w,dn,Pp.ins,⟨Pp.ay.1,by have:=Pp.ay.2;omega⟩,λh hh=>(Pp.iK h hh).set (S':=G.S) hq yI.pr λ_ h=>h,Pp.mo,Pp.gN,Pp.kj,Pp.zp,by have:=Pp.zl;omega,by have:=Pp.vl;omega,Pp.lk,Pp.ls,Pp.KY,Pp.aP,λk2 s q a GN h1 h2 h3=>?_,λk2 a h=>(Pp.told k2 a h).set (S':=G.S) hq yI.pr λ_ h=>h⟩;rcases (f_ hq).1 h2 with ⟨h,_⟩|⟨_,h2⟩
 ·exact absurd h GN
 ·have aE:k2<N.n:=by rw [Pp.w.nn];exact (bJ.1 h2).1
  have h4:=Pp.ag k2 s q a (by omega) h1 h2 h3;have e:rM ks k k' k2=ks k2+0:=an GN;rw [e];exact h4
theorem gJ.fresh {q2:Qr}(Pp:gJ H0 N c cap d ll au A G rs ks M es hl D z Ks Ss N.n)(hq:rs[k]? =some q)(gH:q.dn=true)(hn:Dz c q2)(ke:au<900000000) :
  gJ H0 N c cap d ll (au+1) A G (rs.set k q2) (rM ks k (Nm.st N)) M es hl D z Ks Ss k:=by
 have⟨w,dn⟩:=Pp.w.start Pp.nh hq gH hn (by omega);have hp:=hn.out.2.2.1;refine ⟨w,dn,Pp.ins,⟨Pp.ay.1,by have:=Pp.ay.2;omega⟩,λh hh=>(Pp.iK h hh).set (S':=G.S) hq hp λ_ h=>h,Pp.mo,Pp.gN,Pp.kj,Pp.zp,by have:=Pp.zl;omega,by have:=Pp.vl;omega,Pp.lk,Pp.ls,Pp.KY,Pp.aP,λk2 s q a GN h1 h2 h3=>?_,λk2 a h=>(Pp.told k2 a h).set (S':=G.S) hq hp λ_ h=>h⟩;rcases (f_ hq).1 h2 with ⟨h,_⟩|⟨_,h2⟩
 ·exact absurd h GN
 ·have aE:k2<N.n:=by rw [Pp.w.nn];exact (bJ.1 h2).1
  have h4:=Pp.ag k2 s q a (by omega) h1 h2 h3;have e:rM ks k (Nm.st N) k2=ks k2+0:=an GN;rw [e];exact h4
theorem avl {st:Option (Int×Wd)}{no:Int}{rv:List Wd}{rk:Wd}{el:Int}(hE:mW c q M S no rv rk el st M')(hk:q.kd=1):M'=M:=by
 cases hE with
 |none g1 g2 g3=>rfl
 |look=>rfl
 |MG g1=>exact absurd hk g1
 |oq g1=>omega
 |set g1=>omega
 |full g1=>omega
 |mem g1=>omega
 |add g1=>omega
 |del g1=>omega
 |om g1=>omega
 |next g1=>omega
abbrev oo (z:Vz)(E1:List Int)(c:Lc)(kd:Int)(e:El)(nx:Nx):Qr:={Qr.zero with kd:=kd,ky:=e.k,room:=z.room,cur:=e.h,ah:=(py (c.h,hd z.room) E1).1,ai:=(py (c.h,hd z.room) E1).2,nx:=nx}
set_option maxHeartbeats 16000000 in
theorem apn {V:Hv}{kg:Option Nat}{g:Nat}{E1:List Int}{Kl l:List El}(Pp:gJ H0 N c cap d ll au A X.G rs ks M es hl D z Ks Ss N.n)(sm:lP b m c Ks)(kk:d.Ok)(Lq:Lk c d M)(ke:au+2<900000000)(hk:k<N.n)(hq:rs[k]? =some q)(ha:Ks[k]? =some a)(hs:Ss[k]? =some (.rest V kg i g E1 Kl l))(cN:ll[k]? =some dl)(hm:old H0∈T)
  (h:Sep H (bF b z Ks k a m d D c X (cf c V::gl 1 kg (bS V.z.keys)::T)))(hF:Fin R H0 N c cap d ll au A rs ks Ks Ss b m k q (.rest V kg i g E1 Kl l) a dl T):CA en F.Ga [P b.p,I k] H R:=by
 have⟨ux,kY,qn,qd,qr,qz,kt,KU,KT⟩:=Pp.ag k _ _ a (by omega) hs hq ha;have W:=Pp.w;have Cd:=W.mem.lH;have cX:=Pp.aP k a dl ha cN;have bj:k<Ks.length:=by rw [Pp.lk];exact hk
 have hQ:=Yb qd qn;have⟨i',sD,hi,_⟩:=W.Xn hq qd qn;obtain rfl:i'=i:=by omega
 have VQ:M[i']? =A.ls[i']? :=W.Yk hq hQ qr hi;have agE:=kY.lens;have VO:=hF.kb;have cB:7+N.cr+2*N.c2+3<=Nm.st N:=by unfold Nm.st Nm.op;omega
 have nr:V.z.av.length=V.z.keys.length:=kY.kl.symm;have wa:∀(aj dn:Bool)(e:Int)(a:Ka),(a.fj aj dn e).aP=a.aP:=λaj dn e a=>by
  unfold Ka.fj Ka.done;cases aj<;>cases dn<;>simp<;>split<;>rfl
 refine aww sm bj ux kt.kz h KU kt.cg KT kt.G4 kt.kn kt.gone ⟨kY.le,nr⟩ (by omega) (λhg H' Rr gz eq h'=>?_) (λky e0 mP Ac H' Rr gz eq h'=>?_) (λk4 ky e0 mP Ac H' r' i1 i3 i10 h'=>?_)
 ·
  have vr:Vr Rr.q q:=.leave (by rw [eq]) qn (by rw [eq];exact kY.room.trans qr.symm);have pd:Rr.q.dn=false:=by rw [eq];rfl
  have xm:∀b1,(q.step c X.G b1).1.aj=false:=λb1=>by rw [aK qd qn];rfl
  refine N_ (T1:=cf c V::gl 1 kg (bS V.z.keys)::T) (QQ:=λb1 X' R1=>R1.q=(Rr.q.step c X.G b1).1) (r:=Rr.r) Pp sm kk Lq (by omega) hk hq qd (by simp [hm]) h' rfl (.inl xm) (λ_=>xm) (Pp.told k a ha) (λH1 K h1 hK=>?_) (λb1 X' R1 hQ he hd=>?_) ?_
  ·have h2:AS.Sep H1 (dO c Rr::xA c::aR c.g c.m X::dm b z::cV z::cW z::dx b Ks k {a with cq:=false,run:=some ⟨Rr.r,0,none⟩,leave:=true}::dP b d::cZ m d D (cf c V::gl 1 kg (bS V.z.keys)::T)):=Sep.pick h1 16 [15,13,14,0,1,2,3,4,5,6,7,8,9,10,11,12];refine RY (Hr.rk gz h2) W.mem.bk.L9 W.mem.bk.fresh (λ_ e0=>by rw [eq] at e0;cases e0) (by omega) λH' aT X' b1 _ eX kB=>?_
   have⟨R1,g1,g2,g3,g4⟩:=kB.hr;have hv:=Fq (c:=c) (G:=X.G) (b:=b1) vr pd qd;have et:Rr.q.pX (Rr.q.step c X.G b1).1=((Rr.q.step c X.G b1).1.aj,(Rr.q.step c X.G b1).1.dn):=by unfold Qr.pX;rw [an (by rw [pd];exact jY)]
   rw [et,<-g3];exact hK H' X' R1 b1 g1 g2 (by rw [g3];exact hv.2.1) (λhe=>by rw [g3] at he⊢;exact hv.2.2.2.1 he) (eX.trans hv.1) g3 (Sep.pick g4 16 [3,4,5,6,7,8,9,10,11,12,13,14,15,1,2,0])
  ·rw [he,xm b1];exact jY
  ·intro H' X' b1 R1 R2 A' M' ks' es' ct D' z' e' st hQ lZ pH ni yL eX Tn cT kD told ay cx JV mo iK gN kj zp zl vl te iu;have hv:=Fq (c:=c) (G:=X.G) (b:=b1) vr pd qd;have lW:A'.ls.length=A.ls.length:=by rw [<-Tn.w.nB];exact W.nB
   have ef:R1.q.aj=false:=by rw [yL];exact xm b1
   rcases hv.2.2.2.2 with ⟨_,g2,_⟩|⟨_,g2,_⟩|⟨g1,_,g3⟩
   ·exfalso;rw [aK qd qn] at g2;cases g2
   ·exact absurd qn g2
   ·have Ge:R1.q.dn=true:=by rw [hQ];exact g1
    rw [ef,Ge] at iu te;have ED:=Tn.ur;refine VO H' (au+1) A' X' _ ks' M' es' ct D' z' _ .idle (by omega) (Pp.set (.inr rfl) hk cN Tn.w Tn.nh Tn.ins (by omega) iK mo gN kj zp zl vl (by rw [wa];exact cX) ⟨rfl,rfl,rfl,g3⟩ cT kD told te) (by rw [cx,lW];exact W.cx) ?_ (Sep.pick iu 18 [0,1,2,3,4,5,6,7,8,9,10,11,12,13,14]);left;rw [wa];show _+0+_+1<=_+(l.length+1)*(Nm.st N+1)+_;have hx:(l.length+1)*(Nm.st N+1)=l.length*(Nm.st N+1)+(Nm.st N+1):=by rw [mB,Ba]
    have MW:({a with cq:=false,run:=some ⟨Rr.r,0,none⟩,leave:=true}:Ka).aP=a.aP:=rfl;rw [MW];rcases ED with h1|⟨_,h1,_⟩<;>omega
 ·
  have Et:=(bJ.1 mP).1;cases l with
  |nil=>simp at agE;omega
  |cons e l=>
  have⟨t1,t2,t3⟩:=kY.head;rw [t1] at mP;obtain rfl:=dM mP;rw [t2] at Ac;obtain rfl:=dM Ac;have VT:qZ (oo V.z E1 c 1 e .look):=awC rfl rfl;have Wa:qW c A i' (oo V.z E1 c 1 e .look):=kY.atF (by rw [<-VQ];exact kY.ls) W.iO kY.room rfl rfl rfl rfl;have DB:=Pp.mid (k:=k) hq hQ VT (kY.room.trans qr.symm) (λt th e=>by cases e) rfl (k':=2) (arq rfl Wa rfl (bq _)) (by omega);have yP:(rs.set k (oo V.z E1 c 1 e .look))[k]? =some (oo V.z E1 c 1 e .look):=(f_ hq).2 (.inl ⟨rfl,rfl⟩);have L7:=HB (k':=2) W hq;have vr:Vr Rr.q (oo V.z E1 c 1 e .look):=.look (by rw [eq]) rfl (by rw [eq]);have pd:Rr.q.dn=false:=by rw [eq];rfl
  have EO:(oo V.z E1 c 1 e .look).dn=false:=rfl;have hep:0<e.h:=by
   have:=(W.mem.JD (e:=e) (Ab.mem (by rw [<-VQ];exact kY.ls) (by simp)))
   have h2:=this.1;omega
  refine N_ (T1:=cf c V::gl 1 kg (bS V.z.keys)::T) (QQ:=λb1 X' R1=>R1.q=(Rr.q.step c X.G b1).1) (r:=Rr.r) DB sm kk Lq (by omega) hk yP rfl (by simp [hm]) h' rfl (.inr ⟨.inl rfl,rfl,rfl,rfl,rfl,UL (aeO kk) (by show (1:Int)≠2;decide)⟩) (λmQ=>?_) (DB.told k a ha) (λH1 K h1 hK=>?_) (λb1 X' R1 hQ he hd=>?_) ?_
  ·rcases mQ with h|h
   ·cases h
   ·have h:a.leave=true:=h;rw [kt.leave] at h;cases h
  ·have h2:AS.Sep H1 (dO c Rr::xA c::aR c.g c.m X::dm b z::cV z::cW z::dx b Ks k (a.look Rr.r 1 e.k g)::dP b d::cZ m d D (cf c V::gl 1 kg (bS V.z.keys)::T)):=Sep.pick h1 16 [15,13,14,0,1,2,3,4,5,6,7,8,9,10,11,12];refine RY (Hr.rk gz h2) W.mem.bk.L9 W.mem.bk.fresh (λ_ e0=>by rw [eq] at e0;cases e0) (by omega) λH' aT X' b1 _ eX kB=>?_
   have⟨R1,g1,g2,g3,g4⟩:=kB.hr;have hv:=Fq (c:=c) (G:=X.G) (b:=b1) vr pd EO;have et:Rr.q.pX (Rr.q.step c X.G b1).1=((Rr.q.step c X.G b1).1.aj,(Rr.q.step c X.G b1).1.dn):=by unfold Qr.pX;rw [an (by rw [pd];exact jY)]
   rw [et,<-g3];exact hK H' X' R1 b1 g1 g2 (by rw [g3];exact hv.2.1) (λhe=>by rw [g3] at he⊢;exact hv.2.2.2.1 he) (eX.trans hv.1) g3 (Sep.pick g4 16 [3,4,5,6,7,8,9,10,11,12,13,14,15,1,2,0])
  ·have e1:((oo V.z E1 c 1 e .look).step c X.G b1).1.aj=true:=by rw [aK EO rfl];rfl
   rw [he,e1];show (false||true)≠a.leave;rw [kt.leave];decide
  ·intro H' X' b1 R1 R2 A' M' ks' es' ct D' z' e' st hQ lZ pH ni yL eX Tn cT kD told ay cx JV mo iK gN kj zp zl vl te iu;have hv:=Fq (c:=c) (G:=X.G) (b:=b1) vr pd EO;have lW:A'.ls.length=A.ls.length:=by rw [<-Tn.w.nB];exact W.nB
   have e1:((oo V.z E1 c 1 e .look).step c X.G b1).1.aj=true:=by rw [aK EO rfl];rfl
   have nl:(oo V.z E1 c 1 e .look).nx≠.leave:=λh=>by cases h
   have ef:R1.q.aj=true:=by rw [yL];exact e1
   rcases hv.2.2.2.2 with ⟨g1,g2,_⟩|⟨g1,g2,g3,g4⟩|⟨_,g2,_⟩
   ·exfalso
    have:(Rr.q.step c X.G b1).1.dn=true:=by rw [aK pd (by rw [eq])];rfl
    rw [this] at g1;cases g1
   ·have Ge:R1.q.dn=true:=by rw [hQ];exact g1
    rw [ef,Ge] at iu te;have ED:=Tn.ur;have xh:M'=M:=by
     rcases Tn.aj EO with ⟨_,hE⟩|⟨_,h,_⟩
     ·exact avl hE rfl
     ·exact h
    have ed:(a.look Rr.r 1 e.k g).fj true true e'={a.look Rr.r 1 e.k g with elem:=e',run:=none,cq:=a.cg.isSome}:=by
     show Ka.done _=_;exact an (by show ¬a.leave=true;rw [kt.leave];exact jY)
    have yO:=(f_ (q':=((oo V.z E1 c 1 e .look).step c X.G b1).1) (b:=k) yP).2 (.inl ⟨rfl,rfl⟩);have⟨_,_,_,Kt⟩:=Tn.w.Xn yO g4 g3;have P2:=DB.set (.inl rfl) hk cN (s':=.rest V kg i' (g+1) (E1++[e.h]) (Kl++[e]) l) Tn.w Tn.nh Tn.ins (by omega) iK mo gN kj zp zl vl (by rw [wa];exact cX) ⟨ux,kY.look (by rw [xh]) hep,g3,g4,by rw [hv.2.2.1];exact kY.room,Kt,by rw [ed];exact ⟨kt.cg,kt.leave,kt.G4,kt.kn,rfl,kt.kz⟩,by rw [ed],by rw [ed];show a.cg.isSome=true;rw [kt.cg];rfl⟩ cT kD told te;rw [Im] at P2;refine VO H' (au+1+1) A' X' _ ks' M' es' ct D' z' _ (.rest V kg i' (g+1) (E1++[e.h]) (Kl++[e]) l) (by omega) P2 (by rw [cx,lW];exact W.cx) ?_ (Sep.pick iu 18 [0,1,2,3,4,5,6,7,8,9,10,11,12,13,14,16,17]);left;rw [wa];show _+(l.length+1)*(Nm.st N+1)+_+1<=_+((e::l).length+1)*(Nm.st N+1)+_;have hx:((e::l).length+1)*(Nm.st N+1)=(l.length+1)*(Nm.st N+1)+(Nm.st N+1):=by rw [gU,mB (l.length+1) 1,Ba]
    have MW:(a.look Rr.r 1 e.k g).aP=a.aP:=rfl;rw [MW];rcases ED with h1|⟨_,h1,_⟩<;>omega
   ·exact absurd g2 nl
 ·
  have Et:=(bJ.1 mP).1;cases l with
  |nil=>simp at agE;omega
  |cons e l=>
  have⟨t1,t2,t3⟩:=kY.head;rw [t1] at mP;obtain rfl:=dM mP;rw [t2] at Ac;obtain rfl:=dM Ac;rw [t3] at h';have VT:qZ (oo V.z E1 c 5 e .take):=awD rfl rfl;have Wa:qW c A i' (oo V.z E1 c 5 e .take):=kY.atF (by rw [<-VQ];exact kY.ls) W.iO kY.room rfl rfl rfl rfl;have DB:=Pp.mid (k:=k) hq hQ VT (kY.room.trans qr.symm) (λt th e=>by cases e) rfl (k':=7+N.cr+2*N.c2) (ars rfl Wa rfl (bq _)) (by omega);have yP:(rs.set k (oo V.z E1 c 5 e .take))[k]? =some (oo V.z E1 c 5 e .take):=(f_ hq).2 (.inl ⟨rfl,rfl⟩);have L7:=HB (k':=7+N.cr+2*N.c2) W hq;have EO:(oo V.z E1 c 5 e .take).dn=false:=rfl;have U3:∀b1,(oo V.z E1 c 5 e .take).step c X.G b1=(oo V.z E1 c 5 e (.change (.take .gZ)),X.G.mem (X.G.S.acc c.h 0 true (ic tick)).2):=λb1=>by rw [aK EO rfl];rfl
  have eX0:∀b1,((oo V.z E1 c 5 e .take).step c X.G b1).2=X.G.mem (X.G.S.acc c.h 0 true (ic tick)).2:=λb1=>by rw [U3]
  have UU:∀b1,((oo V.z E1 c 5 e .take).step c X.G b1).1.aj=false:=λb1=>by rw [U3];rfl
  have hgz:g<V.z.av.length:=by omega
  refine N_ (T1:=cf c (V.cut g)::gl 1 kg (bS V.z.keys)::T) (QQ:=λb1 X' R1=>R1.q={qT V.z.room e.h (py (c.h,hd V.z.room) E1) with nx:=.change (.take .done)}) (r:=r') DB sm kk Lq (by omega) hk yP rfl (by simp [hm]) h' rfl (.inl UU) (λ_=>UU) (DB.told k a ha) (λH1 K h1 hK=>?_) (λb1 X' R1 hQ he hd=>?_) ?_
  ·have h2:AS.Sep H1 (rA r' c (qT V.z.room e.h (py (c.h,hd V.z.room) E1)) none (wE i1 i3 i10)::many [b1 i1 (P V.v),b1 i3 (I g),b1 i10 (P r')]::cf c V::xA c::aR c.g c.m X::dm b z::cV z::cW z::dx b Ks k (a.look r' 5 e.k g)::dP b d::cZ m d D (gl 1 kg (bS V.z.keys)::T)):=Sep.pick h1 18 [15,16,17,13,14,0,1,2,3,4,5,6,7,8,9,10,11,12];refine aB9 ux hgz h2 λH' aT kB=>?_
   have⟨R1,g1,g2,g3,g4⟩:=kB.hr;have e1:R1.q.aj=false:=by rw [g3];rfl
   have e2:R1.q.dn=false:=by rw [g3];rfl
   have g5:=hK H' _ R1 (0,0,0) g1 g2 (by rw [e1,UU]) (λhe=>by rw [e1] at he;cases he) (eX0 _).symm g3 (Sep.pick g4 18 [4,5,6,7,8,9,10,11,12,13,14,15,16,1,2,0,3,17]);rw [e1,e2] at g5;exact g5
  ·rw [hQ] at hd;cases hd
  ·intro H' X' b1 R1 R2 A' M' ks' es' ct D' z' e' st hQ lZ pH ni yL eX Tn cT kD told ay cx JV mo iK gN kj zp zl vl te iu;have lW:A'.ls.length=A.ls.length:=by rw [<-Tn.w.nB];exact W.nB
   have ef:R1.q.aj=false:=by rw [hQ];rfl
   have Ge:R1.q.dn=false:=by rw [hQ];rfl
   have xh:=JV ef;rw [ef,Ge] at iu te;have ED:=Tn.ur;have kU:=U3 b1;generalize (oo V.z E1 c 5 e .take).step c X.G b1=y at *;subst kU;have P2:=DB.set (.inl rfl) hk cN (s':=.take (V.cut g) kg R2 i' g E1 Kl l e) (a':=a.look r' 5 e.k g) Tn.w Tn.nh Tn.ins (by omega) iK mo gN kj zp zl vl cX ⟨Hv.JB ux,lZ,by rw [ni,hQ];exact .change rfl rfl rfl rfl rfl,.inl rfl,by rw [ni];exact Ge,rfl,kY.room,rfl,rfl,kY.cut,by rw [xh];exact kY.ls,⟨kt.cg,kt.leave,kt.G4,kt.kn,rfl,kt.kz⟩,by rw [pH],rfl,rfl,rfl,rfl,rfl,rfl,k4⟩ cT kD told te;rw [Im] at P2;refine VO H' (au+1+1) A' X' _ ks' M' es' ct D' z' _ (.take (V.cut g) kg R2 i' g E1 Kl l e) (by omega) P2 (by rw [cx,lW];exact W.cx) ?_ iu;left;show _+(l.length+1)*(Nm.st N+1)+_+1<=_+((e::l).length+1)*(Nm.st N+1)+_;have hx:((e::l).length+1)*(Nm.st N+1)=(l.length+1)*(Nm.st N+1)+(Nm.st N+1):=by rw [gU,mB (l.length+1) 1,Ba]
   have MW:(a.look r' 5 e.k g).aP=a.aP:=rfl;rw [MW];rcases ED with h1|⟨_,h1,_⟩<;>omega
end
section
variable {H H' H0:aa} {R:Value->aa->Prop} {T:List ax} {N:Nm} {c:Lc} {A A':Ab} {G G':Gr} {X X':Gx} {cap:Int} {q q' x:Qr} {i j k:Nat} {n k' au:Nat} {rs:List Qr} {M M':List (List El)} {ks ks':Nat->Nat} {b:Pb} {S S':Sm} {d:Dk} {D D':Dm} {es hl:List Int} {z:Pz} {m:My} {ll:List (List du)} {Ks:List Ka} {Ss:List Ag} {dl:List du} {s s':Ag} {a a':Ka}
theorem Ri {a1 a2:Ka}:bF b z (Ks.set k a1) k a2 m d D c X T=bF b z Ks k a2 m d D c X T:=by
 have e:dx b (Ks.set k a1) k a2=dx b Ks k a2:=by
  show bx b.ab (.cells true 14 (((Ks.set k a1).map Ka.cells).set k a2.cells).flatten)=_;rw [zC,Im]
 show dm b z::cV z::cW z::dx b (Ks.set k a1) k a2::_=_;rw [e]
theorem lP.set (s:lP b m c Ks):lP b m c (Ks.set k a):=⟨s.sm,s.sg,s.sx,s.sd,by rw [gT];exact s.na⟩
theorem gJ.Ml {ex:Nat}(Pp:gJ H0 N c cap d ll au A G rs ks M es hl D z Ks Ss ex)(hex:ex=k∨ex=N.n)(hk:k<N.n)(cN:ll[k]? =some dl)(hq:rs[k]? =some q)(cX:a'.aP<=dl.length)(ml:tj H0 c d A M s' q a' (ks k))(MI:Told c d G rs z.ps a'.elem) :
  gJ H0 N c cap d ll au A G rs ks M es hl D z (Ks.set k a') (Ss.set k s') N.n:=by
 have P2:=Pp.set hex hk cN (q':=q) (G':=G) (a':=a') (s':=s') (ks':=ks) (by rw [nF hq];exact Pp.w) (by rw [nF hq];exact Pp.nh) rfl Pp.ay (by rw [nF hq];exact Pp.iK) Pp.mo Pp.gN Pp.kj Pp.zp Pp.zl Pp.vl cX ml (λ_ _ _ _ _ _ _=>⟨rfl,rfl⟩) (λ_ _=>bq _) (λe he=>by rw [nF hq];exact he) (by rw [nF hq];exact MI);rw [nF hq] at P2;exact P2
theorem Fin.after {q1:Qr}{ks1:Nat->Nat}{s1:Ag}{a1:Ka}(hF:Fin R H0 N c cap d ll au A rs ks Ks Ss b m k q s a dl T)(hp:gA ks1 N.n+s1.ext N+(dl.length - a1.aP)*N.C+1<=gA ks N.n+s.ext N+(dl.length - a.aP)*N.C) :
  Fin R H0 N c cap d ll au A (rs.set k q1) ks1 (Ks.set k a1) (Ss.set k s1) b m k q1 s1 a1 dl T:=by
 intro H' tG A' X' q' ks' M' es' ct D' z' a' s' h1 h2 h3 h4 h5;rw [Im,Im,Im] at h2;rw [Ri] at h5;refine hF H' tG A' X' q' ks' M' es' ct D' z' a' s' h1 h2 h3 (.inl ?_) h5;rcases h4 with h|⟨_,g1,_,_,_,_,_,g2,g3,_⟩
 ·omega
 ·rw [g1,g2,g3];omega
theorem amP {n:Nat}(h:n<dl.length):(dl.length - n)*N.C=(dl.length - (n+1))*N.C+N.C:=by
 have:dl.length - n=(dl.length - (n+1))+1:=by omega
 rw [this,mB,Ba]
theorem amO:N.C=(N.E+1)*(Nm.st N+1)+(Nm.st N+1):=by
 unfold Nm.C;rw [show N.E+2=(N.E+1)+1 from rfl,mB (N.E+1) 1,Ba]
theorem fy.store (R:fy d M S es D hl)(k4:d.kd=4){h0:Int}{v:Wd}(he:es[j]? =some h0)(hV:∀h,h≠h0->S'.V h=S.V h)(hv:val S' h0=v):fy d M S' es {D with vs:=D.vs.set j v} hl:=by
 have hvv:∀h,h≠h0->val S' h=val S h:=λh hn=>by unfold val;rw [hV h hn]
 have hj:=(bJ.1 he).1;have hle:=R.le k4;have key:∀(n:Nat)(h:Int),es[n]? =some h->(D.vs.set j v)[n]? =some (val S' h):=λn h hn=>by
  by_cases e:j=n
  ·subst e;rw [he] at hn;obtain rfl:=dM hn;rw [mD,ar rfl,ar (by omega),hv]
  ·rw [mD,an e,R.vs k4 n h hn,hvv h λe2=>e (by subst e2;exact LV R.vT he hn)]
 refine ⟨R.len,R.perm,R.nd,R.ky,λn h x h1 h2=>?_,R.ix,R.t0,λ_=>by show _=(D.vs.set j v).length;rw [gT];exact hle,λ_ n h hn=>key n h hn,R.vT,R.rf⟩;have⟨g1,g2⟩:=R.ix k4 n h x h1 h2;have g3:=key _ _ g2;unfold kS;rw [ar (by omega)];show (D.vs.set j v).getD (x.el - 1) 0=_;rw [gu,g3];rfl
set_option maxHeartbeats 8000000 in
theorem apB {la:Option Addr}{ln:Nat}(Pp:gJ H0 N c cap d ll au A X.G rs ks M es hl D z Ks Ss N.n)(sm:lP b m c Ks)(kk:d.Ok)(hb:pow d.bk)(Lq:Lk c d M)(ke:au+2<900000000)(hk:k<N.n)(hq:rs[k]? =some q)(ha:Ks[k]? =some a)(hs:Ss[k]? =some s)(cN:ll[k]? =some dl)(hm:old H0∈T)(od:FF H0 la ln dl)(tS:dl.length<=12)(EH:∀x∈dl,x.o.val.length<=8)
  (h:Sep H (bF b z Ks k a m d D c X (s.B c++T)))(hF:Fin R H0 N c cap d ll au A rs ks Ks Ss b m k q s a dl T):CA en F.Ox [P b.p,I k,.slice la ln 0] H R:=by
 have ml:=Pp.ag k s q a (by omega) hs hq ha;have W:=Pp.w;have Cd:=W.mem.lH;have cX:=Pp.aP k a dl ha cN;have bj:k<Ks.length:=by rw [Pp.lk];exact hk
 have hkr:k<rs.length:=by rw [<-W.nn];exact hk
 have qz:k<Ss.length:=by rw [Pp.ls];exact hk
 have u_:=Pp.told k a ha;have hC:N.C=(N.E+1)*(Nm.st N+1)+(Nm.st N+1):=amO;have hmT:old H0∈s.B c++T:=mE _ hm;refine awy (T:=s.B c++T) sm kk hb Lq.bk bj hmT h od tS EH (λh1=>?_) (λh1 h2=>?_) (λh1 h2 h3=>?_) (λh1 h2 dd va vn tN htd H' h'=>?_) (λh1 h2 dd tN H' V b0 room lB ux hz h'=>?_) (λh1 h2 dd va tN hra KD H' Rr b0 gz eq h'=>?_) (λh1 h2 dd tN H' h'=>?_)
 ·
  cases s with
  |idle=>exact absurd ml.1 h1
  |run Rr val=>
   have⟨_,e,_,_⟩:=id ml;subst e;exact ab5 Pp sm kk Lq (by omega) hk hq ha hs cN hm (ck:=au) (by omega) h hF.kb
  |gG V=>exact absurd ml.2.2.2.run h1
  |sZ V i pre rest=>exact absurd ml.2.2.2.2.2.2.run h1
  |rest V kg i g E1 K l=>exact absurd ml.2.2.2.2.2.2.2.1 h1
  |take V kg Rr i g E1 K l e=>exact apA Pp sm kk Lq (by omega) hk hq ha hs cN hm h hF.kb
 ·
  have ak9:∀{T':List ax},a.cq=false->AS.Sep H (bF b z Ks k a m d D c X T')->CA en F.lR [P b.p,I k] H (Kb (Kb R))->CA en F.Ga [P b.p,I k] H (Kb R):=λ{T'} hh hs hc=>by
   apply alH;have na:=sm.na;refine af ⟨_,_,Sep.aG hs rfl,(by unfold az;omega),bG ?_⟩;rw [dr];refine ⟨_,fk (o:=11) hs 3 rfl (bT Ks) rfl (by rw [gb];exact bj) rfl,?_⟩;rw [hh];exact cm rfl hc
  cases s with
  |idle=>exact absurd ml.2.1 h2
  |run Rr val=>exact absurd ml.2.2.2.cg h2
  |gG V=>exact ak9 ml.2.2.2.cq h (abY Pp sm kk Lq (by omega) hk hq ha hs cN (ck:=au) (by omega) h hF.kb.kb)
  |sZ V i pre rest=>exact ak9 ml.2.2.2.2.2.2.cq h (apD Pp sm kk Lq (by omega) hk hq ha hs cN h hF.kb.kb)
  |rest V kg i g E1 K l=>exact apn Pp sm kk Lq ke hk hq ha hs cN hm h hF.kb
  |take V kg Rr i g E1 K l e=>
   have:=ml.2.2.2.2.2.2.2.2.2.2.2.2.1
   rw [h1] at this;cases this
 all_goals
  cases s with
  |idle=>?_
  |run Rr val=>exact absurd (h1.symm.trans ml.2.2.2.run) (by simp)
  |gG V=>exact absurd (h2.symm.trans ml.2.2.2.cg) (by simp)
  |sZ V i pre rest=>exact absurd (h2.symm.trans ml.2.2.2.2.2.2.cg) (by simp)
  |rest V kg i g E1 K l=>exact absurd (h2.symm.trans ml.2.2.2.2.2.2.1.cg) (by simp)
  |take V kg Rr i g E1 K l e=>exact absurd (h1.symm.trans ml.2.2.2.2.2.2.2.2.2.2.2.2.1) (by simp)
 all_goals have⟨_,_,wc,lT⟩:=id ml
 all_goals have cA:q.aB=[]:=(QI (Pp.nh k q hq lT) lT).2.2.1
 ·
  refine hF H au A X q ks M es hl D z a .idle (by omega) ?_ W.cx (.inr ⟨.inl lT,rfl,rfl,rfl,rfl,rfl,rfl,rfl,rfl,λ_=>h3⟩) h;rw [nF hq];exact Pp.Ml (.inr rfl) hk cN hq cX ml u_
 all_goals have aE:a.aP<dl.length:=(bJ.1 tN).1
 all_goals have VL:=amP (N:=N) aE
 ·
  have skip:∀rU,AS.Sep rU (bF b z Ks k a.nf m d D c X T)->R (.bool true) rU:=λrU zV=>by
   refine hF rU au A X q ks M es hl D z a.nf .idle (by omega) ?_ W.cx (.inl ?_) zV
   ·rw [nF hq];exact Pp.Ml (.inr rfl) hk cN hq aE ⟨h1,h2,wc,lT⟩ u_
   ·show _+0+(dl.length - (a.aP+1))*N.C+1<=_+0+_;omega
  by_cases he:a.elem=0
  ·exact aqO sm h' bj he λrU zV=>⟨true,rfl,skip rU zV⟩
  ·rcases u_ with h0|⟨k4,yL,⟨j,hj⟩,Ro⟩
   ·exact absurd h0 he
   have iq:es[j]? =some a.elem:=by
    rcases Pp.zp _ hj with ⟨_,j',g1,g2,_⟩|⟨jS,_⟩
    ·have:j'=j:=by have g1:((j+1:Nat):Int)=((j'+1:Nat):Int):=g1;omega
     subst this;exact g2
    ·omega
   have hw:=Pp.mo.vs k4 j _ iq;have⟨l1,l2,l3⟩:=W.di Ro;have⟨s1,s2,s3,s4⟩:=W.store Ro dd.v;have sy:=Pp.ay;have QD:=Pp.zl;have xp:=Pp.vl;have BR:wr (X.G.S.count+1)=X.G.S.count+1:=o_ (by omega);have agZ:Told c d X.G rs z.ps a.nf.elem:=Pp.told k a ha;refine aqP (a:=a.nf) (w:=val X.G.S a.elem) sm Pp.gN Pp.kj h' bj htd (by rw [<-Lq.kd];exact k4) yL hj (Pp.zp.fn Pp.mo.vT hj) hw l1 s1 (λrU zV=>⟨true,rfl,?_⟩) (λrU zV=>⟨true,rfl,?_⟩)
   ·have Ey:∀h,X.G.S.V h≠none->(X.G.S.acc a.elem 2 true id).2.V h≠none:=λh hh=>by rw [l3];exact hh
    refine hF rU (au+1) A (X.to (X.G.S.acc a.elem 2 true id).2) q ks M es hl D z a.nf .idle (by omega) (Pp.set (.inr rfl) hk cN (by rw [nF hq];exact l2.Oo (by omega)) (by rw [nF hq];exact Pp.nh) rfl ?_ (λh hh=>(Pp.iK h hh).set hq cA Ey) (Pp.mo.same λh _=>by unfold val;rw [<-l3 h];rfl) Pp.gN Pp.kj Pp.zp (by omega) (by omega) aE ⟨h1,h2,wc,lT⟩ (λ_ _ _ _ _ _ _=>⟨rfl,rfl⟩) (λ_ _=>bq _) (λe he=>he.set hq cA Ey) (agZ.set hq cA Ey)) W.cx (.inl ?_) zV
    ·show 0<=(X.G.S.acc a.elem 2 true id).2.count/\(X.G.S.acc a.elem 2 true id).2.count<=_;rw [N0,BR];omega
    ·show _+0+(dl.length - (a.aP+1))*N.C+1<=_+0+_;omega
   ·have Ey:∀h,X.G.S.V h≠none->(X.G.S.acc a.elem 2 true λ_=>dd.v).2.V h≠none:=λh hh=>NU.2 hh
    have DU:Dm.Ok d {D with vs:=D.vs.set j dd.v}:=⟨Pp.gN.n1,λe=>by show D.vs.set j dd.v=[];rw [Pp.gN.n2 e];rfl,Pp.gN.le,by show (D.vs.set j dd.v).length<=_;rw [gT];exact Pp.gN.lv,λe he=>by show _∨_;rw [gT];exact Pp.gN.el e he⟩;refine hF rU (au+1) A (X.to (X.G.S.acc a.elem 2 true λ_=>dd.v).2) q ks M es hl {D with vs:=D.vs.set j dd.v} z a.nf .idle (by omega) (Pp.set (.inr rfl) hk cN (by rw [nF hq];exact s2.Oo (by omega)) (by rw [nF hq];exact Pp.nh) rfl ?_ (λh hh=>(Pp.iK h hh).set hq cA Ey) (Pp.mo.store k4 iq s3 s4) DU Pp.kj Pp.zp (by omega) (by show (D.vs.set j dd.v).length<=_;rw [gT];omega) aE ⟨h1,h2,wc,lT⟩ (λ_ _ _ _ _ _ _=>⟨rfl,rfl⟩) (λ_ _=>bq _) (λe he=>he.set hq cA Ey) (agZ.set hq cA Ey)) W.cx (.inl ?_) zV
    ·show 0<=(X.G.S.acc a.elem 2 true λ_=>dd.v).2.count/\(X.G.S.acc a.elem 2 true λ_=>dd.v).2.count<=_;rw [N0,BR];omega
    ·show _+0+(dl.length - (a.aP+1))*N.C+1<=_+0+_;omega
 ·
  have⟨ky,mP⟩:=awZ hb lB
  let q2:Qr:={Qr.zero with kd:=1,ky:=ky,room:=(room:Int),nx:=.enter ⟨b0,0,0,lk room⟩ .op}
  have hn:Dz c q2:=⟨rfl,rfl,rfl,.inl ⟨⟨b0,0,0,lk room⟩,room,rfl,rfl,rfl,rfl,by rw [<-Lq.bk];exact mP,by rw [<-Lq.bk];exact lB,by show (1:Int)≠4;decide⟩⟩;have P0:=Pp.fresh (k:=k) hq lT hn (by omega);have Cc:(rs.set k q2)[k]? =some q2:=(f_ hq).2 (.inl ⟨rfl,rfl⟩);have L7:=HB (k':=Nm.st N) W hq;have hek:IntKind.i64.wrap ((BitVec.ofNat 64 room).toNat:Int)=V.z.room:=by
   rw [hz,Io,Da (by have:=Lq.bk;omega)];exact wrap_i64 ⟨by omega,by have:=Lq.bk;omega⟩
  have P1:=P0.Ml (.inl rfl) hk cN Cc (a':=a.visit V.v room dd.o.key) (s':=.gG V) aE ⟨ux,⟨by rw [hz];rfl,rfl,by rw [hz];rfl,by rw [hz];rfl,by rw [hz];rfl,.inl ⟨⟨b0,0,0,lk room⟩,by rw [hz];rfl,rfl⟩⟩,rfl,⟨h1,rfl,wc,rfl,rfl,hek⟩⟩ (u_.set (S':=X.G.S) hq hn.out.2.2.1 λ_ h=>h);have Gz:=(hF.after (q1:=q2) (ks1:=rM ks k (Nm.st N)) (s1:=.gG V) (a1:=a.visit V.v room dd.o.key) (by
   show _+(N.E+1)*(Nm.st N+1)+(dl.length - (a.aP+1))*N.C+1<=_+0+_;omega)).kb
  exact abY P1 sm.set kk Lq (by omega) hk Cc (by rw [mD,ar rfl,ar bj]) (by rw [mD,ar rfl,ar qz]) cN (ck:=au) (by omega) (by rw [Ri];exact h') Gz
 ·
  have hn:Dz c Rr.q:=by rw [eq];exact avY (by have:=Lq.bk;have:=kk.bk;omega)
  have P0:=Pp.fresh (k:=k) hq lT hn (by omega);have Cc:(rs.set k Rr.q)[k]? =some Rr.q:=(f_ hq).2 (.inl ⟨rfl,rfl⟩);have L7:=HB (k':=Nm.st N) W hq;have f1:Rr.q.kd=dd.o.kind/\Rr.q.ky=dd.o.key/\Rr.q.fl=dd.o.flag/\Rr.q.val=dd.o.val.headD 0:=by rw [eq];unfold Qr.new;split<;>exact ⟨rfl,rfl,rfl,rfl⟩
  have P1:=P0.Ml (.inl rfl) hk cN Cc (a':=a.begin Rr.r dd.o va) (s':=.run Rr dd.o.val) aE ⟨gz,rfl,hn.dn,⟨rfl,h2,wc,hn.fx.symm,f1.1.symm,f1.2.1.symm,f1.2.2.1.symm,λ_=>by rw [f1.2.2.2];cases dd.o.val<;>rfl,KD,rfl,EH dd (dF tN),hra⟩⟩ (u_.set (S':=X.G.S) hq hn.out.2.2.1 λ_ h=>h);have Gz:=(hF.after (q1:=Rr.q) (ks1:=rM ks k (Nm.st N)) (s1:=.run Rr dd.o.val) (a1:=a.begin Rr.r dd.o va) (by
   show _+0+(dl.length - (a.aP+1))*N.C+1<=_+0+_;omega)).kb
  exact ab5 P1 sm.set kk Lq (by omega) hk Cc (by rw [mD,ar rfl,ar bj]) (by rw [mD,ar rfl,ar qz]) cN hm (ck:=au) (by omega) (by rw [Ri];exact h') Gz
 ·
  refine hF H' au A X q ks M es hl D z a.nf .idle (by omega) ?_ W.cx (.inl ?_) h'
  ·rw [nF hq];exact Pp.Ml (.inr rfl) hk cN hq aE ⟨h1,h2,wc,lT⟩ u_
  ·show _+0+(dl.length - (a.aP+1))*N.C+1<=_+0+_;omega
end
end Go.Proofs.YtjggeoghlicmdaaGreat
