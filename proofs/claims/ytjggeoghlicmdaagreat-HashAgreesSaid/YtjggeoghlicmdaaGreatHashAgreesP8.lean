/-
  hashAgrees.proved: the statement holds, whatever the arguments, the memory and the tape. No condition.
  Written by a program out of the texts HashOver HashBegun HashSum VcHh HashAgrees HashAgreesProof.
-/
import Derived.Test.YtjggeoghlicmdaaGreatHashAgreesP7
import Derived.Test.YtjggeoghlicmdaaGreatRows
import Derived.WalkKit
import Derived.ProofKit
import Derived.OpenShut
set_option linter.unusedVariables false
namespace Go.Proofs.YtjggeoghlicmdaaGreat
open Go Go.AS Go.RowKit
section
variable {H H' H0:aa} {R:Value->aa->Prop} {T:List ax} {c:Lc} {A:Ab} {G:Gr} {X X':Gx} {cap:Int} {q x:Qr} {i j k:Nat} {n k':Nat} {b:Pb} {S:Sm} {d:Dk} {D:Dm} {es:List Int} {z:Pz} {m:My} {ll:List (List du)} {Ks:List Ka} {dl:List du} {a a':Ka}
theorem akm (h:Ks[k]? =some a)(h':Ks[j]? =some a'):bF b z Ks k a m d D c X T=bF b z Ks j a' m d D c X T:=by
 have e:dx b Ks k a=dx b Ks j a':=by
  show bx b.ab (.cells true 14 ((Ks.map Ka.cells).set k a.cells).flatten)=bx b.ab (.cells true 14 ((Ks.map Ka.cells).set j a'.cells).flatten);rw [W4 h,W4 h']
 show dm b z::cV z::cW z::dx b Ks k a::_=_;rw [e]
def NC (Ks:List Ka)(ll:List (List du)):Prop:=∀(j:Nat)(a:Ka)(dl:List du),Ks[j]? =some a->ll[j]? =some dl->a.run=none/\a.cg=none/\dl.length<=a.aP
set_option maxHeartbeats 8000000 in
theorem awq {v1:Bool}{v2 v3 v4:Int}{la ta:Option Addr}{tn:Nat}(sm:lP b m c Ks)(Qe:Ks[k]? =some a)(o:zD H0 la n ll)(hm:old H0∈T)(hn:n=Ks.length)(hn4:n<=4)(h:Sep H (bF b z Ks k a m d D c X T))
  (sw:NC Ks ll->∀H',AS.Sep H' (bF b z Ks k a m d D c X T)->R (.bool true) H')(mq:¬NC Ks ll->∀H',AS.Sep H' (bF b z Ks k a m d D c X T)->R (.bool false) H') :
  CA en F.Uo [P b.p,.agg #[.bool v1,I v2,I v3,I v4,.slice la n 0,.slice ta tn 0]] H R:=by
 apply azT;have na:=sm.na;have tS:=o.len;refine Sep.nw h λi1 H2 h2=>?_
 refine ayt (λk' t4 t5 H'=>∃j:Nat,j<=n/\k'=n - j/\t5=(j:Int)/\(∀(i:Nat)(a':Ka)(dl:List du),i<j->Ks[i]? =some a'->ll[i]? =some dl->a'.run=none/\a'.cg=none/\dl.length<=a'.aP)/\AS.Sep H' (bx i1 (.cells true 0 [.bool v1,I v2,I v3,I v4,.slice la n 0,.slice ta tn 0])::bF b z Ks k a m d D c X T)) n ⟨0,h_ _,rfl,rfl,λi _ _ h=>absurd h (Nat.not_lt_zero _),h2⟩ ?_;clear h2 h;rintro k' t4 t5 ys H3 ⟨j,hj,rfl,rfl,GQ,h3⟩;refine af ⟨_,_,Sep.bn h3 rfl,aI (λzz=>?_) λzz=>?_⟩
 ·have zz:j<n:=by
   have:=ga zz
   have:(j:Int)<(b.na:Int):=this
   omega
  have hB:=h3.ae 37;have⟨a',JW⟩:∃a,Ks[j]? =some a:=⟨_,cM (by omega)⟩;have⟨dl,cN⟩:∃dl,ll[j]? =some dl:=⟨_,cM (by omega)⟩;have bj:j<(Ks.map Ka.cells).length:=by rw [gb];omega
  have dZ:az (j:Int) b.na:=by unfold az;omega
  have hC:AS.Sep (H3.ae 37) (bx i1 (.cells true 0 [.bool v1,I v2,I v3,I v4,.slice la n 0,.slice ta tn 0])::bF b z Ks j a' m d D c X T):=by rw [<-akm Qe JW];exact hB
  refine af ⟨_,_,Sep.bn hB rfl,dZ,bG ?_⟩;rw [dr];refine ⟨_,EP hC 4 rfl (bT Ks) rfl bj rfl,?_⟩;cases fB:a'.run with
  |some r=>exact cm rfl ⟨uK (mq (λhd=>by have:=(hd j a' dl JW cN).1;rw [fB] at this;cases this) _ (Sep.uu hB)),trivial⟩
  |none=>
  refine bl rfl (af ⟨_,_,Sep.bn hB rfl,dZ,bG ⟨_,fk (o:=1) hC 4 rfl (bT Ks) rfl bj rfl,?_⟩⟩);cases qD:a'.cg with
  |some r=>exact cm rfl ⟨uK (mq (λhd=>by have:=(hd j a' dl JW cN).2.1;rw [qD] at this;cases this) _ (Sep.uu hB)),trivial⟩
  |none=>
  obtain ⟨i,a2,n2,rfl,e1,o'⟩:=o.aP hB (by simp [hm]) cN;have Ah:=o'.len;refine bl rfl (af ⟨_,_,Sep.bn hB rfl,dZ,bG ⟨_,fk (o:=10) hC 4 rfl (bT Ks) rfl bj rfl,_,_,Sep.aG hB rfl,⟨by omega,by omega⟩,bG ⟨_,_,e1,?_,trivial⟩⟩⟩);refine aI (λzl=>uK (mq (λhd=>?_) _ (Sep.uu hB))) λzl=>⟨n - (j+1),by omega,j+1,by omega,rfl,by rw [wrap_i64 (by omega)];omega,λi2 a3 dl3 h2 h3 h4=>?_,hB⟩
  ·have zl:(a'.aP:Int)<(n2:Int):=ga zl
   have:=(hd j a' dl JW cN).2.2
   omega
  ·have zl:¬(a'.aP:Int)<(n2:Int):=fQ zl;by_cases e:i2=j
   ·subst e;rw [JW] at h3;obtain rfl:=dM h3;rw [cN] at h4;obtain rfl:=dM h4;exact ⟨fB,qD,by omega⟩
   ·exact GQ i2 a3 dl3 (by omega) h3 h4
 ·have zz:j=n:=by
   have:=fQ zz
   have:¬(j:Int)<(b.na:Int):=this
   omega
  subst zz;exact uK (sw (λi a' dl h1 h2=>GQ i a' dl (by have:=(bJ.1 h1).1;omega) h1 h2) _ (Sep.uu h3))
structure Lv (c:Lc)(av:List Int)(j n:Nat)(G:Gr):Prop where
 ok:Ok G
 perm:(G.S.bp.map bz.h).Perm (c.h::(av++G.q.map Wt.h))
 nd:(G.S.bp.map bz.h).Nodup
 dY:G.S.dY=0
 ins:∀a∈G.ins,(j:Int)<=a/\a<(n:Int)
 len:G.q.length<10000
theorem Lv.leave {av:List Int}(h:Lv c av j n G):Lv c av (j+1) n (G.leave (j:Int)).2:=by
 have uZ:∀a∈(G.leave (j:Int)).2.ins,((j+1:Nat):Int)<=a/\a<(n:Int):=λa ha=>by
  have⟨h1,h2⟩:=(avd h.ok).1 ha
  have:=h.ins a h1;omega
 have hlen:(G.leave (j:Int)).2.q.length<10000:=Nat.lt_of_le_of_lt ave h.len;by_cases hj:(j:Int)∈G.ins
 ·have e:G.leave (j:Int)=(gone (G.left (j:Int)).q,(G.left (j:Int)).nH):=ar hj;have pl:=h.ok.left (a:=(j:Int));have eq1:(G.left (j:Int)).q.map Wt.h=G.q.map Wt.h:=aix _ _;have keys:(G.left (j:Int)).nH.S.bp.map bz.h=(G.S.bp.map bz.h).filter λx=> !(gone (G.left (j:Int)).q).contains x:=Vg _ _
  have lZ:Ok (G.leave (j:Int)).2:=h.ok.leave;rw [e] at uZ hlen lZ⊢;refine ⟨lZ,?_,?_,?_,uZ,hlen⟩
  ·show ((G.left (j:Int)).nH.S.bp.map bz.h).Perm (c.h::(av++(kept (G.left (j:Int)).q).map Wt.h));rw [keys];refine (h.perm.filter _).trans ?_;have rD:=h.perm.nodup_iff.1 h.nd;have hg:∀x∈gone (G.left (j:Int)).q,x∈G.q.map Wt.h:=λx hx=>by rw [<-eq1];exact afJ hx
   have hc:c.h∉gone (G.left (j:Int)).q:=λhx=>(l_.1 rD).1 (mE _ (hg _ hx))
   have atB:=(l_.1 rD).2;have he:∀x∈av,x∉gone (G.left (j:Int)).q:=λx h1 h2=>(jG.1 atB).2.2 x h1 x (hg _ h2) rfl
   have e1:(c.h::(av++G.q.map Wt.h)).filter (λx=> !(gone (G.left (j:Int)).q).contains x)=c.h::(av++(kept (G.left (j:Int)).q).map Wt.h):=by
    rw [List.filter_cons_of_pos (by simpa using hc),Fy,<-eq1,afe pl.nd]
    congr 2
    rw [Dg];intro x hx;simpa using he x hx
   rw [e1]
  ·show ((G.left (j:Int)).nH.S.bp.map bz.h).Nodup;rw [keys];exact h.nd.filter _
  ·show (jH G.S _).dY=0;rw [Vf];exact h.dY
 ·have e:G.leave (j:Int)=([],G):=an hj;rw [e] at uZ hlen⊢;exact ⟨h.ok,h.perm,h.nd,h.dY,uZ,hlen⟩
theorem Lv.ara {av:List Int}(h:Lv c av n n G):G.q=[]/\G.S.bp.length=1+av.length/\G.S.dY=0:=by
 have hq:G.q=[]:=by
  cases hq:G.q with
  |nil=>rfl
  |cons w q=>
   exfalso;have hw:w∈G.q:=by rw [hq];exact .head _
   have h1:=h.ok.full w hw;cases Aq:w.ws with
   |nil=>exact h1 Aq
   |cons x xs=>
    have:=(h.ok.ws w hw).1 x (by rw [Aq];exact .head _)
    have:=h.ins x this
    omega
 refine ⟨hq,?_,h.dY⟩
 have:=h.perm.length_eq
 rw [hq] at this;simp only [gb,gU,FA,C7] at this;omega
theorem Mem.lv {av:List Int}(h:Mem c cap A [] G)(he:av=A.av.map El.h)(hi:∀a∈G.ins,0<=a/\a<(n:Int)):Lv c av 0 n G:=by
 have hb:=h.bk;refine ⟨hb.ok,?_,hb.nd,hb.dY,λa ha=>by have:=hi a ha;omega,hb.L9⟩
 have:=hb.perm
 rw [C7] at this;rw [he];exact this
set_option maxHeartbeats 8000000 in
theorem arK {av:List Int}(sm:lP b m c Ks)(hk:k<Ks.length)(hn4:Ks.length<=4)(h0:Lv c av 0 Ks.length X.G)(hlen:D.es.length=av.length)(hle:D.es.length<=1000)(h:Sep H (bF b z Ks k a m d D c X T))
  (hR:∀H' X',AS.Sep H' (bF b z Ks k a m d D c X' T)->R (.bool true) H'):CA en F.Un [P b.p,I 1] H R:=by
 apply azS;have na:=sm.na;refine ays (λk' t5 H'=>∃(j:Nat)(X':Gx),j<=Ks.length/\k'=Ks.length - j/\t5=(j:Int)/\Lv c av j Ks.length X'.G/\AS.Sep H' (bF b z Ks k a m d D c X' T)) Ks.length ⟨0,X,h_ _,rfl,rfl,h0,h⟩ ?_;clear h h0;rintro k' t5 ys H3 ⟨j,X',hj,rfl,rfl,lv,h3⟩;refine af ⟨_,_,Sep.aG h3 rfl,aI (λzz=>?_) λzz=>?_⟩
 ·have zz:j<Ks.length:=by
   have:=ga zz
   have:(j:Int)<(b.na:Int):=this
   omega
  refine af ⟨_,Sep.aG h3 rfl,?_⟩;rw [sm.sg];have h4:AS.Sep H3 (aR c.g c.m X'::dm b z::cV z::cW z::dx b Ks k a::dP b d::cZ m d D (xA c::T)):=Sep.pick h3 15 [14,0,1,2,3,4,5,6,7,8,9,10,11,12,13];refine avf (Pd h4) (by have:=lv.len;omega) λH9 f hf hg=>?_
  have⟨X2,e2,h9⟩:=QJ hg;refine ⟨_,_,rfl,Ks.length - (j+1),by omega,j+1,X2,by omega,rfl,by rw [wrap_i64 (by omega)];omega,by rw [e2];exact lv.leave,?_⟩;exact Sep.pick h9 16 [2,3,4,5,6,7,8,9,10,11,12,13,14,15,0]
 ·have zz:j=Ks.length:=by
   have:=fQ zz
   have:¬(j:Int)<(b.na:Int):=this
   omega
  subst zz;have⟨g1,g2,g3⟩:=lv.ara;have hB:=h3.ae 38;have hg:AS.Sep (H3.ae 38) (aR c.g c.m X'::dm b z::cV z::cW z::dx b Ks k a::dP b d::cZ m d D (xA c::T)):=Sep.pick hB 15 [14,0,1,2,3,4,5,6,7,8,9,10,11,12,13];have WB:AS.Sep (H3.ae 38) (cZ m d D (dm b z::cV z::cW z::dx b Ks k a::dP b d::xA c::aR c.g c.m X'::T)):=Sep.pick hB 15 [5,6,7,8,9,10,11,12,0,1,2,3,4,13,14];have e1:IntKind.i64.wrap ((1:Int)+((D.es.length:Nat):Int))=1+(D.es.length:Int):=wrap_i64 (by omega);have c4:(H3.ae 38).cell b.p 4=some (P m.mx):=by rw [<-sm.sd];exact Sep.aG hB rfl
  have Uj:(H3.ae 38).cell m.mx 0=some (.slice (some ⟨m.al,0,none⟩) 3 0):=Sep.lD WB rfl;have Uf:(H3.ae 38).cell m.al 0=some (P m.y):=Sep.iL WB rfl;have cy:(H3.ae 38).cell m.y 5=some (.slice (addr D.lb) D.es.length 0):=Sep.aG WB rfl;have c1:(H3.ae 38).cell b.p 1=some (P c.m):=by rw [<-sm.sm];exact Sep.aG hB rfl
  have c2:(H3.ae 38).cell b.p 2=some (P c.g):=by rw [<-sm.sg];exact Sep.aG hB rfl
  refine af ⟨_,c1,aib (qu hg) ⟨_,rfl,af ⟨_,c4,af ⟨_,_,Uj,⟨by decide,by decide⟩,bG ⟨_,Uf,af ⟨_,_,cy,?_⟩⟩⟩⟩⟩⟩;rw [e1];refine cm (by rw [g2];simp;omega) (af ⟨_,c2,aCC (Pd hg) ⟨_,rfl,?_⟩⟩);rw [g1];refine cm rfl (af ⟨_,c1,apS (qu hg) ⟨_,rfl,?_⟩⟩);rw [g3];exact ⟨hR _ X' hB,⟨rfl,rfl,trivial⟩,⟨rfl,rfl,trivial⟩,⟨⟨_,_,cy,rfl,rfl,rfl⟩,⟨_,_,cy,rfl,rfl,rfl⟩,trivial⟩,⟨⟨_,Uf,rfl⟩,⟨_,Uf,rfl⟩,trivial⟩,⟨⟨_,_,Uj,rfl,rfl,rfl⟩,⟨_,_,Uj,rfl,rfl,rfl⟩,trivial⟩,⟨⟨_,c4,rfl⟩,⟨_,c4,rfl⟩,trivial⟩,trivial⟩
end
section
variable {H H' H0:aa} {R:Value->aa->Prop} {L:List ax} {N:Nm} {c:Lc} {A:Ab} {G:Gr} {X X':Gx} {cap:Int} {q x:Qr} {i j k:Nat} {n k' au:Nat} {M:List (List El)} {b:Pb} {S:Sm} {d:Dk} {es hl:List Int} {m:My} {ll:List (List du)} {dl:List du} {s:Ag} {a:Ka}
abbrev GG (x m g:Nat)(d:Dk):Lc:=⟨x,m,g,d.kd,d.en,1,d.bk,d.jJ,1⟩
theorem atC {m g:Nat}(kk:d.Ok)(hb:pow d.bk)(h:Sep H (aR g m X::L))(hm:X.G.S.made=0)(hf:X.G.S.fresh)(lB:100<=X.G.S.room)
  (hR:∀H' x bk,Sep H' (xA (GG x m g d)::aR g m (X.to (X.G.S.mk' bk (2+3*d.bk).toNat))::L)->R (.tuple #[P x,I 0]) H'):CA en F.V2 [P m,P g,.agg #[I d.kd,I d.en,I 1,I d.bk,I d.jJ]] H R:=by
 have J9:=Rl hb;have hn:=kk.en;have ew:wr (2+wr (3*d.bk))=2+3*d.bk:=by rw [o_ (n:=3*d.bk) (by omega),o_ (by omega)]
 apply aAM;refine Sep.nw h λi1 H2 h2=>⟨_,_,_,_,_,Sep.jK h2 rfl,Sep.nw h2 λi8 H9 h9=>Sep.dp h9 (aS rfl) λeO eI=>Sep.dp eI (aS rfl) λcj jo=>Sep.dp jo (aS rfl) λbO fA=>⟨_,Sep.bn fA rfl,?_⟩⟩
 have fA:Sep bO (bx i8 (.cells true 0 [I 4,I d.en,I 1,I d.bk,I 0])::bx i1 (.cells true 0 [I d.kd,I d.en,I 1,I d.bk,I d.jJ])::aR g m X::L):=fA;rcases kk.k2 with hk|hk
 ·refine bl (by rw [hk];rfl) ⟨_,_,_,_,_,Sep.jK fA rfl,Sep.nw fA λi42 mX vW=>?_⟩;refine aaO (l:=[⟨4,d.en,1,d.bk,0⟩]) ⟨rfl,.inr ⟨i42,true,5,rfl,vW.D5 (by simp [bx]),Sep.gL vW⟩⟩ λdw fr=>⟨_,rfl,?_⟩
  have nW:=(vW.iy fr).tail;rw [af_ hn hb];refine bl rfl ⟨_,Sep.bn nW rfl,?_⟩;show CA en F.wB [P m,I (wr (2+wr (3*d.bk)))] dw _;rw [ew];refine Vl (Sep.qM nW) hf λjl bk xg=>⟨_,_,rfl,?_⟩
  have e:X.G.S.make bk (2+3*d.bk)=((1,0),X.G.S.mk' bk (2+3*d.bk).toNat):=by
   unfold Sm.make;rw [an (by omega),an (by omega),hm];rfl
  rw [e] at xg⊢;refine bl rfl ⟨_,_,_,_,_,Sep.yT xg rfl,Sep.nw xg λx lh vX=>?_⟩;exact hR lh x bk (Sep.pick vX 4 [0,1])
 ·refine cm (by rw [hk];rfl) ⟨_,Sep.bn fA rfl,bl (by rw [hk];rfl) ⟨_,_,_,_,_,Sep.jK fA rfl,Sep.nw fA λi42 mX vW=>?_⟩⟩;refine aaO (l:=[⟨4,d.en,1,d.bk,0⟩]) ⟨rfl,.inr ⟨i42,true,5,rfl,vW.D5 (by simp [bx]),Sep.gL vW⟩⟩ λdw fr=>⟨_,rfl,?_⟩
  have nW:=(vW.iy fr).tail;rw [af_ hn hb];refine bl rfl ⟨_,Sep.bn nW rfl,?_⟩;show CA en F.wB [P m,I (wr (2+wr (3*d.bk)))] dw _;rw [ew];refine Vl (Sep.qM nW) hf λjl bk xg=>⟨_,_,rfl,?_⟩
  have e:X.G.S.make bk (2+3*d.bk)=((1,0),X.G.S.mk' bk (2+3*d.bk).toNat):=by
   unfold Sm.make;rw [an (by omega),an (by omega),hm];rfl
  rw [e] at xg⊢;refine bl rfl ⟨_,_,_,_,_,Sep.yT xg rfl,Sep.nw xg λx lh vX=>?_⟩;exact hR lh x bk (Sep.pick vX 4 [0,1])
theorem aus {mp mi bk x m g B na:Nat}{room:Int}(kk:d.Ok)(hb:pow d.bk)(hB:d.bk=(B:Int))(hr:100<=room/\room<=20000) :
  Idle (GG x m g d) (room - (2+3*d.bk)) 1 ⟨List.replicate B [],0,0,λ_=>0,λ_=>0,1⟩ (⟨na,mi,uR na,[],(mS mp room).mk' bk (2+3*d.bk).toNat⟩:Gr):=by
 have hn:=kk.en;generalize GF:d.bk=b at *;have J9:=Rl hb;have hc:DO room=room:=by rw [aev];omega
 have hw:wr ((mS mp room).made+1)=1:=o_ (by simp [mS]);have eB:(2+3*b).toNat=2+3*B:=by omega
 have hV:((mS mp room).mk' bk (2+3*b).toNat).V 1=some (List.replicate (2+3*B) 0):=by
  rw [TV bk _ rfl,hw,ar rfl,eB]
 have hk:((mS mp room).mk' bk (2+3*b).toNat).bp.map bz.h=[1]:=by
  show [wr ((mS mp room).made+1)]=[1];rw [hw]
 have Ww:((mS mp room).mk' bk (2+3*b).toNat).made=1:=hw;have Cd:((mS mp room).mk' bk (2+3*b).toNat).room=room - (2+3*b):=by
  show wr (DO room - ((2+3*b).toNat:Nat))=_;rw [hc,o_ (by omega)];omega
 have GH:(List.replicate B ([]:List El)).flatten=[]:=by simp
 have hg:∀i,(List.replicate (2+3*B) (0:Wd)).getD i 0=0:=λi=>by
  rw [gu,Nw];split<;>rfl
 refine ⟨⟨⟨⟨⟨are na,by simp,by simp⟩,by simp⟩,⟨_,hV,by simp⟩,?_,?_,?_,?_,?_,?_,?_,?_,rfl⟩,⟨⟨_,hV,⟨by simp,hg _,hg _,λi _=>hg _,λi _=>hg _,λi l hl=>?_⟩⟩,λi l hl=>?_,?_⟩,?_,?_⟩,λ_ _=>rfl,?_,?_,hn,by show (1:Int)<=1;decide⟩
 ·show ∀h∈(Ab.av _).map El.h++[]++[],_;unfold Ab.av;rw [GH];simp
 ·show (((mS mp room).mk' bk (2+3*b).toNat).bp.map bz.h).Perm (1::((Ab.av _).map El.h++[]++[]));rw [hk];unfold Ab.av;rw [GH];exact Ih _
 ·show ∀h∈((mS mp room).mk' bk (2+3*b).toNat).bp.map bz.h,1<=h/\h<=((mS mp room).mk' bk (2+3*b).toNat).made;rw [hk,Ww];intro h hh;simp only [fo] at hh;omega
 ·show (((mS mp room).mk' bk (2+3*b).toNat).bp.map bz.h).Nodup;rw [hk];simp
 ·show 0<=((mS mp room).mk' bk (2+3*b).toNat).made/\((mS mp room).mk' bk (2+3*b).toNat).made<_;rw [Ww];decide
 ·show ((mS mp room).mk' bk (2+3*b).toNat).room+3*((((Ab.av _).map El.h++[]).length:Int)+(([]:List Wt).length:Nat))=room - (2+3*b);rw [Cd];unfold Ab.av;rw [GH];simp
 ·show 0<=((mS mp room).mk' bk (2+3*b).toNat).room;rw [Cd];omega
 ·show room - (2+3*b)<=20000;omega
 ·rw [hg]
  have:=dF hl
  rw [Bh this];rfl
 ·have:=dF hl
  rw [Bh this];trivial
 ·show ((1:Int)::(Ab.av _).map El.h).Nodup;unfold Ab.av;rw [GH];simp
 ·show d.bk=((List.replicate B ([]:List El)).length:Nat)/\1<=(List.replicate B ([]:List El)).length/\(List.replicate B ([]:List El)).length<=32;rw [Sv];omega
 ·show ((mS mp room).mk' bk (2+3*b).toNat).made<=1/\(1:Int)<_;rw [Ww];decide
 ·show (0:Wd)=BitVec.ofNat 64 (List.replicate B ([]:List El)).flatten.length;rw [GH];rfl
 ·show (((List.replicate B ([]:List El)).flatten.length:Nat):Int)<=d.en;rw [GH];show (0:Int)<=d.en;omega
abbrev AI:Qr:={Qr.zero with dn:=true}
theorem Rest.idle (R:Rest N c cap au A G M)(hn:n<=1000):World ⟨n,N.E,N.B⟩ c cap au A G (List.replicate n AI) (λ_=>0) M/\tp (List.replicate n AI):=by
 have rp:∀(a:Nat)(q:Qr),(List.replicate n AI)[a]? =some q->q=AI:=λa q h=>Bh (dF h)
 have hi:AI.dh=false:=rfl;obtain ⟨a1,a2,a3⟩:=all_none λa q hq=>by
  rw [rp a q hq];exact ⟨rfl,rfl,rfl⟩
 refine ⟨⟨by rw [a3];exact R.mem,by show n=_;rw [Sv],R.nE,R.nB,⟨hn,R.wC⟩,by rw [R.ls],R.tm,λi sD=>⟨[],⟨SM,λa=>⟨λh=>(by cases h),λ⟨q,h1,h2,_⟩=>?_⟩,by rw [R.lock i sD];simp,λk a q hk=>by simp at hk⟩,h_ _⟩,λa q hq=>by rw [rp a q hq];exact .inl rfl,?_,?_,λi _ _=>by rw [R.ls],R.iO,λa q hq=>js ?_⟩,λa q hq _=>by rw [rp a q hq];exact hi⟩
 ·rw [rp a q h1,hi] at h2;cases h2
 ·show A.ay=BitVec.ofNat 64 (M.flatten.length+cS (List.replicate n AI)+4294967296*eJ (List.replicate n AI));rw [a1,a2];exact R.ay
 ·show M.flatten.length+cS (List.replicate n AI)<=_;rw [a2];exact R.le
 ·rw [rp a q hq];rfl
theorem avw {B:Nat}(h:d.kd=4∨d.kd=10):fy d (List.replicate B []) S [] D0 []:=by
 have e:(List.replicate B ([]:List El)).flatten=[]:=by simp
 refine ⟨rfl,by rw [e];exact Ih _,SM,SM,λi h x h1=>(by simp at h1),λ_ i h x h1=>(by simp at h1),λ_ x hx=>(by cases hx),λ_=>rfl,λ_ j h h1=>(by simp at h1),SM,λ_=>rfl⟩
abbrev mR:Ka:=⟨none,none,none,0,0,0,0,0,none,0,0,0,0,false,0,false⟩
abbrev xO:Pz:=⟨[],none,none⟩
def Yl (d:Dk):List (List El):=List.replicate d.bk.toNat []
theorem awx {c:Lc}{cap:Int}{A:Ab}(I0:Idle c cap 1 A G)(kk:d.Ok)(hA:A.ls=Yl d)(nq:A.bo=0)(hc:c.d1=d.en)(hk:c.d0=d.kd)(qx:c.d3=d.bk)(hn:1<=n/\n<=4)(uZ:G.ins=uR n)(qy:G.S.count=0)(hl:ll.length=n) :
  gJ H0 ⟨n,d.en.toNat,d.bk.toNat⟩ c cap d ll 1 A G (List.replicate n AI) (λ_=>0) A.ls [] [] D0 xO (List.replicate n mR) (List.replicate n .idle) n/\Lk c d A.ls:=by
 have ken:=kk.en;have kbk:=kk.bk;have yM:A.ls.length=d.bk.toNat:=by rw [hA];exact Sv
 have R0:Rest ⟨n,d.en.toNat,d.bk.toNat⟩ c cap 1 A G A.ls:=I0.rest (by rw [yM,hA];rfl) (by show ((d.en.toNat:Nat):Int)=c.d1;omega) yM.symm ⟨I0.mx,by rw [nq];decide,by decide⟩;have⟨W,Dn⟩:=R0.idle (n:=n) (by omega);refine ⟨⟨W,Dn,⟨by rw [uZ];intro e;have:=hZ List.length e;unfold uR at this;simp at this;omega,λa ha=>by rw [uZ] at ha;exact ae2.1 ha⟩,by rw [qy];decide,λh hh=>(by cases hh),by rw [hA];exact avw kk.k2,aeK,⟨λ_=>rfl,λ_=>rfl,by decide⟩,λq hq=>(by cases hq),h_ _,h_ _,by simp,by simp,hl,λk a dl h1 _=>?_,λk s q a _ h1 h2 h3=>?_,λk a h1=>?_⟩,⟨hk.symm,hc.symm,qx.symm,kk.k2,by rw [yM,qx];omega⟩⟩
 ·rw [Bh (dF h1)];exact h_ _
 ·rw [Bh (dF h1),Bh (dF h2),Bh (dF h3)];exact ⟨rfl,rfl,rfl,rfl⟩
 ·rw [Bh (dF h1)];exact .inl rfl
abbrev mm (t:Bool)(e b:Int):Dk:=⟨if t then 10 else 4,1+e % 64,IntKind.i64.wrap (1*2 ^ (min (IntKind.u64.wrap (b % 6)).toNat 64)),if t then 2 else 0⟩
theorem six (v:Int):v % 6=0∨v % 6=1∨v % 6=2∨v % 6=3∨v % 6=4∨v % 6=5:=by omega
theorem UI {t:Bool}{e b:Int}:pow (mm t e b).bk/\nn (IntKind.u64.wrap (b % 6)):=by
 show pow (IntKind.i64.wrap (1*2 ^ (min (IntKind.u64.wrap (b % 6)).toNat 64)))/\_;rcases six b with h|h|h|h|h|h<;>rw [h]<;>exact ⟨by unfold pow;decide,by unfold nn;decide⟩
theorem aeM {t:Bool}{e b:Int}:(mm t e b).Ok:=by
 refine ⟨?_,?_,Rl UI.1⟩
 ·cases t
  ·exact .inl ⟨rfl,rfl⟩
  ·exact .inr ⟨rfl,rfl⟩
 ·show 1<=1+e % 64/\1+e % 64<=64;omega
set_option maxHeartbeats 16000000 in
theorem apT {t:Bool}{dg iG rK:Int}{la ta:Option Addr}{tn:Nat}(h:Sep H [old H0])(hn:1<=n/\n<=4)(hl:n=ll.length)
  (hR:∀H' b m c cap A X,lP b m c (List.replicate n mR)->Idle c cap 1 A X.G->A.ls=Yl (mm t dg iG)->A.bo=0->c.d1=(mm t dg iG).en->c.d0=(mm t dg iG).kd->c.d3=(mm t dg iG).bk->X.G.ins=uR n->X.G.S.count=0->X.G.S.bp.length=1->
   AS.Sep H' (bF b xO (List.replicate n mR) 0 mR m (mm t dg iG) D0 c X [old H0])->R (P b.p) H'):CA en F.Um [.agg #[.bool t,I dg,I iG,I rK,.slice la n 0,.slice ta tn 0]] H R:=by
 have⟨GR,EA⟩:=UI (t:=t) (e:=dg) (b:=iG);have kk:=aeM (t:=t) (e:=dg) (b:=iG);have US:IntKind.i64.wrap (1+dg % 64)=1+dg % 64:=wrap_i64 ⟨by omega,by omega⟩;have D2:IntKind.i64.wrap (400+rK % 2000)=400+rK % 2000:=wrap_i64 ⟨by omega,by omega⟩;apply azR;refine Sep.nw h λi1 H2 h2=>?_
 have hB:=h2.ae 15;refine ⟨_,Sep.aG hB rfl,_,Sep.aG hB rfl,NS (by decide) (by decide) ⟨_,rfl,_,Sep.aG hB rfl,NS (by decide) (by decide) ⟨_,rfl,EA,?_⟩⟩⟩;rw [US];refine aqF (t:=t) hB λcE li gP=>⟨_,_,rfl,Sep.nw gP λi16 aQ g_=>⟨⟨_,Sep.eK g_ rfl,NS (by decide) (by decide) ⟨_,rfl,?_⟩⟩,⟨⟨_,Sep.aG hB rfl,rfl⟩,⟨_,Sep.aG hB rfl,rfl⟩,trivial⟩,⟨rfl,rfl,trivial⟩,⟨⟨_,Sep.aG hB rfl,rfl⟩,⟨_,Sep.aG hB rfl,rfl⟩,⟨_,Sep.aG hB rfl,rfl⟩,trivial⟩,trivial⟩⟩
 rw [D2];have hc:DO (400+rK % 2000)=400+rK % 2000:=by rw [aev];omega
 refine avZ g_ λbN m mp tL=>⟨_,rfl,Sep.lK tL (aS rfl) λgI nV=>⟨_,Sep.bn nV rfl,bl rfl ?_⟩⟩
 have hC:=nV.ae 12;refine ⟨_,_,Sep.iV hC rfl,_,Sep.bn hC rfl,avX hC λmF g mi hg=>⟨_,rfl,?_⟩⟩;have⟨X0,eX,qw⟩:=QJ hg;refine Sep.lK qw (aS rfl) λtu yD=>⟨⟨_,Sep.bn yD rfl,bl rfl ?_⟩,trivial⟩
 have hD:=yD.ae 20;refine ⟨_,Sep.bn hD rfl,_,Sep.bn hD rfl,_,_,Sep.bn hD rfl,⟨by decide,by decide⟩,bG ⟨_,_,_,_,_,Sep.yT hD rfl,?_⟩⟩;refine atC kk GR hD (by rw [eX];rfl) (by rw [eX];rfl) (by rw [eX];show 100<=DO _;rw [hc];omega) λdW x bk su=>⟨_,_,rfl,?_⟩
 refine ⟨⟨_,_,Sep.eK su rfl,agM (d:=mm t dg iG) kk GR su (dF (i:=3) rfl) λlh m' vX=>⟨_,_,rfl,bl rfl (bl rfl (bl rfl ?_))⟩⟩,trivial⟩;have h59:=Sep.pick vX 14 [10,11,12,0,1,2,3,4,5,6,7,8,9,13];refine Sep.dp h59 (aS rfl) λuD h61=>Sep.dp h61 (aS rfl) λFM VB=>⟨_,_,Sep.eK VB rfl,⟨by omega,Int.le_refl _,by omega⟩,?_⟩
 rw [dr];refine Sep.nw VB λi65 pk Pm=>Sep.lK Pm (aS rfl) λuE yF=>?_
 have e2:fE n [.pointer none,.pointer none,.slice none 0 0,I 0,.int .u64 0,I 0,.int .u64 0,.slice none 0 0,I 0,I 0,I 0,.bool false,I 0,.bool false]=(((List.replicate n mR).map Ka.cells).set 0 mR.cells).flatten:=by
  have h0:(List.replicate n mR)[0]? =some mR:=by rw [Nw,ar (by omega)]
  rw [W4 h0,awQ,List.map_replicate];rfl
 rw [e2] at yF
 let bb:Pb:=⟨i16,li,m,g,x,m'.mx,i65,n⟩
 have Pn:AS.Sep uE (bF bb xO (List.replicate n mR) 0 mR m' (mm t dg iG) D0 (GG x m g (mm t dg iG)) (X0.to (X0.G.S.mk' bk (2+3*(mm t dg iG).bk).toNat)) [old H0]):=by
  have h1:=kx (es:=1) (cs:=[]) |>.2 (kx (es:=1) (cs:=[]) |>.2 yF)
  exact Sep.pick h1 17 [3,0,1,2,4,6,7,8,9,10,11,12,13,14,15,16]
 clear yF Pm VB h61 h59 vX su hD yD qw hC nV tL g_ gP hB h2;refine ayr (λk' t2 t8 H'=>∃(j:Nat)(X:Gx),j<=n/\k'=n - j/\t8=(j:Int)/\X.G=⟨n,mi,uR j,[],(mS mp (400+rK % 2000)).mk' bk (2+3*(mm t dg iG).bk).toNat⟩/\AS.Sep H' (bF bb xO (List.replicate n mR) 0 mR m' (mm t dg iG) D0 (GG x m g (mm t dg iG)) X [old H0])) n ⟨0,_,h_ _,rfl,rfl,?_,Pn⟩ ?_
 ·show X0.G.mem (X0.G.S.mk' bk (2+3*(mm t dg iG).bk).toNat)=_;rw [eX];rfl
 clear Pn;rintro k' t2 t8 ys H3 ⟨j,X,hj,rfl,rfl,hX,h3⟩;refine ⟨_,_,Sep.aG h3 rfl,aI (λzz=>?_) λzz=>?_⟩
 ·have zz:j<n:=by
   have:=ga zz
   have:(j:Int)<(n:Int):=this
   omega
  have h4:AS.Sep H3 (aR g m X::dm bb xO::cV xO::cW xO::dx bb (List.replicate n mR) 0 mR::dP bb (mm t dg iG)::cZ m' (mm t dg iG) D0 (xA (GG x m g (mm t dg iG))::[old H0])):=Sep.pick h3 15 [14,0,1,2,3,4,5,6,7,8,9,10,11,12,13];refine ⟨_,Sep.aG h3 rfl,arR h4 λH5 X' eX' h5=>⟨_,rfl,?_⟩⟩;have he:X.G.enter (j:Int)=(true,⟨n,mi,uR (j+1),[],(mS mp (400+rK % 2000)).mk' bk (2+3*(mm t dg iG).bk).toNat⟩):=by
   rw [hX,arf];unfold Gr.enter;rw [an];rintro (h|h|h)
   ·omega
   ·have h:(n:Int)<=j:=h;omega
   ·have:=(ae2.1 h).2;omega
  rw [he] at eX'⊢;exact bl rfl ⟨n - (j+1),by omega,j+1,X',by omega,rfl,by rw [wrap_i64 (by omega)];omega,eX',Sep.pick h5 15 [1,2,3,4,5,6,7,8,9,10,11,12,13,14,0]⟩
 ·have e:j=n:=by
   have:=fQ zz
   have:¬(j:Int)<(n:Int):=this
   omega
  subst e;have qx:=Rl GR;refine apt (hR H3 bb m' (GG x m g (mm t dg iG)) (400+rK % 2000 - (2+3*(mm t dg iG).bk)) ⟨Yl (mm t dg iG),0,0,λ_=>0,λ_=>0,1⟩ X ⟨rfl,rfl,rfl,rfl,Sv⟩ ?_ rfl rfl rfl rfl rfl (by rw [hX]) (by rw [hX];rfl) (by rw [hX];rfl) h3);rw [hX];exact aus kk GR (by omega) (by omega)
end
section
variable {H H' H0:aa} {R:Value->aa->Prop} {L T:List ax} {N:Nm} {c:Lc} {A A':Ab} {G:Gr} {X:Gx} {cap:Int} {q q' x:Qr} {i j k:Nat} {n k' au:Nat} {rs:List Qr} {M:List (List El)} {ks ks':Nat->Nat} {b:Pb} {d:Dk} {D:Dm} {es hl:List Int} {z:Pz} {m:My} {ll:List (List du)} {Ks:List Ka} {Ss:List Ag} {dl:List du} {s s':Ag} {a a':Ka}
def yU (ll:List (List du))(k:Nat):Nat:=((ll[k]?).getD []).length
theorem ah_ (h:ll[k]? =some dl):yU ll k=dl.length:=by unfold yU;rw [h];rfl
def Cn (N:Nm)(Ks:List Ka)(Ss:List Ag)(ll:List (List du))(k:Nat):Nat:=((Ss[k]?).map (Ag.ext N)).getD 0+(yU ll k - ((Ks[k]?).map Ka.aP).getD 0)*N.C
theorem aia (hs:Ss[k]? =some s)(ha:Ks[k]? =some a)(hd:ll[k]? =some dl):Cn N Ks Ss ll k=s.ext N+(dl.length - a.aP)*N.C:=by
 unfold Cn;rw [hs,ha,ah_ hd];rfl
def wF (N:Nm)(ks:Nat->Nat)(Ks:List Ka)(Ss:List Ag)(ll:List (List du)):Nat:=gA ks N.n+gA (Cn N Ks Ss ll) N.n
theorem avh (hs:Ss[k]? =some s)(ha:Ks[k]? =some a)(hd:ll[k]? =some dl):Cn N (Ks.set k a') (Ss.set k s') ll=λb=>if b=k then s'.ext N+(dl.length - a'.aP)*N.C else Cn N Ks Ss ll b+0:=by
 funext b
 have h1:=(bJ.1 hs).1;have h2:=(bJ.1 ha).1;by_cases e:b=k
 ·subst e;rw [ar rfl];exact aia (by rw [mD,ar rfl,ar h1]) (by rw [mD,ar rfl,ar h2]) hd
 ·rw [an e];unfold Cn;rw [mD,an (λh=>e h.symm),mD,an (λh=>e h.symm)];rfl
theorem ayb (hk:k<N.n)(hs:Ss[k]? =some s)(ha:Ks[k]? =some a)(hd:ll[k]? =some dl)(hp:zI N A A' ks ks' q q' s s' a a' dl) :
  wF N ks' (Ks.set k a') (Ss.set k s') ll+1<=wF N ks Ks Ss ll∨
  (wF N ks' (Ks.set k a') (Ss.set k s') ll=wF N ks Ks Ss ll/\Bv N A q/\A'.sv=A.sv/\A'.ay=A.ay/\q'.nx=q.nx/\q'.room=q.room/\q'.dn=q.dn/\a'.aP=a.aP/\(q.dn=true->dl.length<=a.aP)):=by
 have h1:=Rh (Cn N Ks Ss ll) k (s'.ext N+(dl.length - a'.aP)*N.C) 0 N.n;rw [ar hk,ar hk,<-avh hs ha hd,aia hs ha hd] at h1;unfold wF;rcases hp with h|⟨g1,g2,g3,g4,g5,g6,g7,g8,g9,D6⟩
 ·left;omega
 ·right;rw [g9] at h1;refine ⟨by rw [g8] at h1;omega,g1,g3,g4,g5,g6,g7,g9,D6⟩
theorem aki {f g:Nat->Nat}:∀n,(∀k,k<n->f k=g k)->gA f n=gA g n
 |0,_=>rfl
 |n+1,h=>by
  show gA f n+f n=gA g n+g n
  rw [aki n λk hk=>h k (by omega),h n (by omega)]
theorem akj {f:Nat->Nat}{C:Nat}:∀n,gA (λk=>f k*C) n=gA f n*C
 |0=>by show 0=0*C;rw [SO]
 |n+1=>by
  show gA (λk=>f k*C) n+f n*C=(gA f n+f n)*C
  rw [akj n,mB]
theorem akk:∀n,gA (λ_=>0) n=0
 |0=>rfl
 |n+1=>by show gA (λ_=>0) n+0=0;rw [akk n]
theorem aya:wF N (λ_=>0) (List.replicate n mR) (List.replicate n .idle) ll=gA (yU ll) N.n*N.C:=by
 unfold wF;rw [akk,cG,<-akj];refine aki _ λk _=>?_
 unfold Cn;have e1:(((List.replicate n Ag.idle)[k]?).map (Ag.ext N)).getD 0=0:=by
  rw [Nw];split<;>rfl
 have e2:(((List.replicate n mR)[k]?).map Ka.aP).getD 0=0:=by
  rw [Nw];split<;>rfl
 rw [e1,e2,cG,Nat.sub_zero]
def DC (N:Nm)(A:Ab)(rs:List Qr)(Ks:List Ka)(ll:List (List du))(t f:Nat):Prop:=
 f<=t/\∀j,1<=j->j<=f->∀q a dl,rs[(t - j) % N.n]? =some q->Ks[(t - j) % N.n]? =some a->ll[(t - j) % N.n]? =some dl->Bv N A q/\(q.dn=true->dl.length<=a.aP)
theorem Zw {t:Nat}:DC N A rs Ks ll t 0:=⟨h_ _,λj h1 h2=>by omega⟩
theorem ahc {x y:Qr}(h3:A'.sv=A.sv)(h4:A'.ay=A.ay)(e1:y.dn=x.dn)(e2:y.nx=x.nx)(e3:y.room=x.room)(hx:Bv N A x):Bv N A' y:=by
 rcases hx with hx|⟨t,th,i,g1,g2,g3,g4⟩|⟨g1,g2,g3⟩
 ·exact .inl (e1.trans hx)
 ·exact .inr (.inl ⟨t,th,i,e2.trans g1,g2,e3.trans g3,by rw [h3];exact g4⟩)
 ·exact .inr (.inr ⟨e2.trans g1,by rw [h4];exact g2,by rw [h4];exact g3⟩)
theorem axT {t f:Nat}(h:DC N A rs Ks ll t f)(hq:rs[t % N.n]? =some q)(ha:Ks[t % N.n]? =some a)(hd:ll[t % N.n]? =some dl)(g1:Bv N A q)(g3:A'.sv=A.sv)(g4:A'.ay=A.ay)(g5:q'.nx=q.nx)(g6:q'.room=q.room)(g7:q'.dn=q.dn)(g9:a'.aP=a.aP)(D6:q.dn=true->dl.length<=a.aP) :
  DC N A' (rs.set (t % N.n) q') (Ks.set (t % N.n) a') ll (t+1) (f+1):=by
 have Qe:=(bJ.1 ha).1;refine ⟨by have:=h.1;omega,λj rB pL x a2 UK hx GA Kg=>?_⟩;by_cases e0:(t+1 - j) % N.n=t % N.n
 ·rw [e0] at hx GA Kg;rcases (f_ hq).1 hx with ⟨_,rfl⟩|⟨h,_⟩
  ·rcases j9 Qe GA with ⟨_,rfl⟩|⟨h,_⟩
   ·rw [hd] at Kg;obtain rfl:=dM Kg;exact ⟨ahc g3 g4 g7 g5 g6 g1,λhh=>by rw [g9];exact D6 (by rw [<-g7];exact hh)⟩
   ·exact absurd rfl h
  ·exact absurd rfl h
 ·have hj:1<=j - 1:=by
   rcases Nat.eq_or_lt_of_le rB with e|e
   ·exfalso;apply e0;rw [<-e,Nat.add_sub_cancel]
   ·omega
  have ej:t+1 - j=t - (j - 1):=by omega
  rcases (f_ hq).1 hx with ⟨h,_⟩|⟨_,hx⟩
  ·exact absurd h e0
  ·rcases j9 Qe GA with ⟨h,_⟩|⟨_,GA⟩
   ·exact absurd h e0
   ·rw [ej] at hx GA Kg;have⟨u1,u2⟩:=h.2 (j - 1) hj (by omega) x a2 UK hx GA Kg;exact ⟨ahc g3 g4 rfl rfl rfl u1,u2⟩
theorem aCF {n t i:Nat}(hi:i<n)(ht:n<=t):∃j,1<=j/\j<=n/\(t - j) % n=i:=by
 have hn:0<n:=by omega
 refine ⟨(t - 1 - i) % n+1,by omega,by have:=FB (t - 1 - i) hn;omega,?_⟩;have h:=Nat.div_add_mod (t - 1 - i) n;have e:t - ((t - 1 - i) % n+1)=i+n*((t - 1 - i) / n):=by omega
 rw [e,Nat.add_mul_mod_self_left,Da hi]
theorem tj.idle {kk:Nat}(h:tj H0 c d A M s q a kk)(hd:q.dn=true):a.run=none/\a.cg=none:=by
 cases s with
 |idle=>exact ⟨h.1,h.2.1⟩
 |run R val=>have:=h.2.2.1;rw [hd] at this;cases this
 |gG V=>have:=h.2.1.yY;rw [hd] at this;cases this
 |sZ V i pre rest=>have:=h.2.2.2.1;rw [hd] at this;cases this
 |rest V kg i g E1 K l=>have:=h.2.2.2.1;rw [hd] at this;cases this
 |take V kg R i g E1 K l e=>have:=h.2.2.2.2.2.1;rw [hd] at this;cases this
theorem tj.dn {kk:Nat}(h:tj H0 c d A M s q a kk)(h1:a.run=none)(h2:a.cg=none):q.dn=true:=by
 cases s with
 |idle=>exact h.2.2.2
 |run R val=>exact absurd (h1.symm.trans h.2.2.2.run) (by simp)
 |gG V=>exact absurd (h2.symm.trans h.2.2.2.cg) (by simp)
 |sZ V i pre rest=>exact absurd (h2.symm.trans h.2.2.2.2.2.2.cg) (by simp)
 |rest V kg i g E1 K l=>exact absurd (h2.symm.trans h.2.2.2.2.2.2.1.cg) (by simp)
 |take V kg Rr i g E1 K l e=>exact absurd (h1.symm.trans h.2.2.2.2.2.2.2.2.2.2.2.2.1) (by simp)
theorem axS {t f:Nat}(Pp:gJ H0 N c cap d ll au A G rs ks M es hl D z Ks Ss N.n)(hn:0<N.n)(h:DC N A rs Ks ll t f)(hf:N.n<=f):NC Ks ll:=by
 have hlr:=Pp.w.nn;have st:aa5 N A rs t f:=⟨h.1,λj h1 h2 q hq=>by
  have aE:=(bJ.1 hq).1;have⟨a,ha⟩:∃a,Ks[(t - j) % N.n]? =some a:=⟨_,cM (by rw [Pp.lk];omega)⟩;have⟨dl,cN⟩:∃dl,ll[(t - j) % N.n]? =some dl:=⟨_,cM (by rw [Pp.KY];omega)⟩;exact (h.2 j h1 h2 q a dl hq ha cN).1⟩
 have O:=awp Pp.w Pp.nh st hf hn;intro i a dl ha cN;have hi:i<N.n:=by rw [<-Pp.lk];exact (bJ.1 ha).1
 have⟨q,hq⟩:∃q,rs[i]? =some q:=⟨_,cM (by omega)⟩;have⟨s,hs⟩:∃s,Ss[i]? =some s:=⟨_,cM (by rw [Pp.ls];exact hi)⟩;have hd:=O i q hq;have⟨r1,r2⟩:=(Pp.ag i s q a (by omega) hs hq ha).idle hd;have⟨j,j1,j2,j3⟩:=aCF hi (t:=t) (by have:=h.1;omega);refine ⟨r1,r2,(h.2 j j1 (by omega) q a dl (by rw [j3];exact hq) (by rw [j3];exact ha) (by rw [j3];exact cN)).2 hd⟩
theorem aqR (Pp:gJ H0 N c cap d ll au A G rs ks M es hl D z Ks Ss N.n)(h:NC Ks ll):TT rs:=by
 intro i q hq;have hi:i<N.n:=by rw [Pp.w.nn];exact (bJ.1 hq).1
 have⟨s,hs⟩:∃s,Ss[i]? =some s:=⟨_,cM (by rw [Pp.ls];exact hi)⟩;have⟨a,ha⟩:∃a,Ks[i]? =some a:=⟨_,cM (by rw [Pp.lk];exact hi)⟩;have⟨dl,cN⟩:∃dl,ll[i]? =some dl:=⟨_,cM (by rw [Pp.KY];exact hi)⟩;have⟨h1,h2,_⟩:=h i a dl ha cN;exact (Pp.ag i s q a (by omega) hs hq ha).dn h1 h2
theorem amN {n E B:Nat}(hn:n<=4):Nm.C ⟨n,E,B⟩<=4*(2*E+6)*(10*E+10*B+70):=by
 have h1:n*Nm.sz ⟨n,E,B⟩<=4*(2*E+6*B+12):=SN hn (bq _);have cB:Nm.st ⟨n,E,B⟩+1<=8*(10*E+10*B+70):=by
  show (2*E+6*B+12)+(3+(2*E+2)+(12+n*Nm.sz ⟨n,E,B⟩+2*(n*4)))+1<=_;omega
 show (E+2)*(Nm.st ⟨n,E,B⟩+1)<=_;have h2:(E+2)*(Nm.st ⟨n,E,B⟩+1)<=(E+2)*(8*(10*E+10*B+70)):=aaz _ cB;have h3:(E+2)*(8*(10*E+10*B+70))=((E+2)*8)*(10*E+10*B+70):=(Nat.mul_assoc ..).symm;have h4:((E+2)*8)*(10*E+10*B+70)<=(4*(2*E+6))*(10*E+10*B+70):=x_ _ (by omega);omega
theorem an3 {n E B Dn:Nat}(hn:n<=4):Dn*Nm.C ⟨n,E,B⟩+1<=4*(Dn*(2*E+6)+1)*(10*E+10*B+70):=by
 have h1:Dn*Nm.C ⟨n,E,B⟩<=Dn*(4*(2*E+6)*(10*E+10*B+70)):=aaz _ (amN hn);have h2:4*(Dn*(2*E+6)+1)*(10*E+10*B+70)=Dn*(4*(2*E+6)*(10*E+10*B+70))+4*(10*E+10*B+70):=by
  generalize 10*E+10*B+70=y;generalize 2*E+6=u;rw [Nat.mul_add 4,mB,ou,Nat.mul_left_comm 4 Dn,Nat.mul_assoc Dn]
 rw [h2];omega
theorem aw1 {y:Int}{b:Pb}(kk:d.Ok)(h:Sep H L)(hm:dP b d∈L)(hy:0<=y/\y<=10000)(hR:∀H',Sep H' L->R (I (4*(y+1)*(10*d.en+10*d.bk+70))) H') :
  CA en F.Uk [.slice (some ⟨b.li,0,none⟩) 3 0,I y] H R:=by
 apply azM;have ken:=kk.en;have kbk:=kk.bk;have w1:IntKind.i64.wrap ((IntKind.i64.wrap ((IntKind.i64.wrap (10*d.en))+(IntKind.i64.wrap (10*d.bk))))+70)=10*d.en+10*d.bk+70:=by
  rw [wrap_i64 (n:=10*d.en) (by omega),wrap_i64 (n:=10*d.bk) (by omega),wrap_i64 (n:=10*d.en+10*d.bk) (by omega),wrap_i64 (by omega)]
 have w2:IntKind.i64.wrap ((IntKind.i64.wrap ((IntKind.i64.wrap (10*2))+(IntKind.i64.wrap (10*0))))+70)=90:=by decide
 refine aym (λk' t5 t6 H'=>((k'=3/\t5=70/\t6=0)∨(t5=10*d.en+10*d.bk+70/\((k'=2/\t6=1)∨(k'=1/\t6=2)∨(k'=0/\t6=3))))/\Sep H' L) 3 ⟨.inl ⟨rfl,rfl,rfl⟩,h⟩ ?_;rintro k' t5 t6 ys H3 ⟨hc,h3⟩;have hB:=h3.ae 17;have hg:(H3.ae 17).get b.li=some (.cells true 5 (flat (BP d))):=hB.all _ hm;rcases hc with ⟨rfl,rfl,rfl⟩|⟨rfl,⟨rfl,rfl⟩|⟨rfl,rfl⟩|⟨rfl,rfl⟩⟩
 ·refine cm rfl ⟨⟨by decide,by decide⟩,bG ⟨_,(cell_of hg 1).trans rfl,⟨by decide,by decide⟩,bG ⟨_,(cell_of hg 3).trans rfl,⟨2,by decide,.inr ⟨?_,.inl ⟨rfl,rfl⟩⟩,hB⟩,trivial⟩⟩⟩;rw [w1,ar (by omega)]
 ·refine cm rfl ⟨⟨by decide,by decide⟩,bG ⟨_,(cell_of hg 6).trans rfl,⟨by decide,by decide⟩,bG ⟨_,(cell_of hg 8).trans rfl,⟨1,by decide,.inr ⟨?_,.inr (.inl ⟨rfl,rfl⟩)⟩,hB⟩,trivial⟩⟩⟩;rw [w2];split<;>omega
 ·refine cm rfl ⟨⟨by decide,by decide⟩,bG ⟨_,(cell_of hg 11).trans rfl,⟨by decide,by decide⟩,bG ⟨_,(cell_of hg 13).trans rfl,⟨0,by decide,.inr ⟨?_,.inr (.inr ⟨rfl,rfl⟩)⟩,hB⟩,trivial⟩⟩⟩;rw [w2];split<;>omega
 ·refine bl rfl (wZ ?_);rw [wrap_i64 (n:=y+1) (by omega),wrap_i64 (n:=4*(y+1)) (by omega)];have hmul:4*(y+1)*(10*d.en+10*d.bk+70)<=40004*1030:=Int.mul_le_mul (by omega) (by omega) (by omega) (by omega);have aDJ:0<=4*(y+1)*(10*d.en+10*d.bk+70):=Int.mul_nonneg (by omega) (by omega);rw [wrap_i64 (by omega)];exact hR H3 h3
abbrev qm (c:Lc)(Ss:List Ag):List ax:=Ss.map λs=>many (s.B c)
theorem ait (h:Sep H L):∀n:Nat,Sep H (many (List.replicate n (many []))::L)
 |0=>Sep.vh h
 |n+1=>by
  refine Sep.fX.2 ?_
  rw [SC]
  exact Sep.vh (Sep.fX.1 (ait h n))
theorem X1:bF b z Ks k a m d D c X T=bF b z Ks k a m d D c X []++T:=rfl
theorem ao9 (hs:Ss[k]? =some s)(h:Sep H (bF b z Ks j a m d D c X (many (qm c Ss)::T))):Sep H (bF b z Ks j a m d D c X (s.B c++(many ((qm c Ss).eraseIdx k)::T))):=by
 have hA:(qm c Ss)[k]? =some (many (s.B c)):=by rw [jg,hs];rfl
 rw [X1] at h;have h1:Sep H (many (qm c Ss)::(bF b z Ks j a m d D c X []++T)):=h.perm pf;have h2:=Sep.fX.1 (Q4 hA h1);rw [X1];refine h2.perm ?_;exact ((pf.symm).append_left (s.B c)).trans (Ir ..)
theorem ao8 (hk:k<Ss.length)(h:Sep H (bF b z Ks j a m d D c X (s'.B c++(many ((qm c Ss).eraseIdx k)::T)))):Sep H (bF b z Ks j a m d D c X (many (qm c (Ss.set k s'))::T)):=by
 rw [X1] at h⊢;have h1:Sep H (s'.B c++(many ((qm c Ss).eraseIdx k)::(bF b z Ks j a m d D c X []++T))):=h.perm ((Ir ..).trans (pf.append_left (s'.B c)));have h2:=aiH (by rw [gb];exact hk) (Sep.fX.2 h1);have e:qm c (Ss.set k s')=(qm c Ss).set k (many (s'.B c)):=zC ..;rw [e];exact h2.perm pf.symm
end
section
variable (H:aa)(R:VH)
set_option maxRecDepth 100000
set_option maxHeartbeats 2000000
noncomputable def Tt:Code:=kE Go.Proofs.Tryz.f8 0
noncomputable def Tu:Code:=kE Go.Proofs.Tryz.f8 1
theorem azQ (kJ:Bool)(kK nJ nK:Int)(nL:Oa)(C1:Nat)(C3:Oa)(C4:Nat) :
  (aC H (.cells true 0 [(bb kJ),(iI kK),(iI nJ),(iI nK),(sl nL C1),(sl C3 C4)]) λi1 H2=>∃a3 i4,H2.cell i1 4=some (sl a3 i4)/\∃a5 i6,H2.cell i1 5=some (sl a5 i6)/\CA en F.Uz [(sl a3 i4),(sl a5 i6)] H2 λv7 H8=>∃b9,v7=(bb b9)/\bif b9 then (CA en F.aeD [] H8 λv10 cj=>∃w6,v10=(bb w6)/\R (bb w6) cj) else (∃pB cO bC dy mf i18 j5 i20,H8.aM i1 0 6=some [(bb pB),(iI cO),(iI bC),(iI dy),(sl mf i18),(sl j5 i20)]/\CA en F.Um [(.agg #[(bb pB),(iI cO),(iI bC),(iI dy),(sl mf i18),(sl j5 i20)])] H8 λAV gg=>∃fT,AV=(pt fT)/\bif fT.isNone then (R (bb false) gg) else (aA fT λi24 i25=>∃mH,gg.cell i24 (i25+1)=some (pt mH)/\CA en F.Mv [(pt mH)] gg λwH bN=>∃gm,wH=(iI gm)/\∃jc i31,bN.cell i1 4=some (sl jc i31)/\LA en Tt [(.agg #[(bb kJ),(iI kK),(iI nJ),(iI nK),(sl nL C1),(sl C3 C4)]),(pt (ad i1)),(bb false),(pt fT),(iI gm),(iI (i31:Int)),(iI 0),(iI 0),ud,ud,ud,(pA i1 4),(sl a3 i4),(pA i1 5),(sl a5 i6),(bb false),ud,(.agg #[(bb pB),(iI cO),(iI bC),(iI dy),(sl mf i18),(sl j5 i20)]),(pt fT),(pt fT),(bb false),(pt fT),(pA i24 i25),(pA i24 (i25+1)),(pt mH),(iI gm),(pA i1 4),(sl jc i31),(iI (i31:Int)),ud,ud,ud,ud,ud,ud,ud,ud,ud,ud,ud,ud,ud,ud,ud,ud,ud,ud,ud,ud,ud,ud,ud,ud,ud,ud,ud,ud,ud,ud,ud,ud,ud,ud,ud,ud,ud,ud,ud,ud,ud,ud,ud,ud,ud,ud,ud,ud,ud,ud,ud,ud,ud,ud,ud,ud,ud,ud,ud,ud,ud,ud,ud,ud,ud,ud,ud,ud,ud,ud] bN [(X.exit 0,λ(rO:Fr)(nO:aa)=>AS.asInt .i64 (rO.getD 6 undef) λgn=>∃iS i36,(nO.ae 23).cell i1 5=some (sl iS i36)/\aA fT λi37 i38=>∃jn i40,(nO.ae 23).cell i37 i38=some (sl jn i40)/\aA fT λi41 i42=>∃mh i44,(nO.ae 23).cell i41 i42=some (sl mh i44)/\az 0 i44/\aV mh λi45 i46=>∃gR,(nO.ae 23).cell i45 (i46+1)=some (iI gR)/\CA en F.Uk [(sl jn i40),(iI (IntKind.i64.wrap (gn*(IntKind.i64.wrap ((IntKind.i64.wrap (2*gR))+6)))))] (nO.ae 23) λAX jl=>∃gS,AX=(iI gS)/\(LA en Tu [(.agg #[(bb kJ),(iI kK),(iI nJ),(iI nK),(sl nL C1),(sl C3 C4)]),(pt (ad i1)),(bb false),(pt fT),(iI gm),(iI (i31:Int)),(iI gn),(gd rO 7),(iI (IntKind.i64.wrap ((i36:Int)+(IntKind.i64.wrap ((i31:Int)*gS))))),(iI 0),ud,(pA i1 4),(sl a3 i4),(pA i1 5),(sl a5 i6),(bb false),ud,(.agg #[(bb pB),(iI cO),(iI bC),(iI dy),(sl mf i18),(sl j5 i20)]),(pt fT),(pt fT),(bb false),(pt fT),(pA i24 i25),(pA i24 (i25+1)),(pt mH),(iI gm),(pA i1 4),(sl jc i31),(iI (i31:Int)),(gd rO 29),(gd rO 30),(gd rO 31),(gd rO 32),(gd rO 33),(gd rO 34),(gd rO 35),(gd rO 36),(gd rO 37),(gd rO 38),(gd rO 39),(gd rO 40),(gd rO 41),(pA i1 5),(sl iS i36),(iI (i36:Int)),(iI (i31:Int)),(pt fT),(pA i37 i38),(pA i37 i38),(sl jn i40),(iI gn),(pt fT),(pA i41 i42),(pA i41 i42),(sl mh i44),(pA i45 i46),(pA i45 (i46+1)),(iI gR),(iI (IntKind.i64.wrap (2*gR))),(iI (IntKind.i64.wrap ((IntKind.i64.wrap (2*gR))+6))),(iI (IntKind.i64.wrap (gn*(IntKind.i64.wrap ((IntKind.i64.wrap (2*gR))+6))))),(iI gS),(iI (IntKind.i64.wrap ((i31:Int)*gS))),(iI (IntKind.i64.wrap ((i36:Int)+(IntKind.i64.wrap ((i31:Int)*gS))))),ud,ud,ud,ud,ud,ud,ud,ud,ud,ud,ud,ud,ud,ud,ud,ud,ud,ud,ud,ud,ud,ud,ud,ud,ud,ud,ud,ud,ud,ud,ud,ud,ud,ud,ud] jl [(X.exit 2,λ(y55:Fr)(lN:aa)=>AS.asBool (y55.getD 2 undef) λF4=>R (bb false) lN),(X.ret,λ(y58:Fr)(oy:aa)=>AS.asBool (y58.getD 2 undef) λuQ=>R (bb uQ) oy)])/\(((i36:Int)=(i36:Int))/\((i36:Int)=(i36:Int))/\True)/\((∃lr i54,(nO.ae 23).cell i1 5=some (sl lr i54)/\(iS=lr/\i36=i54/\0=0))/\(∃px i52,jl.cell i1 5=some (sl px i52)/\(iS=px/\i36=i52/\0=0))/\True)/\True)])))->
  CA en F.Ul [(.agg #[(bb kJ),(iI kK),(iI nJ),(iI nK),(sl nL C1),(sl C3 C4)])] H R:=vz [[(6,(iI 0))],[(2,(bb false))]] (by kernel_rfl)
theorem ayp {t0 t2 t3 t4 t11 t12 t13 t14 t15 t17 t18 t19 t20 t21 t22 t23 t24 t25 t26 t27 t28:Value}{t1:Nat}{t5:Int}{K0:FH}{t6 t7:Int}{t29 t30 t31 t32 t33 t34 t35 t36 t37 t38 t39 t40 t41:Value}{H:aa}(I:Nat->Int->Int->aa->Prop)(n:Nat)(h0:I n t6 t7 H)
  (cY:∀(n:Nat)(t6 t7:Int)(ys:Fr)(H:aa),I n t6 t7 H->
  (bif (decide (t7<t5)) then (∃a1 i2,H.cell t1 4=some (sl a1 i2)/\az t7 i2/\aV a1 λi3 i4=>∃a5 i6,H.cell i3 (i4+(t7.toNat*1))=some (sl a5 i6)/\∃k7,k7<n/\I k7 (IntKind.i64.wrap (t6+(i6:Int))) (IntKind.i64.wrap (t7+1)) H) else (K0 ([t0,(pt (ad t1)),t2,t3,t4,(iI t5),(iI t6),(iI t7),ud,ud,ud,t11,t12,t13,t14,t15,ud,t17,t18,t19,t20,t21,t22,t23,t24,t25,t26,t27,t28,(iI t7),(iI t5),(bb false)]++gs ys 32 10++us 57) H))) :
  LA en Tt [t0,(pt (ad t1)),t2,t3,t4,(iI t5),(iI t6),(iI t7),ud,ud,ud,t11,t12,t13,t14,t15,ud,t17,t18,t19,t20,t21,t22,t23,t24,t25,t26,t27,t28,t29,t30,t31,t32,t33,t34,t35,t36,t37,t38,t39,t40,t41,ud,ud,ud,ud,ud,ud,ud,ud,ud,ud,ud,ud,ud,ud,ud,ud,ud,ud,ud,ud,ud,ud,ud,ud,ud,ud,ud,ud,ud,ud,ud,ud,ud,ud,ud,ud,ud,ud,ud,ud,ud,ud,ud,ud,ud,ud,ud,ud,ud,ud,ud,ud,ud,ud,ud,ud,ud] H [(X.exit 0,K0)]:=by
 refine ko (Z:=[]) (λm xs H'=>AS.asInt .i64 (xs.getD 6 undef) λt6=>AS.asInt .i64 (xs.getD 7 undef) λt7=>I m t6 t7 H') ?_ n H ?_
 ·intro n H
  suffices hs:∀fG eU fH eY eZ fJ fK fL fM fN fO s6 fI eW s7:Value,((AS.asInt .i64 s6 λt6=>AS.asInt .i64 s7 λt7=>I n t6 t7 H)->gr en Tt [] ([t0,(pt (ad t1)),t2,t3,t4,(iI t5),s6,s7,ud,ud,ud,t11,t12,t13,t14,t15,ud,t17,t18,t19,t20,t21,t22,t23,t24,t25,t26,t27,t28,fG,eU,fH,fI,eW,eY,eZ,fJ,fK,fL,fM,fN,fO]++us 57) H (kh (λm xs H'=>AS.asInt .i64 (xs.getD 6 undef) λt6=>AS.asInt .i64 (xs.getD 7 undef) λt7=>I m t6 t7 H') n [(X.exit 0,K0)])) by
   apply bL hs
   kernel_rfl
  intro fG eU fH eY eZ fJ fK fL fM fN fO s6 fI eW s7 hP;replace hP:=gF hP;obtain ⟨t6,rfl,hP⟩:=hP;replace hP:=gF hP;obtain ⟨t7,rfl,hP⟩:=hP;apply bL (cY n t6 t7 ([t0,(pt (ad t1)),t2,t3,t4,(iI t5),(iI t6),(iI t7),ud,ud,ud,t11,t12,t13,t14,t15,ud,t17,t18,t19,t20,t21,t22,t23,t24,t25,t26,t27,t28,fG,eU,fH,fI,eW,eY,eZ,fJ,fK,fL,fM,fN,fO]++us 57) H hP);kernel_rfl
 ·apply bL h0
  kernel_rfl
theorem ayq {t0 t6 t11 t12 t13 t14 t15 t17 t18 t19 t20 t21 t22 t23 t24 t25 t26 t27 t28 t42 t43 t44 t45 t46 t47 t48 t49 t50 t51 t52 t53 t54 t55 t56 t57 t58 t59 t60 t61 t62 t63:Value}{t1:Nat}{t3:Oa}{t4 t5:Int}{t7:Value}{t8:Int}{t29 t30 t31 t32 t33 t34 t35 t36 t37 t38 t39 t40 t41:Value}{K0 K1:FH}{t2:Bool}{t9:Int}{t10 t64 t65 t66 t67 t68 t69 t70 t71 t72 t73 t74 t75 t76 t77 t78 t79 t80 t81 t82 t83 t84 t85 t86 t87 t88 t89 t90 t91 t92 t93 t94 t95 t96 t97 t98:Value}{H:aa}(I:Nat->Bool->Int->aa->Prop)(n:Nat)(h0:I n t2 t9 H)
  (cY:∀(n:Nat)(t2:Bool)(t9:Int)(ys:Fr)(H:aa),I n t2 t9 H->
  (bif (decide (t9<=t8)) then (∃a1 i2,H.cell t1 5=some (sl a1 i2)/\CA en F.UD [(sl a1 i2),(iI t9),(iI t5)] H λv3 H4=>∃n5,v3=(iI n5)/\∃a6 i7,H4.cell t1 4=some (sl a6 i7)/\az n5 i7/\aV a6 λi8 i9=>∃gx i11,H4.cell i8 (i9+(n5.toNat*1))=some (sl gx i11)/\CA en F.Ox [(pt t3),(iI n5),(sl gx i11)] H4 λrN cE=>∃uM,rN=(bb uM)/\bif (!uM) then (K1 ([t0,(pt (ad t1)),(bb false),(pt t3),(iI t4),(iI t5),t6,t7,(iI t8),(iI t9),(iI n5),t11,t12,t13,t14,t15,ud,t17,t18,t19,t20,t21,t22,t23,t24,t25,t26,t27,t28,t29,t30,t31,t32,t33,t34,t35,t36,t37,t38,t39,t40,t41,t42,t43,t44,t45,t46,t47,t48,t49,t50,t51,t52,t53,t54,t55,t56,t57,t58,t59,t60,t61,t62,t63,(iI t9),(iI t8),(bb true),(gd ys 67),(gd ys 68),(pA t1 5),(sl a1 i2),(iI t9),(iI t5),(iI n5),(pt t3),(iI n5),(pA t1 4),(sl a6 i7),(iI n5),(pA i8 (i9+(n5.toNat*1))),(sl gx i11),(bb uM),(bb true)]++gs ys 83 16) cE) else (∃dX i16,cE.cell t1 5=some (sl dX i16)/\bif (decide (t9≥(i16:Int))) then (∃q8 aY fi cU fR i22 fT i24,cE.aM t1 0 6=some [(bb q8),(iI aY),(iI fi),(iI cU),(sl fR i22),(sl fT i24)]/\CA en F.Uo [(pt t3),(.agg #[(bb q8),(iI aY),(iI fi),(iI cU),(sl fR i22),(sl fT i24)])] cE λvy eC=>∃se,vy=(bb se)/\bif se then (CA en F.Un [(pt t3),(iI t4)] eC λvB fq=>∃m_,vB=(bb m_)/\bif m_ then (CA en F.aeD [] fq λwI bU=>∃uP,wI=(bb uP)/\K1 [t0,(pt (ad t1)),(bb uP),(pt t3),(iI t4),(iI t5),t6,t7,(iI t8),(iI t9),(iI n5),t11,t12,t13,t14,t15,ud,t17,t18,t19,t20,t21,t22,t23,t24,t25,t26,t27,t28,t29,t30,t31,t32,t33,t34,t35,t36,t37,t38,t39,t40,t41,t42,t43,t44,t45,t46,t47,t48,t49,t50,t51,t52,t53,t54,t55,t56,t57,t58,t59,t60,t61,t62,t63,(iI t9),(iI t8),(bb true),(gd ys 67),(gd ys 68),(pA t1 5),(sl a1 i2),(iI t9),(iI t5),(iI n5),(pt t3),(iI n5),(pA t1 4),(sl a6 i7),(iI n5),(pA i8 (i9+(n5.toNat*1))),(sl gx i11),(bb uM),(bb false),(iI t9),(pA t1 5),(sl dX i16),(iI (i16:Int)),(bb (decide (t9≥(i16:Int)))),(bb true),(pt t3),(.agg #[(bb q8),(iI aY),(iI fi),(iI cU),(sl fR i22),(sl fT i24)]),(bb se),(bb true),(pt t3),(iI t4),(bb m_),(bb true),(bb uP),(bb uP)] bU) else (K1 [t0,(pt (ad t1)),(bb false),(pt t3),(iI t4),(iI t5),t6,t7,(iI t8),(iI t9),(iI n5),t11,t12,t13,t14,t15,ud,t17,t18,t19,t20,t21,t22,t23,t24,t25,t26,t27,t28,t29,t30,t31,t32,t33,t34,t35,t36,t37,t38,t39,t40,t41,t42,t43,t44,t45,t46,t47,t48,t49,t50,t51,t52,t53,t54,t55,t56,t57,t58,t59,t60,t61,t62,t63,(iI t9),(iI t8),(bb true),(gd ys 67),(gd ys 68),(pA t1 5),(sl a1 i2),(iI t9),(iI t5),(iI n5),(pt t3),(iI n5),(pA t1 4),(sl a6 i7),(iI n5),(pA i8 (i9+(n5.toNat*1))),(sl gx i11),(bb uM),(bb false),(iI t9),(pA t1 5),(sl dX i16),(iI (i16:Int)),(bb (decide (t9≥(i16:Int)))),(bb true),(pt t3),(.agg #[(bb q8),(iI aY),(iI fi),(iI cU),(sl fR i22),(sl fT i24)]),(bb se),(bb true),(pt t3),(iI t4),(bb m_),(bb false),ud,(bb false)] fq)) else (∃k34,k34<n/\I k34 t2 (IntKind.i64.wrap (t9+1)) eC)) else (∃KR,KR<n/\I KR t2 (IntKind.i64.wrap (t9+1)) cE))) else (K0 ([t0,(pt (ad t1)),(bb t2),(pt t3),(iI t4),(iI t5),t6,t7,(iI t8),(iI t9),(gd ys 10),t11,t12,t13,t14,t15,ud,t17,t18,t19,t20,t21,t22,t23,t24,t25,t26,t27,t28,t29,t30,t31,t32,t33,t34,t35,t36,t37,t38,t39,t40,t41,t42,t43,t44,t45,t46,t47,t48,t49,t50,t51,t52,t53,t54,t55,t56,t57,t58,t59,t60,t61,t62,t63,(iI t9),(iI t8),(bb false)]++gs ys 67 32) H))) :
  LA en Tu [t0,(pt (ad t1)),(bb t2),(pt t3),(iI t4),(iI t5),t6,t7,(iI t8),(iI t9),t10,t11,t12,t13,t14,t15,ud,t17,t18,t19,t20,t21,t22,t23,t24,t25,t26,t27,t28,t29,t30,t31,t32,t33,t34,t35,t36,t37,t38,t39,t40,t41,t42,t43,t44,t45,t46,t47,t48,t49,t50,t51,t52,t53,t54,t55,t56,t57,t58,t59,t60,t61,t62,t63,t64,t65,t66,t67,t68,t69,t70,t71,t72,t73,t74,t75,t76,t77,t78,t79,t80,t81,t82,t83,t84,t85,t86,t87,t88,t89,t90,t91,t92,t93,t94,t95,t96,t97,t98] H [(X.exit 2,K0),(X.ret,K1)]:=by
 refine ko (Z:=[]) (λm xs H'=>AS.asBool (xs.getD 2 undef) λt2=>AS.asInt .i64 (xs.getD 9 undef) λt9=>I m t2 t9 H') ?_ n H ?_
 ·intro n H
  suffices hs:∀sT sU ET EW EX EY EZ E0 dR YL YM YN YO YP YQ YR YT YU s2 YV YW YX YY YZ Y0 Y1 Y2 Y3 Y4 Y5 Y6 Y7 Y8 Y9 Y_ EU EV s9:Value,((AS.asBool s2 λt2=>AS.asInt .i64 s9 λt9=>I n t2 t9 H)->gr en Tu [] [t0,(pt (ad t1)),s2,(pt t3),(iI t4),(iI t5),t6,t7,(iI t8),s9,dR,t11,t12,t13,t14,t15,ud,t17,t18,t19,t20,t21,t22,t23,t24,t25,t26,t27,t28,t29,t30,t31,t32,t33,t34,t35,t36,t37,t38,t39,t40,t41,t42,t43,t44,t45,t46,t47,t48,t49,t50,t51,t52,t53,t54,t55,t56,t57,t58,t59,t60,t61,t62,t63,sT,sU,ET,EU,EV,EW,EX,EY,EZ,E0,YL,YM,YN,YO,YP,YQ,YR,YT,YU,YV,YW,YX,YY,YZ,Y0,Y1,Y2,Y3,Y4,Y5,Y6,Y7,Y8,Y9,Y_] H (kh (λm xs H'=>AS.asBool (xs.getD 2 undef) λt2=>AS.asInt .i64 (xs.getD 9 undef) λt9=>I m t2 t9 H') n [(X.exit 2,K0),(X.ret,K1)])) by
   apply bL hs
   kernel_rfl
  intro sT sU ET EW EX EY EZ E0 dR YL YM YN YO YP YQ YR YT YU s2 YV YW YX YY YZ Y0 Y1 Y2 Y3 Y4 Y5 Y6 Y7 Y8 Y9 Y_ EU EV s9 hP;replace hP:=uJ hP;obtain ⟨t2,rfl,hP⟩:=hP;replace hP:=gF hP;obtain ⟨t9,rfl,hP⟩:=hP;apply bL (cY n t2 t9 [t0,(pt (ad t1)),(bb t2),(pt t3),(iI t4),(iI t5),t6,t7,(iI t8),(iI t9),dR,t11,t12,t13,t14,t15,ud,t17,t18,t19,t20,t21,t22,t23,t24,t25,t26,t27,t28,t29,t30,t31,t32,t33,t34,t35,t36,t37,t38,t39,t40,t41,t42,t43,t44,t45,t46,t47,t48,t49,t50,t51,t52,t53,t54,t55,t56,t57,t58,t59,t60,t61,t62,t63,sT,sU,ET,EU,EV,EW,EX,EY,EZ,E0,YL,YM,YN,YO,YP,YQ,YR,YT,YU,YV,YW,YX,YY,YZ,Y0,Y1,Y2,Y3,Y4,Y5,Y6,Y7,Y8,Y9,Y_] H hP);kernel_rfl
 ·apply bL h0
  kernel_rfl
end
section
variable {H H' H0:aa} {L T:List ax} {n:Nat}
def SW (H0 H1:aa):Prop:=∀i,i<H0.next->i<H1.next/\H1.get i=H0.get i
theorem arp (H0:aa)(o:AS.Obj):SW H0 (H0.new o):=λi h=>⟨by rw [iN];omega,by rw [tJ,an (by omega)]⟩
theorem oE.Gj {H1:aa}{a:Option Addr}{n:Nat}{css:List (List Value)}(e:SW H0 H1)(o:oE H0 a n css):oE H1 a n css:=
 ⟨o.1,o.2.imp_right λ⟨i,h1,h2,h3⟩=>⟨i,h1,(e i h2).1,by rw [(e i h2).2];exact h3⟩⟩
theorem zD.Gj {H1:aa}{a:Option Addr}{n:Nat}{ll:List (List du)}(e:SW H0 H1)(o:zD H0 a n ll):zD H1 a n ll:=by
 have⟨css,h1,h2,h3⟩:=o.ex;refine ⟨o.len,css,oE.Gj e h1,h2,λk l hk=>?_⟩;obtain ⟨c,h4,a',n',rfl,h5⟩:=h3 k l hk;have⟨aqy,h6,h7,h8⟩:=h5.ex;refine ⟨_,h4,a',n',rfl,h5.len,aqy,oE.Gj e h6,h7,λj x hx=>?_⟩;obtain ⟨c,h9,a2,n2,rfl,eI⟩:=h8 j x hx;exact ⟨_,h9,a2,n2,rfl,oE.Gj e eI⟩
structure aa9 (H1:aa)(b:Pb)(m:My)(c:Lc)(cap:Int)(d:Dk)(ll:List (List du))(n F tn:Nat)(aP:Nat)(H:aa):Prop where
 ex:∃au A X rs ks M es hl D z Ks Ss f k a,gJ H1 ⟨n,d.en.toNat,d.bk.toNat⟩ c cap d ll au A X.G rs ks M es hl D z Ks Ss n/\Lk c d M/\au<=1+3*aP/\lP b m c Ks/\Ks[k]? =some a/\
  AS.Sep H (bF b z Ks k a m d D c X (many (qm c Ss)::[old H1]))/\DC ⟨n,d.en.toNat,d.bk.toNat⟩ A rs Ks ll aP f/\f<n/\f<=aP - tn/\
  wF ⟨n,d.en.toNat,d.bk.toNat⟩ ks Ks Ss ll<=F/\wF ⟨n,d.en.toNat,d.bk.toNat⟩ ks Ks Ss ll*n+(aP - tn)<=F*n+f
set_option maxHeartbeats 8000000 in
theorem anQ {t:Bool}{dg iG rK:Int}{la ta:Option Addr}{n tn:Nat}{ll:List (List du)}{ts:List Int}(o0:zD H0 la n ll)(hp0:oE H0 ta tn (ts.map λv=>[I v])) :
  CA en F.Ul [.agg #[.bool t,I dg,I iG,I rK,.slice la n 0,.slice ta tn 0]] H0 λv _=>v=.bool true:=by
 apply azQ;refine Sep.av3 (Sep.start H0) λh2=>?_
 have ex:=arp H0 (.cells true 0 [.bool t,I dg,I iG,I rK,.slice la n 0,.slice ta tn 0]);have o:=o0.Gj ex;have hp:=oE.Gj ex hp0;have g1:(H0.new (.cells true 0 [.bool t,I dg,I iG,I rK,.slice la n 0,.slice ta tn 0])).get H0.next=some (.cells true 0 [.bool t,I dg,I iG,I rK,.slice la n 0,.slice ta tn 0]):=Sep.gL h2;have n1:H0.next<(H0.new (.cells true 0 [.bool t,I dg,I iG,I rK,.slice la n 0,.slice ta tn 0])).next:=by rw [iN];omega
 generalize (H0.new (.cells true 0 [.bool t,I dg,I iG,I rK,.slice la n 0,.slice ta tn 0]))=H1 at *;generalize H0.next=i1 at *;have hs:=Sep.start H1;clear h2 ex o0 hp0;have rd:∀{H':aa}{L:List ax},Sep H' L->old H1∈L->H'.get i1=some (.cells true 0 [.bool t,I dg,I iG,I rK,.slice la n 0,.slice ta tn 0]):=λh hm=>aj8 h hm n1 g1
 have tS:=o.len;refine ⟨_,_,(cell_of g1 4).trans rfl,_,_,(cell_of g1 5).trans rfl,arZ hs (by simp) o (λH8 h8=>⟨_,rfl,cm rfl (aaM (by kernel_rfl) ⟨_,rfl,rfl⟩)⟩) λhn htn PZ H8 h8=>⟨_,rfl,bl rfl ?_⟩⟩;have kk:=aeM (t:=t) (e:=dg) (b:=iG);have GR:=(UI (t:=t) (e:=dg) (b:=iG)).1;refine ⟨_,_,_,_,_,_,_,_,(nT (rd h8 (by simp)) (o:=0) (n:=6)).trans rfl,apT (ll:=ll) h8 hn tS λjZ b m c cap A0 X0 Zn I0 JT age Wb rz hc3 agw agf agG mJ=>⟨_,rfl,bl rfl ?_⟩⟩;generalize tN:mm t dg iG=d at *;have ken:=kk.en;have kbk:=kk.bk;have⟨P0,L0⟩:=awx (H0:=H1) (ll:=ll) I0 kk JT age Wb rz hc3 hn agw agf tS.symm;have qB:∀{l:List du}{i:Nat},ll[i]? =some l->l.length<=12/\∀x∈l,x.o.val.length<=8:=λh=>PZ _ (dF h)
 have B5:AS.Sep jZ (aR c.g c.m X0::dm b xO::cV xO::cW xO::dx b (List.replicate n mR) 0 mR::dP b d::cZ m d D0 (xA c::[old H1])):=Sep.pick mJ 15 [14,0,1,2,3,4,5,6,7,8,9,10,11,12,13];refine af ⟨_,Sep.aG mJ rfl,?_⟩;rw [Zn.sm];refine aib (qu B5) ⟨_,rfl,_,_,(cell_of (rd mJ (by simp)) 4).trans rfl,?_⟩;rw [agG];refine ayp (λk' t6 t7 H'=>∃j:Nat,j<=n/\k'=n - j/\t7=(j:Int)/\t6=((gA (yU ll) j:Nat):Int)/\gA (yU ll) j<=12*j/\H'=jZ) n ⟨0,h_ _,rfl,rfl,rfl,h_ _,rfl⟩ ?_;rintro k' t6 t7 ys H' ⟨j,hj,rfl,rfl,rfl,hle,rfl⟩;refine aI (λzz=>?_) λzz=>?_
 ·have zz:j<n:=by have:=ga zz;omega
  have⟨dl,cN⟩:∃dl,ll[j]? =some dl:=⟨_,cM (by omega)⟩;obtain ⟨i,a',n',rfl,e1,o'⟩:=o.aP mJ (by simp) cN;have Ah:=o'.len;have hlen:=ah_ cN;have fA:=(qB cN).1;have agY:gA (yU ll) (j+1)=gA (yU ll) j+dl.length:=by
   show _+yU ll j=_;rw [hlen]
  refine ⟨_,_,(cell_of (rd mJ (by simp)) 4).trans rfl,⟨by omega,by omega⟩,bG ⟨_,_,by rw [dr];exact e1,n - (j+1),by omega,j+1,by omega,rfl,by rw [wrap_i64 (by omega)];omega,?_,by rw [agY];omega,rfl⟩⟩;rw [agY,wrap_i64 (by omega)];omega
 have zz:j=n:=by have:=fQ zz;omega
 subst zz;generalize hD:gA (yU ll) j=Dn at *;refine wZ ?_;have hB:=mJ.ae 23;have cli:(H'.ae 23).cell b.li 1=some (I d.en):=by
  have hg:(H'.ae 23).get b.li=some (.cells true 5 (flat (BP d))):=hB.all (dP b d) (by simp);exact (cell_of hg 1).trans rfl
 refine ⟨_,_,(cell_of (rd hB (by simp)) 5).trans rfl,af ⟨_,_,Sep.aG hB rfl,af ⟨_,_,Sep.aG hB rfl,⟨by decide,by decide⟩,bG ⟨_,cli,?_⟩⟩⟩⟩;have hDE:(Dn:Int)*(2*d.en+6)<=48*134:=Int.mul_le_mul (by omega) (by omega) (by omega) (by omega);have aDq:0<=(Dn:Int)*(2*d.en+6):=Int.mul_nonneg (by omega) (by omega);rw [wrap_i64 (n:=2*d.en) (by omega),wrap_i64 (n:=2*d.en+6) (by omega),wrap_i64 (n:=(Dn:Int)*(2*d.en+6)) (by omega)];refine aw1 kk hB (by simp) (by omega) λjk vU=>⟨_,rfl,?_,⟨rfl,rfl,trivial⟩,⟨⟨_,_,(cell_of (rd hB (by simp)) 5).trans rfl,rfl,rfl,rfl⟩,⟨_,_,(cell_of (rd vU (by simp)) 5).trans rfl,rfl,rfl,rfl⟩,trivial⟩,trivial⟩
 clear hB mJ B5 cli;have⟨E,hE⟩:∃E:Nat,d.en=(E:Int):=⟨d.en.toNat,by omega⟩;have⟨B,hBe⟩:∃B:Nat,d.bk=(B:Int):=⟨d.bk.toNat,by omega⟩;have hEn:d.en.toNat=E:=by omega
 have hBn:d.bk.toNat=B:=by omega
 have⟨Q,hQ⟩:∃Q:Nat,Q=4*(Dn*(2*E+6)+1)*(10*E+10*B+70):=⟨_,rfl⟩;have hQi:4*((Dn:Int)*(2*d.en+6)+1)*(10*d.en+10*d.bk+70)=(Q:Int):=by
  rw [hQ,hE,hBe];simp
 have hQ3:Q<=26503960:=by
  rw [hQ];have h1:Dn*(2*E+6)<=48*134:=SN (by omega) (by omega);have h2:4*(Dn*(2*E+6)+1)<=25732:=by omega
  have h3:10*E+10*B+70<=1030:=by omega
  exact wK (SN h2 h3) (by decide)
 rw [hQi]
 let NN:Nm:=⟨j,d.en.toNat,d.bk.toNat⟩
 have⟨F,hF⟩:∃F,F=wF NN (λ_=>0) (List.replicate j mR) (List.replicate j .idle) ll:=⟨_,rfl⟩;have hFQ:F+1<=Q:=by
  rw [hF,aya,hQ]
  have:=an3 (n:=j) (E:=E) (B:=B) (Dn:=Dn) hn.2
  rw [<-hD] at this⊢;rw [<-hEn,<-hBn] at this⊢;exact this
 have hjQ:F*j+j<=j*Q:=by
  have:j*(F+1)<=j*Q:=aaz _ hFQ
  rw [Nat.mul_add,Nat.mul_comm j F] at this;omega
 have aDz:j*Q<=4*26503960:=SN hn.2 hQ3;have aq7:IntKind.i64.wrap ((tn:Int)+IntKind.i64.wrap ((j:Int)*(Q:Int)))=((tn+j*Q:Nat):Int):=by
  rw [<-Int.natCast_mul];generalize j*Q=z at *;rw [wrap_i64 (n:=(z:Int)) (by omega),wrap_i64 (by omega)];omega
 rw [aq7];have afS:AS.Sep jk (bF b xO (List.replicate j mR) 0 mR m d D0 c X0 (many (qm c (List.replicate j .idle))::[old H1])):=by
  have h1:=ait vU j;have e:qm c (List.replicate j Ag.idle)=List.replicate j (many []):=List.map_replicate;rw [e];exact Sep.pick h1 16 [1,2,3,4,5,6,7,8,9,10,11,12,13,14,15,0]
 refine ayq (λk' t2 t9 H'=>∃aP:Nat,k'=tn+F*j+j - aP/\t9=(aP:Int)/\aa9 H1 b m c cap d ll j F tn aP H') (tn+F*j+j)
  ⟨0,rfl,rfl,⟨1,A0,X0,_,_,_,_,_,_,_,_,_,0,0,mR,P0,L0,by omega,Zn,by rw [Nw,ar (by omega)],afS,Zw,by omega,h_ _,by rw [hF];exact bq _,by rw [<-hF];omega⟩⟩ ?_
 clear afS vU P0 L0 I0 JT age agw agf agG Zn;rintro k' t2 t9 ys2 H3 ⟨aP,rfl,rfl,⟨au,A,X,rs,ks,M,es,hl,D,z,Ks,Ss,f,k0,a0,Pp,Lq,ke,sm,atk,h3,st,hf,hft,hF1,Gz⟩⟩;have aDs:aP<tn+F*j+j:=by omega
 have GL:old H1∈bF b z Ks k0 a0 m d D c X (many (qm c Ss)::[old H1]):=by simp
 refine cm (by rw [Df];omega) ⟨_,_,(cell_of (rd h3 GL) 5).trans rfl,?_⟩;refine ayc h3 GL hp hn λbb hb P3=>⟨_,rfl,_,_,(cell_of (rd h3 GL) 4).trans rfl,⟨by omega,by omega⟩,?_⟩
 have⟨dl,cN⟩:∃dl,ll[bb]? =some dl:=⟨_,cM (by omega)⟩;have⟨i2,a',n',e0,e1,o'⟩:=o.aP h3 GL cN;subst e0;refine bG ⟨_,_,by rw [dr];exact e1,?_⟩;have⟨q,hq⟩:∃q,rs[bb]? =some q:=⟨_,cM (by have:=Pp.w.nn;have:j=rs.length:=this;omega)⟩;have⟨a,ha⟩:∃a,Ks[bb]? =some a:=⟨_,cM (by have:=Pp.lk;have:Ks.length=j:=this;omega)⟩;have⟨s,yR⟩:∃s,Ss[bb]? =some s:=⟨_,cM (by have:=Pp.ls;have:Ss.length=j:=this;omega)⟩;have xn:=(bJ.1 yR).1;rw [akm atk ha] at h3;have h4:=ao9 yR h3;refine apB (N:=NN) (T:=many ((qm c Ss).eraseIdx bb)::[old H1]) Pp sm kk GR Lq (by omega) hb hq ha yR cN (by simp) o' (qB cN).1 (qB cN).2 h4 ?_;clear h4 h3;intro H' tG A' X' q' ks' M' es' ct D' z' a' s' aDv P' Ex ED h5;refine ⟨_,rfl,bl rfl ?_⟩;have h6:AS.Sep H' (bF b z' (Ks.set bb a') bb a' m d D' c X' (many (qm c (Ss.set bb s'))::[old H1])):=by
  rw [Ri];exact ao8 xn h5
 have ha6:(Ks.set bb a')[bb]? =some a':=by rw [mD,ar rfl,ar (bJ.1 ha).1]
 have L6:Lk c d M':=⟨Lq.kd,Lq.en,Lq.bk,Lq.k2,by rw [Ex];exact P'.w.mem.lH.1.symm⟩;have Zo:lP b m c (Ks.set bb a'):=sm.set;have hm6:old H1∈bF b z' (Ks.set bb a') bb a' m d D' c X' (many (qm c (Ss.set bb s'))::[old H1]):=by simp
 have GU:=ayb (N:=NN) hb yR ha cN ED;have ew:IntKind.i64.wrap ((aP:Int)+1)=((aP+1:Nat):Int):=by rw [wrap_i64 (by omega)];omega
 clear h5;have⟨F1,VM⟩:∃F1,F1=wF NN ks Ks Ss ll:=⟨_,rfl⟩;have⟨F2,VN⟩:∃F2,F2=wF NN ks' (Ks.set bb a') (Ss.set bb s') ll:=⟨_,rfl⟩;have hF1:F1<=F:=by rw [VM];exact hF1
 have Gz:F1*j+(aP - tn)<=F*j+f:=by rw [VM];exact Gz
 rw [<-VM,<-VN] at GU;have next:∀(H7:aa)(f':Nat),AS.Sep H7 (bF b z' (Ks.set bb a') bb a' m d D' c X' (many (qm c (Ss.set bb s'))::[old H1]))->DC NN A' (rs.set bb q') (Ks.set bb a') ll (aP+1) f'->f'<j->f'<=aP+1 - tn->F2<=F->F2*j+(aP+1 - tn)<=F*j+f'->
   ∃k',k'<tn+F*j+j - aP/\∃T9:Nat,k'=tn+F*j+j - T9/\IntKind.i64.wrap ((aP:Int)+1)=(T9:Int)/\aa9 H1 b m c cap d ll j F tn T9 H7:=λH7 f' h7 Mz u1 u2 u3 u4=>by
  refine ⟨tn+F*j+j - (aP+1),by omega,aP+1,rfl,ew,⟨tG,A',X',_,ks',M',es',ct,D',z',_,_,f',bb,a',P',L6,by omega,Zo,ha6,h7,Mz,u1,u2,by rw [<-VN];exact u3,by rw [<-VN];exact u4⟩⟩
 refine ⟨_,_,(cell_of (rd h6 hm6) 5).trans rfl,aI (λzz=>?_) λzz=>?_⟩
 ·have zz:tn<=aP:=by have:=ga zz;omega
  have uW:=P3 zz;have Qf:j=(Ks.set bb a').length:=by rw [gT];exact Pp.lk.symm
  refine ⟨_,_,_,_,_,_,_,_,(nT (rd h6 hm6) (o:=0) (n:=6)).trans rfl,awq Zo ha6 o (by simp) Qf hn.2 h6 (λGQ cR ij=>⟨_,rfl,cm rfl ?_⟩) λGQ cR ij=>⟨_,rfl,bl rfl ?_⟩⟩
  ·have O:=aqR P' GQ;have R9:=P'.w.rest P'.nh O;refine arK Zo (k:=bb) (by rw [<-Qf];exact hb) (by rw [<-Qf];exact hn.2) (R9.mem.lv rfl (n:=(Ks.set bb a').length) λx hx=>by rw [<-Qf];exact P'.ins.2 x hx) ?_ P'.gN.le ij λfq X9 rm=>⟨_,rfl,cm rfl (aaM (by kernel_rfl) ⟨_,rfl,uK rfl⟩)⟩
   rw [P'.mo.cx,R9.ls,gb];rfl
  ·rcases GU with GU|⟨e1,e2,e3,e4,e5,e6,e7,e8,e9⟩
   ·have h9:(F2+1)*j<=F1*j:=x_ _ GU;rw [mB,Ba] at h9;exact next cR 0 ij Zw (by omega) (h_ _) (by omega) (by omega)
   ·have asA:bb=aP % NN.n:=uW;have Mz:DC NN A' (rs.set bb q') (Ks.set bb a') ll (aP+1) (f+1):=by
     subst asA;exact axT st hq ha cN e2 e3 e4 e5 e6 e7 e8 e9
    have aE:f+1<j:=by
     refine rT λhc=>GQ (axS P' (by show 0<j;omega) Mz (by show j<=_;omega))
    exact next cR (f+1) ij Mz aE (by omega) (by omega) (by rw [e1];omega)
 ·have zz:aP<tn:=by have:=fQ zz;omega
  have h9:F2<=F1:=by
   rcases GU with GU|⟨e1,_⟩<;>omega
  have eI:F2*j<=F*j:=x_ _ (by omega);exact next H' 0 h6 Zw (by omega) (h_ _) (by omega) (by omega)
def DA (H0:aa)(P:List Value->Prop)(c:List Value):Prop:=
 c=[.slice none 0 0]∨∃(i:Nat)(cs:List (List Value)),c=[.slice (some ⟨i,0,none⟩) cs.length 0]/\i<H0.next/\H0.get i=some (AS.Obj.cells false 0 cs.flatten)/\∀d∈cs,P d
theorem DA.of {P:List Value->Prop}{c:List Value}(h:DA H0 P c):∃a n css,c=[.slice a n 0]/\oE H0 a n css/\∀d∈css,P d:=by
 rcases h with rfl|⟨i,cs,rfl,h1,h2,h3⟩
 ·exact ⟨none,0,[],rfl,⟨rfl,.inl ⟨rfl,rfl⟩⟩,by simp⟩
 ·exact ⟨_,_,cs,rfl,⟨rfl,.inr ⟨i,rfl,h1,h2⟩⟩,h3⟩
def TS (H0:aa)(c:List Value):Prop:=
 ∃(de uO:List Value),c=de++uO/\(∃n:Int,de=[.int .i64 n]/\(Lit.int .i64 n).wf=true)/\(∃(qh sb:List Value),uO=qh++sb/\(∃n:Int,qh=[.int .u64 n]/\(Lit.int .u64 n).wf=true)/\(∃(fS Jd:List Value),sb=fS++Jd/\DA H0 (λd=>∃n:Int,d=[.int .u64 n]/\(Lit.int .u64 n).wf=true) fS/\(∃(fu q_:List Value),Jd=fu++q_/\(∃n:Int,fu=[.int .i64 n]/\(Lit.int .i64 n).wf=true)/\(∃(jb Od:List Value),q_=jb++Od/\(∃n:Int,jb=[.int .i64 n]/\(Lit.int .i64 n).wf=true)/\Od=[]))))
theorem TS.of {c:List Value}(h:TS H0 c):∃o:Op,OpC H0 o c:=by
 obtain ⟨_,_,rfl,⟨k,rfl,_⟩,_,_,rfl,⟨key,rfl,hk⟩,_,_,rfl,hv,_,_,rfl,⟨f,rfl,_⟩,_,_,rfl,⟨cp,rfl,_⟩,rfl⟩:=h;obtain ⟨a,n,css,rfl,ho,hc⟩:=hv.of;obtain ⟨l,rfl⟩:=amd css hc;obtain ⟨w,rfl⟩:=Z2 hk;exact ⟨⟨k,w,l,f,cp⟩,a,n,rfl,ho⟩
def NB (H0:aa)(c:List Value):Prop:=
 ∃(cI uN:List Value),c=cI++uN/\(∃n:Int,cI=[.int .i64 n]/\(Lit.int .i64 n).wf=true)/\(∃(jR q8:List Value),uN=jR++q8/\TS H0 jR/\(∃(gD m_:List Value),q8=gD++m_/\(∃n:Int,gD=[.int .u64 n]/\(Lit.int .u64 n).wf=true)/\m_=[]))
theorem NB.of {c:List Value}(h:NB H0 c):∃d:du,NA H0 d c:=by
 obtain ⟨_,_,rfl,⟨k,rfl,_⟩,_,_,rfl,ho,_,_,rfl,⟨v,rfl,hv⟩,rfl⟩:=h;obtain ⟨o,a,n,rfl,tU⟩:=ho.of;obtain ⟨w,rfl⟩:=Z2 hv;exact ⟨⟨k,o,w⟩,a,n,rfl,tU⟩
theorem aqG {o:du}{c:List Value}(h:NA H0 o c):c.length=7:=by obtain ⟨a,n,rfl,_⟩:=h;rfl
theorem aeL {c:List Value}(h:DA H0 (NB H0) c):∃l:List du,SU H0 l c:=by
 obtain ⟨a,n,css,rfl,ho,hc⟩:=h.of;have⟨l,h1,h2⟩:=XZ (P:=λ(o:du) c=>NA H0 o c) css λc hm=>(hc c hm).of
 refine ⟨l,a,n,rfl,by rw [h1];exact ho.len,css,ho,λc hm=>?_,h2⟩;have⟨o,h3⟩:=(hc c hm).of;exact aqG h3
theorem aqH {c:List Value}(h:DA H0 (DA H0 (NB H0)) c):∃(ll:List (List du))(a:Option Addr)(n:Nat),c=[.slice a n 0]/\zD H0 a n ll:=by
 obtain ⟨a,n,css,rfl,ho,hc⟩:=h.of;have⟨ll,h1,h2⟩:=XZ (P:=λ(l:List du) c=>SU H0 l c) css λc hm=>aeL (hc c hm)
 refine ⟨ll,a,n,rfl,by rw [h1];exact ho.len,css,ho,λc hm=>?_,h2⟩;obtain ⟨l,a,n,rfl,_⟩:=aeL (hc c hm);rfl
theorem anP (H:aa)(us:List Value)(h:Mt en H 7 Go.Proofs.YtjggeoghlicmdaaGreat.T.aaZ us):CA en F.Ul us H λv _=>v=.bool true:=by
 obtain ⟨_,_,rfl,⟨l3,rfl,_,_,rfl,⟨b1,rfl⟩,_,_,rfl,⟨n2,rfl,_⟩,_,_,rfl,⟨n3,rfl,_⟩,_,_,rfl,⟨n4,rfl,_⟩,gx,_,rfl,hA,fz,_,rfl,hB,rfl⟩,rfl⟩:=apm h;obtain ⟨ll,la,n,rfl,o⟩:=aqH (H0:=H) hA;obtain ⟨pa,pn,css,rfl,hp,hc⟩:=DA.of (H0:=H) (P:=λc=>∃n:Int,c=[.int .i64 n]/\(Lit.int .i64 n).wf=true) hB;obtain ⟨l,rfl⟩:=aj0 css hc;exact anQ o hp
end
end Go.Proofs.YtjggeoghlicmdaaGreat
namespace Go.Proofs.YtjggeoghlicmdaaGreat.hashAgrees
open Go.AS Go.ChangeShapes Go.WideShapes Go.ChangeAt Go.RowKit
section
theorem own:ownKnob Tryz.prog.godebug=none:=by kernel_rfl
theorem laid:laidOutB Tryz.prog=true:=by kernel_rfl
set_option maxRecDepth 100000 in
theorem lifted (os:Os)(started:os.Started)(H:Type)(enc:TypeId×Value->H) :
  ReturnsInHanded {} Tryz.checked os 8 .any (Rows.hashAgreesSpec.pre6 enc Tryz.prog Tryz.f8 Rows.hashAgreesRow.domain false) (Rows.hashAgreesSpec.post enc Tryz.prog Tryz.f8 false true false false):=by
 refine returnsInHanded_of_change (C:=Tryz.checked) own started (by kernel_rfl) Tryz.func8
  (ChangeSpec.witness6 (enc:=enc) (C:=Tryz.checked) false ⟨#[], #[.agg #[.bool false,.int .i64 0,.int .i64 0,.int .i64 0,.slice none 0 0,.slice none 0 0]],[]⟩ 8 (by kernel_rfl) (by kernel_rfl) (by kernel_rfl) (by kernel_rfl)) ?_
 intro W base args ds gs before ag0 hW aDw _;have Cf:∀(j:Nat) t v,Tryz.f8.params[j]? =some t->args[j]? =some v->Value.okWide Tryz.prog W .any base t v:=ag0;have VW:=hW;obtain ⟨p,q,JT,hV,rfl,tO,rD⟩:=hW;have hA:DataW.TrodAll enc Tryz.prog W 0 (λ_=>true) true Tryz.f8.params.toList args.toList ds p:=JT;rw [Tryz.params8] at hA Cf;obtain ⟨rfl,rfl⟩:=trodVars_none hV;have fB:=au7 aq_ aq9 (f:=8) (λH us h=>anP H us h) (by kernel_rfl) hA (λj t v a b=>Cf j t v (by simpa using a) b);obtain ⟨v0,vs0,d0,ds0,p0,q0,aDr,rfl,rfl,h0,r0⟩:=trodAll_cons hA;obtain ⟨rfl,rfl,rfl⟩:=trodAll_nil r0;obtain rfl:args= #[v0]:=by cases args;simp_all
 clear JT ag0;simp only [C7] at VW;refine fB.mono λe W' ⟨he,hg⟩=>?_
 subst he;exact ⟨_,rfl,_,_,_,[],p0++([]),[],VW,trodAll_cons_mk (shut_bool Tryz.underlying4 _) trodAll_mk0,trodAll_cons_mk (Below.trod laid (by kernel_rfl) (ga (by kernel_rfl)) h0 hg λx hx=>by simpa using VW.lt x (by simp [hx])) (trodAll_mk0),rfl,hg.frame _,λh=>by cases h⟩
theorem rowed : mapsRowed Tryz.prog = true := by kernel_rfl
theorem inpl : Tryz.prog.inPlace 8 = Rows.hashAgreesRow.inPlace := by kernel_rfl
theorem unfo : Tryz.prog.unfollowed 8 = Rows.hashAgreesRow.unfollowed := by kernel_rfl
theorem recu : Tryz.prog.recurses 8 = Rows.hashAgreesRow.recurses := by kernel_rfl
theorem nmd : Tryz.prog.varsNamed 8 = Rows.hashAgreesRow.named := by kernel_rfl
theorem facts : joinedFacts Tryz.prog 8 Tryz.f8 Rows.hashAgreesSpec Rows.hashAgreesRow = true := by
  unfold joinedFacts
  rw [laid, rowed, inpl, unfo, recu, nmd]
  kernel_rfl
theorem pQ:Rows.hashAgreesRow.holds Tryz.pinned (OpenSpec.ofChange Rows.hashAgreesSpec):=
 OpenClaim.holds_of_wide 8 Tryz.f8 rfl rfl rfl rfl rfl rfl rfl ⟨rfl,rfl,rfl,rfl,rfl⟩ rfl rfl rfl rfl rfl (by kernel_rfl) Tryz.func8 facts
  (ga (by kernel_rfl)) (by unfold Func.isWrapper;first|(rw [ar (by decide +kernel)];kernel_rfl)|(rw [an (by decide +kernel)];exact ⟨rfl,rfl⟩))
  (λos started H enc _=>lifted os started H enc)
theorem proved:Rows.HashAgreesSaid:=
 pQ
end
end Go.Proofs.YtjggeoghlicmdaaGreat.hashAgrees
#print axioms Go.Proofs.YtjggeoghlicmdaaGreat.hashAgrees.proved
