/-
  hashAgrees.proved: part 6 of its proof. No condition.
  Written by a program out of the texts HashWM HashV1 HashV2 HashV3 HashV4 As49 Harness Rws VcP Deeds13 VcHe Hash11.
-/
import Derived.Test.YtjggeoghlicmdaaGreatHashAgreesP5
set_option linter.unusedVariables false
namespace Go.Proofs.YtjggeoghlicmdaaGreat
open Go Go.AS Go.RowKit
section
variable {c:Lc} {A A':Ab} {G G':Gr} {cap:Int} {q q':Qr} {i j:Nat} {pre rest:List El} {e:El} {P:List Int} {n k:Nat} {rs:List Qr} {M M':List (List El)}
def Nx.holds:Nx->Bool
 |.none=>false
 |.enter _ _=>false
 |.begin=>false
 |.k9=>false
 |_=>true
def Nx.lv:Nx->Bool
 |.leave=>true
 |_=>false
def Nx.waits:Nx->Bool
 |.enter t _=>decide (t.ph=1)
 |_=>false
def Nx.hi:Nx->Nat
 |.change (.take _)=>1
 |.after (.take _)=>1
 |.off _=>1
 |_=>0
def Nx.kG:Nx->Nat
 |.off _=>1
 |_=>0
def Nx.nD:Nx->Bool
 |.link=>true
 |.off _=>true
 |.gp _=>true
 |.iD _ _=>true
 |_=>false
def Nx.aB (m:Int):Nx->List Int
 |.words _ _ _ _ _=>[m]
 |.change .add=>[m]
 |.after .add=>[m]
 |.link=>[m]
 |.space=>if m=0 then [] else [m]
 |_=>[]
def Nx.ie (m:Int):Nx->Bool
 |.after _=>true
 |.space=>decide (m≠0)
 |_=>false
def Qr.holds (q:Qr):Bool:=q.nx.holds&& !(q.dn&&q.nx.lv)
def Qr.dh (q:Qr):Bool:=q.holds||q.nx.waits
def Qr.aB (q:Qr):List Int:=q.nx.aB q.made
def Qr.ie (q:Qr):Bool:=q.nx.ie q.made
theorem awt {n:Nx}(h:n.nD=true):n.holds=true/\n.lv=false:=by cases n<;>first|exact ⟨rfl,rfl⟩|cases h
theorem aqm {n:Nx}{m:Int}(h:n.ie m=true):n.holds=true/\n.lv=false:=by cases n<;>first|exact ⟨rfl,rfl⟩|cases h
structure Nm where
 n:Nat
 E:Nat
 B:Nat
def Nm.sz (N:Nm):Nat:=2*N.E+6*N.B+12
def Nm.cr (N:Nm):Nat:=N.n*N.sz
def Nm.c2 (N:Nm):Nat:=N.n*4
def Nm.op (N:Nm):Nat:=12+N.cr+2*N.c2
def Nm.w (N:Nm):Nat:=2*N.E+2
def sc (N:Nm)(M:List (List El))(r:Nat)(same:Bool):Nat:=2*(M.drop r).flatten.length+6*(N.B - r)+6+if same then 0 else N.sz
def r0 (c:Lc)(q:Qr):Int:=if q.fl=1 then 0 else bZ q.ky c.d3
def kb (c:Lc)(q:Qr)(i:Nat):Wd×Bool:=if q.fl≠1/\bZ q.ky c.d3=(i:Int) then (q.ky,true) else (0,false)
def ns (k:Wd)(bh:Bool)(e:El):Prop:=k.toNat<e.k.toNat∨(e.k=k/\bh=false)
def Qr.same (A:Ab)(q:Qr):Bool:=decide (q.bg=A.bo)
def Bl (c:Lc)(i:Nat)(q:Qr)(kk:Wd)(bh:Bool):Cb->Prop
 |.find=>q.kd≠4/\bZ q.ky c.d3=(i:Int)/\kk=q.ky/\bh=false
 |.next room=>q.kd=4/\room=(i:Int)/\r0 c q<=(i:Int)/\kk=(kb c q i).1/\bh=(kb c q i).2
def pj (N:Nm)(A:Ab)(M:List (List El))(i:Nat)(q:Qr):Cb->Nat
 |.find=>N.op
 |.next _=>1+sc N M (i+1) (q.same A)
def yk (N:Nm)(A:Ab)(M:List (List El))(i:Nat)(q:Qr):Th->Nat
 |.op=>3+N.w+N.op
 |.search _ _ _=>sc N M i (q.same A)
def ThF (c:Lc)(i:Nat)(q:Qr)(k:Th):Prop:=Bl c i q (k.key q).1 (k.key q).2.1 (k.key q).2.2
def qW (c:Lc)(A:Ab)(i:Nat)(q:Qr):Prop:=∃pre e rest,In c A i q pre (e::rest)/\q.cur=e.h/\e.k=q.ky/\bZ q.ky c.d3=(i:Int)
def vF (c:Lc)(A:Ab)(i:Nat)(q:Qr):Prop:=∃pre rest,In c A i q pre rest/\BitVec.ofInt 64 q.cur=first rest/\(∀e∈pre,e.k.toNat<q.ky.toNat)/\(∀e∈rest,q.ky.toNat<e.k.toNat)/\bZ q.ky c.d3=(i:Int)/\q.kd=2/\q.fl≠2
def ID (c:Lc)(A:Ab)(M:List (List El))(i:Nat)(q:Qr):Prop:=∃pre e rest,In c A i q pre (e::rest)/\q.cur=e.h/\M[i]? =some (pre++rest)
def IE (q:Qr)(V:View):Prop:=q.made≠0/\V q.made=some [BitVec.ofInt 64 q.cur,q.ky,q.val]
def Fact (N:Nm)(c:Lc)(A:Ab)(M:List (List El))(V:View)(q:Qr)(k:Nat):Prop:=
 q.dn=true∨∃i:Nat,match q.nx with
 |.none=>False
 |.enter t th=>q.room=i/\i<A.ls.length/\t.i=lk i/\(t.ph=0∨t.ph=1)/\ThF c i q th/\q.made=0/\yk N A M i q th<=k+t.ph
 |.th th=>q.room=i/\i<A.ls.length/\ThF c i q th/\q.made=0/\yk N A M i q th<=k+2
 |.load kk bh cb=>q.made=0/\Bl c i q kk bh cb/\∃pre rest,In c A i q pre rest/\(∀e∈pre,¬ns kk bh e)/\1+2*rest.length+pj N A M i q cb<=k
 |.ask kk bh cb=>q.made=0/\Bl c i q kk bh cb/\∃pre e rest,In c A i q pre (e::rest)/\q.cur=e.h/\(∀e∈pre,¬ns kk bh e)/\2+2*rest.length+pj N A M i q cb<=k
 |.set=>qW c A i q/\q.kd=2/\q.fl≠1/\2<=k
 |.look=>qW c A i q/\q.kd=1/\2<=k
 |.drop=>qW c A i q/\q.kd=3/\5+N.cr+N.c2<=k
 |.take=>qW c A i q/\q.kd≠1/\q.kd≠2/\q.kd≠3/\q.kd≠4/\7+N.cr+2*N.c2<=k
 |.change (.take w)=>w=.gZ/\qW c A i q/\q.kd≠1/\q.kd≠2/\q.kd≠3/\q.kd≠4/\6+N.cr+2*N.c2<=k
 |.after (.take w)=>w=.gZ/\qW c A i q/\q.kd≠1/\q.kd≠2/\q.kd≠3/\q.kd≠4/\5+2*N.c2<=k
 |.change .drop=>False
 |.after .drop=>qW c A i q/\q.kd=3/\4+N.c2<=k
 |.space=>(q.made=0/\11+N.cr+N.c2<=k∨IE q V/\4+N.c2<=k)/\vF c A i q
 |.make=>q.made=0/\vF c A i q/\q.bg.toNat<N.E/\10+N.cr+N.c2<=k
 |.words _ _ h all m=>h=q.made/\q.made≠0/\vF c A i q/\q.bg.toNat<N.E/\1<=m/\m<=3/\6+m+N.cr+N.c2<=k/\all=[BitVec.ofInt 64 q.cur,q.ky,q.val]/\∃ws,V q.made=some ws/\ws.length=3/\ws.drop m=all.drop m
 |.change .add=>IE q V/\vF c A i q/\q.bg.toNat<N.E/\6+N.cr+N.c2<=k
 |.after .add=>IE q V/\vF c A i q/\q.bg.toNat<N.E/\3+N.c2+(if q.bg=A.ay&&&bD then 0 else 2)<=k
 |.link=>q.made≠0/\2<=k/\∃pre rest,In c A i q pre rest/\V q.made=some [first rest,q.ky,q.val]/\M[i]? =some (pre++⟨q.made,q.ky⟩::rest)
 |.off w=>w=.gZ/\ID c A M i q/\4+N.c2<=k
 |.gp w=>w=.gZ/\ID c A M i q/\3<=k
 |.iD v w=>w=.gZ/\2<=k/\∃pre e rest,In c A i q pre (e::rest)/\q.cur=e.h/\M[i]? =some (pre++rest)/\v=first rest
 |.leave=>q.room=i/\i<A.ls.length/\1<=k
 |.begin=>q.kd=4/\q.made=0/\N.sz<=k
 |.free room=>q.kd=4/\room=(i:Int)/\q.room=i/\i<A.ls.length/\q.made=0/\r0 c q<=(i:Int)/\1+sc N M (i+1) (q.same A)<=k
 |.k9=>q.kd=4/\q.made=0/\sc N M N.B (q.same A)<=k
 |.kZ=>q.kd=4/\q.made=0/\r0 c q<=(i:Int)/\(∃pre e rest,In c A i q pre (e::rest)/\q.key=e.k/\ns (kb c q i).1 (kb c q i).2 e/\∀e∈pre,¬ns (kb c q i).1 (kb c q i).2 e)/\6+(if q.same A then 0 else N.sz)<=k
 |.mn=>q.room=i/\i<A.ls.length/\q.kd=4/\q.made=0/\1+N.sz<=k
 |.ot=>False
structure me (A:Ab)(rs:List Qr)(i:Nat)(Q:List Nat):Prop where
 nd:Q.Nodup
 mem:∀a,a∈Q↔∃q,rs[a]? =some q/\q.dh=true/\q.room=(i:Int)
 tk:A.tk i=A.sv i+BitVec.ofNat 64 Q.length
 aP:∀k a q,Q[k]? =some a->rs[a]? =some q->(q.holds=true->k=0)/\∀t th,q.nx=.enter t th->t.ph=1->t.t=A.sv i+BitVec.ofNat 64 k
theorem f_ {l:List Qr}{a b:Nat}{q q' x:Qr}(h:l[a]? =some q):(l.set a q')[b]? =some x↔(b=a/\x=q')∨(b≠a/\l[b]? =some x):=by
 have aE:=(bJ.1 h).1;rw [mD];by_cases e:a=b
 ·subst e;rw [ar rfl,ar aE];constructor
  ·intro h;exact .inl ⟨rfl,(dM h).symm⟩
  ·rintro (⟨_,rfl⟩|⟨h,_⟩)
   ·rfl
   ·exact absurd rfl h
 ·rw [an e];constructor
  ·intro h;exact .inr ⟨λh=>e h.symm,h⟩
  ·rintro (⟨h,_⟩|⟨_,h⟩)
   ·exact absurd h.symm e
   ·exact h
theorem Am (h:q.holds=true):q.dh=true:=by unfold Qr.dh;rw [h];rfl
theorem me.one {Q:List Nat}(hQ:me A rs i Q){a b:Nat}{qa qb:Qr}(ha:rs[a]? =some qa)(hb:rs[b]? =some qb)(h1:qa.holds=true)(h2:qb.holds=true)(r1:qa.room=(i:Int))(r2:qb.room=(i:Int)):a=b:=by
 have m1:=(hQ.mem a).2 ⟨qa,ha,Am h1,r1⟩;have m2:=(hQ.mem b).2 ⟨qb,hb,Am h2,r2⟩;have⟨k1,e1⟩:=qV m1;have⟨k2,e2⟩:=qV m2;have z1:=(hQ.aP k1 a qa e1 ha).1 h1;have z2:=(hQ.aP k2 b qb e2 hb).1 h2;subst z1 z2;rw [e1] at e2;exact dM e2
theorem me.iy {Q:List Nat}(hQ:me A rs i Q){a:Nat}(ha:rs[a]? =some q)(e1:A'.tk i=A.tk i)(e2:A'.sv i=A.sv i)(dZ:q'.dh=true/\q'.room=(i:Int)↔q.dh=true/\q.room=(i:Int))
  (hh:q'.dh=true->q'.room=(i:Int)->(q'.holds=true->q.holds=true)/\∀t th,q'.nx=.enter t th->t.ph=1->∃HV,q.nx=.enter t HV):me A' (rs.set a q') i Q:=by
 refine ⟨hQ.nd,λb=>?_,by rw [e1,e2];exact hQ.tk,λk b x hk hx=>?_⟩
 ·rw [hQ.mem b];constructor
  ·rintro ⟨x,h1,h2⟩;by_cases e:b=a
   ·subst e;rw [ha] at h1;obtain rfl:=dM h1;exact ⟨q',(f_ ha).2 (.inl ⟨rfl,rfl⟩),dZ.2 h2⟩
   ·exact ⟨x,(f_ ha).2 (.inr ⟨e,h1⟩),h2⟩
  ·rintro ⟨x,h1,h2⟩;rcases (f_ ha).1 h1 with ⟨rfl,rfl⟩|⟨_,h1⟩
   ·exact ⟨q,ha,dZ.1 h2⟩
   ·exact ⟨x,h1,h2⟩
 ·rw [e2];rcases (f_ ha).1 hx with ⟨rfl,rfl⟩|⟨_,hx⟩
  ·have hb:=(hQ.mem b).1 (dF hk);have⟨y,h1,h2⟩:=hb;rw [ha] at h1;obtain rfl:=dM h1;have⟨h3,h4⟩:=dZ.2 h2;have⟨h5,h6⟩:=hh h3 h4;refine ⟨λh=>(hQ.aP k b q hk ha).1 (h5 h),λt th ht hp=>?_⟩;have⟨HV,e⟩:=h6 t th ht hp;exact (hQ.aP k b q hk ha).2 t HV e hp
  ·exact hQ.aP k b x hk hx
theorem me.draw {Q:List Nat}(hQ:me A rs i Q){a:Nat}{t:Tk}{th:Th}(ha:rs[a]? =some q)(h0:q.dh=false)(hr:q'.room=(i:Int))(hn:q'.nx=.enter t th)(hp:t.ph=1)(ht:t.t=A.tk i)(e1:A'.tk i=A.tk i+1)(e2:A'.sv i=A.sv i):me A' (rs.set a q') i (Q++[a]):=by
 have nZ:a∉Q:=λh=>by
  have⟨x,h1,h2,_⟩:=(hQ.mem a).1 h;rw [ha] at h1;obtain rfl:=dM h1;rw [h0] at h2;cases h2
 have sD:q'.dh=true:=by unfold Qr.dh;rw [hn];simp [Nx.waits,hp]
 have Km:q'.holds=false:=by unfold Qr.holds;rw [hn];rfl
 refine ⟨?_,λb=>?_,?_,λk b x hk hx=>?_⟩
 ·exact jG.2 ⟨hQ.nd,by simp,λx hx y hy e=>by simp only [fo] at hy;subst hy;subst e;exact nZ hx⟩
 ·rw [dV,fo,hQ.mem b];constructor
  ·rintro (⟨x,h1,h2⟩|rfl)
   ·have e:b≠a:=λe=>nZ ((hQ.mem a).2 ⟨x,by rw [<-e];exact h1,h2⟩)
    exact ⟨x,(f_ ha).2 (.inr ⟨e,h1⟩),h2⟩
   ·exact ⟨q',(f_ ha).2 (.inl ⟨rfl,rfl⟩),sD,hr⟩
  ·rintro ⟨x,h1,h2⟩;rcases (f_ ha).1 h1 with ⟨rfl,_⟩|⟨_,h1⟩
   ·exact .inr rfl
   ·exact .inl ⟨x,h1,h2⟩
 ·rw [e1,e2,hQ.tk,e_,aat,aaH,aaI];rfl
 ·rw [e2];by_cases kB:k<Q.length
  ·rw [uB kB] at hk;rcases (f_ ha).1 hx with ⟨rfl,rfl⟩|⟨_,hx⟩
   ·exact absurd (dF hk) nZ
   ·exact hQ.aP k b x hk hx
  ·rw [ya (by omega)] at hk;have bj:k - Q.length<[a].length:=(bJ.1 hk).1;simp only [aat] at bj;have ek:k=Q.length:=by omega
   subst ek;rw [x6] at hk;obtain rfl:a=b:=by simpa using hk
   rcases (f_ ha).1 hx with ⟨_,rfl⟩|⟨h,_⟩
   ·refine ⟨λh=>(by rw [Km] at h;cases h),λt2 th2 h2 _=>?_⟩;rw [hn] at h2;obtain ⟨rfl,_⟩:=Nx.enter.inj h2;rw [ht,hQ.tk]
   ·exact absurd rfl h
theorem me.gO {Q:List Nat}(hQ:me A rs i Q)(hl:Q.length<18446744073709551616){a:Nat}{t:Tk}{th:Th}(ha:rs[a]? =some q)(hr:q.room=(i:Int))(hn:q.nx=.enter t th)(hp:t.ph=1)(ht:t.t=A.sv i)(e1:A'.tk i=A.tk i)(e2:A'.sv i=A.sv i)
  (h1:q'.room=(i:Int))(h2:q'.dh=true)(h3:∀t th,q'.nx≠.enter t th):me A' (rs.set a q') i Q:=by
 have sD:q.dh=true:=by unfold Qr.dh;rw [hn];simp [Nx.waits,hp]
 have hz:∀k,Q[k]? =some a->k=0:=λk hk=>by
  have h4:=(hQ.aP k a q hk ha).2 t th hn hp;rw [ht] at h4;have h5:BitVec.ofNat 64 k=0:=by
   have h6:A.sv i+BitVec.ofNat 64 k - A.sv i=A.sv i - A.sv i:=by rw [<-h4]
   rw [BitVec.sub_self,BitVec.add_comm,BitVec.add_sub_cancel] at h6;exact h6
  have h6:=hZ BitVec.toNat h5;rw [Io] at h6
  have:=(bJ.1 hk).1
  have h7:(0:Wd).toNat=0:=rfl;rw [h7] at h6;omega
 refine ⟨hQ.nd,λb=>?_,by rw [e1,e2];exact hQ.tk,λk b x hk hx=>?_⟩
 ·rw [hQ.mem b];constructor
  ·rintro ⟨x,D_,BT⟩;by_cases e:b=a
   ·subst e;exact ⟨q',(f_ ha).2 (.inl ⟨rfl,rfl⟩),h2,h1⟩
   ·exact ⟨x,(f_ ha).2 (.inr ⟨e,D_⟩),BT⟩
  ·rintro ⟨x,D_,BT⟩;rcases (f_ ha).1 D_ with ⟨rfl,rfl⟩|⟨_,D_⟩
   ·exact ⟨q,ha,sD,hr⟩
   ·exact ⟨x,D_,BT⟩
 ·rw [e2];rcases (f_ ha).1 hx with ⟨rfl,rfl⟩|⟨_,hx⟩
  ·exact ⟨λ_=>hz k hk,λt th h _=>absurd h (h3 t th)⟩
  ·exact hQ.aP k b x hk hx
theorem me.drop {Q:List Nat}(hQ:me A rs i Q){a:Nat}(ha:rs[a]? =some q)(hr:q.room=(i:Int))(hh:q.holds=true)(h0:q'.dh=false)(e1:A'.tk i=A.tk i)(e2:A'.sv i=A.sv i+1):∃Q',Q'.length<Q.length/\me A' (rs.set a q') i Q':=by
 have hm:=(hQ.mem a).2 ⟨q,ha,Am hh,hr⟩;have⟨k0,Kr⟩:=qV hm;have hz:=(hQ.aP k0 a q Kr ha).1 hh;subst hz;obtain ⟨Q',rfl⟩:∃Q',Q=a::Q':=by
  cases Q with
  |nil=>simp at Kr
  |cons x Q'=>exact ⟨Q',by simp at Kr;rw [Kr]⟩
 clear Kr;have nd:=l_.1 hQ.nd;refine ⟨Q',by simp,nd.2,λb=>?_,?_,λk b x hk hx=>?_⟩
 ·constructor
  ·intro hb;have e:b≠a:=λe=>nd.1 (e▸hb)
   have⟨x,h1,h2⟩:=(hQ.mem b).1 (jh _ hb);exact ⟨x,(f_ ha).2 (.inr ⟨e,h1⟩),h2⟩
  ·rintro ⟨x,h1,h2⟩;rcases (f_ ha).1 h1 with ⟨rfl,rfl⟩|⟨e,h1⟩
   ·rw [h0] at h2;cases h2.1
   ·rcases dU.1 ((hQ.mem b).2 ⟨x,h1,h2⟩) with h|h
    ·exact absurd h e
    ·exact h
 ·rw [e1,e2,hQ.tk,gU,Ik,aaH,aaI];rfl
 ·rw [e2];rcases (f_ ha).1 hx with ⟨rfl,rfl⟩|⟨e,hx⟩
  ·exact absurd (dF hk) nd.1
  ·have h5:=hQ.aP (k+1) b x (by simpa using hk) hx;refine ⟨λh=>absurd (h5.1 h) (by omega),λt th h6 h7=>?_⟩;rw [h5.2 t th h6 h7,Ik k 1,aaH,aaI];rfl
end
section
variable {N:Nm} {c:Lc} {A A':Ab} {G G':Gr} {cap:Int} {q q' x:Qr} {i j:Nat} {pre rest:List El} {e:El} {P:List Int} {n k k' a b au:Nat} {rs:List Qr} {M M':List (List El)} {ks:Nat->Nat} {V V':View}
theorem MD (f:Qr->Nat):∀{rs:List Qr}{a:Nat},rs[a]? =some q->((rs.set a q').map f).sum+f q=(rs.map f).sum+f q'
 |x::rs,0,h=>by
  obtain rfl:x=q:=by simpa using h
  simp only [Nd,lL,Fx];omega
 |x::rs,a+1,h=>by
  have:=MD f (rs:=rs) (a:=a) (by simpa using h)
  simp only [Nf,lL,Fx];omega
def cT (rs:List Qr)(a:Nat):List Int:=(rs.take a++rs.drop (a+1)).flatMap Qr.aB
theorem D4:∀{rs:List Qr}{a:Nat},rs[a]? =some q->(rs.flatMap Qr.aB).Perm (q.aB++cT rs a)
 |x::rs,0,h=>by
  obtain rfl:x=q:=by simpa using h
  exact Ih _
 |x::rs,a+1,h=>by
  have h1:=D4 (rs:=rs) (a:=a) (by simpa using h);have e:cT (x::rs) (a+1)=x.aB++cT rs a:=by unfold cT;simp
  rw [e,aaE];refine (h1.append_left x.aB).trans ?_;rw [<-mC,<-mC];exact (FC (l₁:=x.aB) (l₂:=q.aB)).append_right _
theorem akd {q':Qr}:∀{rs:List Qr}{a:Nat},cT (rs.set a q') a=cT rs a
 |[],a=>by simp [cT]
 |x::rs,0=>by simp [cT]
 |x::rs,a+1=>by
  have:cT (rs.set a q') a=cT rs a:=akd
  unfold cT at this⊢
  simp only [Nf,List.take_succ_cons,aaw,rR,aaE,this]
theorem afm (h:rs[a]? =some q):((rs.set a q').flatMap Qr.aB).Perm (q'.aB++cT rs a):=by
 have h1:(rs.set a q')[a]? =some q':=(f_ h).2 (.inl ⟨rfl,rfl⟩)
 have:=D4 h1
 rw [akd] at this;exact this
theorem XV (ha:rs[a]? =some q)(hb:rs[b]? =some x)(hn:b≠a){h:Int}(hh:h∈x.aB):h∈cT rs a:=by
 unfold cT;refine zk.2 ⟨x,?_,hh⟩;rw [dV];have hlb:=(bJ.1 hb).1;by_cases e:b<a
 ·left;refine dF (i:=b) ?_;rw [Be,ar e];exact hb
 ·right;refine dF (i:=b - (a+1)) ?_;rw [Bd,show a+1+(b - (a+1))=b by omega];exact hb
theorem Bk.L5 {nn:Nat}{xs ys:List Int}(h:Bk c cap nn G xs)(p:xs.Perm ys):Bk c cap nn G ys:=
 ⟨h.ok,h.own,λa ha=>h.len a (by rw [dV] at ha⊢;exact ha.imp_left p.mem_iff.2),h.perm.trans (List.Perm.cons _ (p.append_right _)),h.sL,h.nd,h.made,by rw [<-p.length_eq];exact h.room,h.yZ,h.xb,h.dY⟩
theorem Mem.L5 {P':List Int}(h:Mem c cap A P G)(p:P.Perm P'):Mem c cap A P' G:=⟨h.bk.L5 (p.append_left _),h.vw,h.lH,h.made⟩
def wS (c:Lc)(i:Nat)(l:List El):Prop:=(l.Pairwise λa b=>a.k.toNat<b.k.toNat)/\∀e∈l,bZ e.k c.d3=(i:Int)
def Nx.scan (B:Nat)(room:Int):Nx->Option Int
 |.enter _ (.search _ _ r)=>some r
 |.th (.search _ _ r)=>some r
 |.load _ _ (.next r)=>some r
 |.ask _ _ (.next r)=>some r
 |.free r=>some (r+1)
 |.kZ=>some room
 |.k9=>some B
 |_=>Option.none
def Qr.scan (B:Nat)(q:Qr):Option Int:=if q.dn then Option.none else q.nx.scan B q.room
def Clean (c:Lc)(q:Qr)(M:List (List El))(j:Nat):Prop:=∀l,M[j]? =some l->∀e∈l,¬ns (kb c q j).1 (kb c q j).2 e
def vI (c:Lc)(B:Nat)(A:Ab)(rs:List Qr)(M:List (List El))(q:Qr):Prop:=∀r,q.scan B=some r->q.bg.toNat<=A.bo.toNat/\(q.bg=A.bo->
 (∀j:Nat,r0 c q<=(j:Int)->(j:Int)<r->Clean c q M j)/\∀(b:Nat)(x:Qr),rs[b]? =some x->x.ie=true->¬(r0 c q<=x.room/\x.room<r))
structure World (N:Nm)(c:Lc)(cap:Int)(au:Nat)(A:Ab)(G:Gr)(rs:List Qr)(ks:Nat->Nat)(M:List (List El)):Prop where
 mem:Mem c cap A (rs.flatMap Qr.aB) G
 nn:N.n=rs.length
 nE:(N.E:Int)=c.d1
 nB:N.B=A.ls.length
 wC:N.n<=1000/\1<=N.E/\N.E<=64
 cx:M.length=A.ls.length
 tm:A.mb<=au/\A.bo.toNat<=au/\au<2305843009213692000
 pR:∀i,i<A.ls.length->∃Q,me A rs i Q/\Q.length<=au
 fact:∀(a:Nat)(q:Qr),rs[a]? =some q->Fact N c A M G.S.V q (ks a)
 ay:A.ay=BitVec.ofNat 64 (M.flatten.length+(rs.map (·.nx.kG)).sum+4294967296*(rs.map (·.nx.hi)).sum)
 le:M.flatten.length+(rs.map (·.nx.kG)).sum<=N.E
 rel:∀i,i<A.ls.length->(∀(a:Nat)(q:Qr),rs[a]? =some q->q.room=(i:Int)->q.dn=false->q.nx.nD=false)->M[i]? =A.ls[i]?
 iO:∀i l,M[i]? =some l->wS c i l
 fj:∀(a:Nat)(q:Qr),rs[a]? =some q->vI c N.B A rs M q
structure Nz (N:Nm)(A A':Ab)(M M':List (List El))(δ:Nat):Prop where
 bo:A'.bo=A.bo∨(A.bo.toNat<A'.bo.toNat/\N.sz<=δ)
 sz:M'=M∨(4<=δ/\A'.bo=A.bo/\∀r,(M'.drop r).flatten.length<=(M.drop r).flatten.length+1)
 low:A'.ay&&&bD=A.ay&&&bD∨4<=δ
theorem Mk {δ:Nat}(h:Nz N A A' M M' δ)(r:Nat)(q:Qr)(hw:q.bg.toNat<=A.bo.toNat):sc N M' r (q.same A')<=sc N M r (q.same A)+δ:=by
 unfold sc;have h1:(if q.same A' then 0 else N.sz)<=(if q.same A then 0 else N.sz)+if A'.bo=A.bo then 0 else N.sz:=by
  by_cases e:A'.bo=A.bo
  ·unfold Qr.same;rw [e,ar rfl];omega
  ·rw [an e];split<;>omega
 rcases h.sz with e|⟨e1,e2,e3⟩
 ·rw [e];rcases h.bo with e|⟨e1,e2⟩
  ·rw [ar e] at h1;omega
  ·have:(if A'.bo=A.bo then 0 else N.sz)<=N.sz:=by split<;>omega
   omega
 ·rw [ar e2] at h1
  have:=e3 r
  omega
theorem aeq {δ:Nat}(h:Nz N A A' M M' δ)(q:Qr)(hw:q.bg.toNat<=A.bo.toNat)(cb:Cb):pj N A' M' i q cb<=pj N A M i q cb+δ:=by
 cases cb with
 |find=>exact Ic _ _
 |next room=>
  have:=Mk h (i+1) q hw
  show 1+sc N M' (i+1) (q.same A')<=1+sc N M (i+1) (q.same A)+δ;omega
theorem Fact.iy {δ:Nat}(h:Fact N c A M V q k)(hl:A'.ls.length=A.ls.length)(h1:q.holds=true->∀i:Nat,q.room=(i:Int)->A'.ls[i]? =A.ls[i]? /\M'[i]? =M[i]?)(hV:∀h∈q.aB,V' h=V h)
  (hc:Nz N A A' M M' δ)(hw:q.dn=false->(q.scan N.B).isSome=true->q.bg.toNat<=A.bo.toNat):Fact N c A' M' V' q (k+δ):=by
 rcases h with h|⟨i,h⟩
 ·exact .inl h
 by_cases hd:q.dn=true
 ·exact .inl hd
 have hd:q.dn=false:=by simpa using hd
 refine .inr ⟨i,?_⟩;have dZ:∀{pre rest},q.nx.holds=true->In c A i q pre rest->In c A' i q pre rest:=λhh I=>⟨I.room,by rw [(h1 (by unfold Qr.holds;rw [hh,hd];rfl) i I.room).1];exact I.ls,I.ah,I.ai⟩
 have hM:∀{pre rest},q.nx.holds=true->In c A i q pre rest->M'[i]? =M[i]? :=λhh I=>(h1 (by unfold Qr.holds;rw [hh,hd];rfl) i I.room).2
 have cX:q.nx.holds=true->qW c A i q->qW c A' i q:=λhh ⟨pre,e,rest,a1,a2,a3,a4⟩=>⟨pre,e,rest,dZ hh a1,a2,a3,a4⟩
 have tP:q.nx.holds=true->vF c A i q->vF c A' i q:=λhh ⟨pre,rest,a1,a2⟩=>⟨pre,rest,dZ hh a1,a2⟩
 have nZ:q.nx.holds=true->ID c A M i q->ID c A' M' i q:=λhh ⟨pre,e,rest,a1,a2,a3⟩=>⟨pre,e,rest,dZ hh a1,a2,by rw [hM hh a1];exact a3⟩
 have tV:q.nx.holds=true->q.made∈q.aB->IE q V->IE q V':=λhh hp ⟨a0,a2⟩=>⟨a0,by rw [hV _ hp];exact a2⟩
 cases hn:q.nx with
 |none=>rw [hn] at h;exact h
 |enter t th=>
  rw [hn] at h dZ hM cX tP nZ tV;have⟨a1,a2,a3,a4,a5,a6,a7⟩:=h;refine ⟨a1,by omega,a3,a4,a5,a6,?_⟩
  have:yk N A' M' i q th<=yk N A M i q th+δ:=by
   cases th with
   |op=>exact Ic _ _
   |search kk bh room=>exact Mk hc i q (hw hd (by unfold Qr.scan;rw [hd,hn];rfl))
  omega
 |th th=>
  rw [hn] at h dZ hM cX tP nZ tV;have⟨a1,a2,a5,a6,a7⟩:=h;refine ⟨a1,by omega,a5,a6,?_⟩
  have:yk N A' M' i q th<=yk N A M i q th+δ:=by
   cases th with
   |op=>exact Ic _ _
   |search kk bh room=>exact Mk hc i q (hw hd (by unfold Qr.scan;rw [hd,hn];rfl))
  omega
 |load kk bh cb=>
  rw [hn] at h dZ hM cX tP nZ tV;have⟨a1,a2,pre,rest,a3,a4,a5⟩:=h
  have:pj N A' M' i q cb<=pj N A M i q cb+δ:=by
   cases cb with
   |find=>exact Ic _ _
   |next room=>exact aeq hc q (hw hd (by unfold Qr.scan;rw [hd,hn];rfl)) _
  exact ⟨a1,a2,pre,rest,dZ rfl a3,a4,by omega⟩
 |ask kk bh cb=>
  rw [hn] at h dZ hM cX tP nZ tV;have⟨a1,a2,pre,e,rest,a3,a4,a5,a6⟩:=h
  have:pj N A' M' i q cb<=pj N A M i q cb+δ:=by
   cases cb with
   |find=>exact Ic _ _
   |next room=>exact aeq hc q (hw hd (by unfold Qr.scan;rw [hd,hn];rfl)) _
  exact ⟨a1,a2,pre,e,rest,dZ rfl a3,a4,a5,by omega⟩
 |set=>rw [hn] at h cX;exact ⟨cX rfl h.1,h.2.1,h.2.2.1,by have:=h.2.2.2;omega⟩
 |look=>rw [hn] at h cX;exact ⟨cX rfl h.1,h.2.1,by have:=h.2.2;omega⟩
 |drop=>rw [hn] at h cX;exact ⟨cX rfl h.1,h.2.1,by have:=h.2.2;omega⟩
 |take=>rw [hn] at h cX;have⟨a1,a2,a3,a4,a5,a6⟩:=h;exact ⟨cX rfl a1,a2,a3,a4,a5,by omega⟩
 |change f=>
  cases f with
  |add=>
   have hp:q.made∈q.aB:=by unfold Qr.aB;rw [hn];exact .head _
   rw [hn] at h tP tV;have⟨a1,a2,a3,a4⟩:=h;exact ⟨tV rfl hp a1,tP rfl a2,a3,by omega⟩
  |drop=>rw [hn] at h;exact h
  |take _=>rw [hn] at h cX;have⟨a0,a1,a2,a3,a4,a5,a6⟩:=h;exact ⟨a0,cX rfl a1,a2,a3,a4,a5,by omega⟩
 |after f=>
  cases f with
  |add=>
   have hp:q.made∈q.aB:=by unfold Qr.aB;rw [hn];exact .head _
   rw [hn] at h tP tV;have⟨a1,a2,a3,a4⟩:=h;refine ⟨tV rfl hp a1,tP rfl a2,a3,?_⟩;rcases hc.low with e|e
   ·rw [e];omega
   ·have:(if q.bg=A'.ay&&&bD then 0 else 2)<=2:=by split<;>omega
    omega
  |drop=>rw [hn] at h cX;exact ⟨cX rfl h.1,h.2.1,by have:=h.2.2;omega⟩
  |take _=>rw [hn] at h cX;have⟨a0,a1,a2,a3,a4,a5,a6⟩:=h;exact ⟨a0,cX rfl a1,a2,a3,a4,a5,by omega⟩
 |space=>
  have hp:q.made≠0->q.made∈q.aB:=λh0=>by unfold Qr.aB;rw [hn];unfold Nx.aB;rw [an h0];exact .head _
  rw [hn] at h tP tV;refine ⟨?_,tP rfl h.2⟩;rcases h.1 with ⟨a1,a2⟩|⟨a1,a2⟩
  ·exact .inl ⟨a1,by omega⟩
  ·exact .inr ⟨tV rfl (hp a1.1) a1,by omega⟩
 |make=>rw [hn] at h tP;have⟨a1,a2,a3,a4⟩:=h;exact ⟨a1,tP rfl a2,a3,by omega⟩
 |words gw bw hh all m=>
  have hp:q.made∈q.aB:=by unfold Qr.aB;rw [hn];exact .head _
  rw [hn] at h tP;have⟨a1,a2,a3,a4,a5,a6,a7,a8,ws,a9,gx⟩:=h;exact ⟨a1,a2,tP rfl a3,a4,a5,a6,by omega,a8,ws,by rw [hV _ hp];exact a9,gx⟩
 |link=>
  have hp:q.made∈q.aB:=by unfold Qr.aB;rw [hn];exact .head _
  rw [hn] at h dZ hM;have⟨a1,a2,pre,rest,a3,a4,a5⟩:=h;exact ⟨a1,by omega,pre,rest,dZ rfl a3,by rw [hV _ hp];exact a4,by rw [hM rfl a3];exact a5⟩
 |off _=>rw [hn] at h nZ;exact ⟨h.1,nZ rfl h.2.1,by have:=h.2.2;omega⟩
 |gp _=>rw [hn] at h nZ;exact ⟨h.1,nZ rfl h.2.1,by have:=h.2.2;omega⟩
 |iD v _=>
  rw [hn] at h dZ hM;have⟨a0,a1,pre,e,rest,a2,a3,a4,a5⟩:=h;exact ⟨a0,by omega,pre,e,rest,dZ rfl a2,a3,by rw [hM rfl a2];exact a4,a5⟩
 |leave=>rw [hn] at h;exact ⟨h.1,by omega,by omega⟩
 |begin=>rw [hn] at h;exact ⟨h.1,h.2.1,by omega⟩
 |free room=>
  rw [hn] at h;have⟨a1,a2,a3,a4,a5,a6,a7⟩:=h
  have:=Mk hc (i+1) q (hw hd (by unfold Qr.scan;rw [hd,hn];rfl))
  exact ⟨a1,a2,a3,by omega,a5,a6,by omega⟩
 |k9=>
  rw [hn] at h
  have:=Mk hc N.B q (hw hd (by unfold Qr.scan;rw [hd,hn];rfl))
  exact ⟨h.1,h.2.1,by omega⟩
 |kZ=>
  rw [hn] at h dZ;have⟨a1,a2,a3,⟨pre,e,rest,a4,a5⟩,a6⟩:=h;refine ⟨a1,a2,a3,⟨pre,e,rest,dZ rfl a4,a5⟩,?_⟩;rcases hc.bo with e|⟨_,e⟩
  ·unfold Qr.same at a6⊢;rw [e];omega
  ·have:(if q.same A' then 0 else N.sz)<=N.sz:=by split<;>omega
   omega
 |mn=>rw [hn] at h;exact ⟨h.1,by omega,h.2.2.1,h.2.2.2.1,by omega⟩
 |ot=>rw [hn] at h;exact h.elim
structure gX (N:Nm)(c:Lc)(cap:Int)(au:Nat)(A:Ab)(G:Gr)(rs:List Qr)(M:List (List El))(a:Nat)(q q':Qr)(A':Ab)(G':Gr)(M':List (List El))(k' δ:Nat):Prop where
 mem:Mem c cap A' (q'.aB++cT rs a) G'
 len:A'.ls.length=A.ls.length
 cx:M'.length=M.length
 tm:A'.mb<=au+1/\A'.bo.toNat<=au+1
 pR:∀i,i<A.ls.length->∃Q,me A' (rs.set a q') i Q/\Q.length<=au+1
 own:∀j:Nat,A'.ls[j]? ≠A.ls[j]? ∨M'[j]? ≠M[j]? ->q.holds=true/\q.room=(j:Int)
 V:∀h∈cT rs a,G'.S.V h=G.S.V h
 fact:Fact N c A' M' G'.S.V q' k'
 cost:Nz N A A' M M' δ
 ay:A'.ay=BitVec.ofNat 64 (M'.flatten.length+((rs.set a q').map (·.nx.kG)).sum+4294967296*((rs.set a q').map (·.nx.hi)).sum)
 le:M'.flatten.length+((rs.set a q').map (·.nx.kG)).sum<=N.E
 rel:∀i:Nat,i<A.ls.length->q.room=(i:Int)->(q.nx.nD=true∨A'.ls[i]? ≠A.ls[i]? ∨M'[i]? ≠M[i]?)->(q'.room=(i:Int)->q'.dn=false->q'.nx.nD=false)->M'[i]? =A'.ls[i]?
 iO:∀i l,M'[i]? =some l->wS c i l
 awr:A'.bo=A.bo->(q'.ie=true->q.ie=true/\q'.room=q.room)/\∀j:Nat,M'[j]? ≠M[j]? ->q.ie=true
 fj:vI c N.B A' (rs.set a q') M' q'
theorem World.jN (W:World N c cap au A G rs ks M)(ha:rs[a]? =some q):Mem c cap A (q.aB++cT rs a) G:=W.mem.L5 (D4 ha)
theorem World.dt (W:World N c cap au A G rs ks M)(ha:rs[a]? =some q){k' δ:Nat}(U:gX N c cap au A G rs M a q q' A' G' M' k' δ)(ke:au+1<2305843009213692000) :
  World N c cap (au+1) A' G' (rs.set a q') (λb=>if b=a then k' else ks b+δ) M':=by
 have wg:∀{b:Nat}{x:Qr},(rs.set a q')[b]? =some x->(b=a/\x=q')∨(b≠a/\rs[b]? =some x):=λh=>(f_ ha).1 h
 have GP:∀{b:Nat}{x:Qr},b≠a->rs[b]? =some x->x.holds=true->∀i:Nat,x.room=(i:Int)->A'.ls[i]? =A.ls[i]? /\M'[i]? =M[i]? :=λ{b x} hb hx hh i hr=>by
  have key:¬(A'.ls[i]? ≠A.ls[i]? ∨M'[i]? ≠M[i]?):=λaW=>by
   have⟨h1,h2⟩:=U.own i aW;by_cases hi:i<A.ls.length
   ·have⟨Q,hQ,_⟩:=W.pR i hi;exact hb (hQ.one hx ha hh h1 hr h2)
   ·have e1:A'.ls[i]? =A.ls[i]? :=by rw [ji (by rw [U.len];omega),ji (by omega)]
    have e2:M'[i]? =M[i]? :=by rw [ji (by rw [U.cx,W.cx];omega),ji (by rw [W.cx];omega)]
    rcases aW with h|h
    ·exact h e1
    ·exact h e2
  exact ⟨rT λh=>key (.inl h),rT λh=>key (.inr h)⟩
 refine ⟨U.mem.L5 (afm ha).symm,by rw [gT];exact W.nn,W.nE,by rw [U.len];exact W.nB,W.wC,by rw [U.cx,U.len];exact W.cx,⟨by have:=U.tm;omega,U.tm.2,ke⟩,λi hi=>?_,λb x hx=>?_,U.ay,U.le,λi hi hp=>?_,U.iO,λb x hx=>?_⟩
 ·exact U.pR i (by rw [<-U.len];exact hi)
 ·rcases wg hx with ⟨rfl,rfl⟩|⟨hb,hx⟩
  ·rw [ar rfl];exact U.fact
  ·rw [an hb];refine (W.fact b x hx).iy U.len (GP hb hx) (λh hh=>U.V h (XV ha hx hb hh)) U.cost λ_ hs=>?_
   have⟨r,hr⟩:=dG.1 hs;exact (W.fj b x hx r hr).1
 ·rw [U.len] at hi;by_cases hq:q.room=(i:Int)/\(q.nx.nD=true∨A'.ls[i]? ≠A.ls[i]? ∨M'[i]? ≠M[i]?)
  ·exact U.rel i hi hq.1 hq.2 λhr=>hp a q' ((f_ ha).2 (.inl ⟨rfl,rfl⟩)) hr
  ·have hk:A'.ls[i]? =A.ls[i]? /\M'[i]? =M[i]? :=by
    refine ⟨rT λh=>?_,rT λh=>?_⟩
    ·exact hq ⟨(U.own i (.inl h)).2,.inr (.inl h)⟩
    ·exact hq ⟨(U.own i (.inr h)).2,.inr (.inr h)⟩
   rw [hk.1,hk.2];refine W.rel i hi λb x hx hr mr=>?_
   by_cases hb:b=a
   ·subst hb;rw [ha] at hx;obtain rfl:=dM hx;exact rT λh=>hq ⟨hr,.inl (by simpa using h)⟩
   ·exact hp b x ((f_ ha).2 (.inr ⟨hb,hx⟩)) hr mr
 ·rcases wg hx with ⟨rfl,rfl⟩|⟨hb,hx⟩
  ·exact U.fj
  ·intro r hr;have⟨h1,h2⟩:=W.fj b x hx r hr;rcases U.cost.bo with e|⟨e,_⟩
   ·rw [e];refine ⟨h1,λhw=>?_⟩;have⟨h3,h4⟩:=h2 hw;have⟨u1,u2⟩:=U.awr e;refine ⟨λj rB pL=>?_,λb2 y hy hc=>?_⟩
    ·have hM:M'[j]? =M[j]? :=rT λaW=>by
      have h5:=U.own j (.inr aW);exact h4 a q ha (u2 j aW) (by rw [h5.2];exact ⟨rB,pL⟩)
     intro l hl;rw [hM] at hl;exact h3 j rB pL l hl
    ·rcases wg hy with ⟨rfl,rfl⟩|⟨_,hy⟩
     ·have⟨u3,u4⟩:=u1 hc;rw [u4];exact h4 b2 q ha u3
     ·exact h4 b2 y hy hc
   ·refine ⟨by omega,λhw=>?_⟩;rw [hw] at h1;omega
end
section
variable {N:Nm} {c:Lc} {A A':Ab} {G G':Gr} {cap:Int} {q q' x:Qr} {i j:Nat} {pre rest:List El} {e:El} {P:List Int} {n k k' a au δ:Nat} {rs:List Qr} {M M':List (List El)} {ks:Nat->Nat} {V:View} {b:Bs}
def Nx.fx:Nx->Bool
 |.leave=>true
 |.link=>true
 |.off _=>true
 |.gp _=>true
 |.iD _ _=>true
 |_=>false
def Qr.fx (q:Qr):Bool:=q.dn||q.nx.fx
def Vs (c:Lc)(q':Qr)(S S':Sm)(st:Option (Int×Wd)):Prop:=∀h,h≠c.h->(h∈q'.aB->q'.nx=.link)->S'.V h≠none->S.V h≠none/\val S' h=match st with|some (a,w)=>if h=a then w else val S h|none=>val S h
def elemOf (c:Lc)(h:Int)(w:Wd):Int:=if c.d0=10 then IntKind.i64.wrap w.toNat else h
def yj (c:Lc)(M:List (List El))(ky:Wd):Prop:=∃(i:Nat)(l:List El),bZ ky c.d3=(i:Int)/\M[i]? =some l/\∀e∈l,e.k≠ky
def Has (c:Lc)(M:List (List El))(ky:Wd)(i:Nat)(pre:List El)(e:El)(rest:List El):Prop:=bZ ky c.d3=(i:Int)/\M[i]? =some (pre++e::rest)/\e.k=ky
inductive mW (c:Lc)(q:Qr)(M:List (List El))(S:Sm):Int->List Wd->Wd->Int->Option (Int×Wd)->List (List El)->Prop where
 |none:q.kd≠4->(q.kd=2->q.fl=2)->yj c M q.ky->mW c q M S 2 [] 0 0 none M
 |oq {i:Nat}{pre rest:List El}{e:El}:q.kd=2->q.fl=1->Has c M q.ky i pre e rest->mW c q M S 3 [] 0 0 none M
 |set {i:Nat}{pre rest:List El}{e:El}:q.kd=2->q.fl≠1->Has c M q.ky i pre e rest->mW c q M S 0 [] 0 0 (some (e.h,q.val)) M
 |look {i:Nat}{pre rest:List El}{e:El}:q.kd=1->Has c M q.ky i pre e rest->mW c q M S 0 [val S e.h] 0 (elemOf c e.h (val S e.h)) none M
 |full:q.kd=2->q.fl≠2->yj c M q.ky->c.d1<=(M.flatten.length:Int)->mW c q M S 4 [] 0 0 none M
 |mem:q.kd=2->q.fl≠2->yj c M q.ky->S.room<3->mW c q M S 5 [] 0 0 none M
 |add {i:Nat}{pre rest:List El}{h:Int}{w:Wd}:q.kd=2->q.fl≠2->bZ q.ky c.d3=(i:Int)->M[i]? =some (pre++rest)->(∀e∈pre,e.k.toNat<q.ky.toNat)->(∀e∈rest,q.ky.toNat<e.k.toNat)->(M.flatten.length:Int)<c.d1->
   S.V h=some [w,q.ky,q.val]->h∉M.flatten.map El.h->mW c q M S 0 [] 0 0 none (M.set i (pre++⟨h,q.ky⟩::rest))
 |del {i:Nat}{pre rest:List El}{e:El}:q.kd=3->Has c M q.ky i pre e rest->mW c q M S 0 [] 0 0 none (M.set i (pre++rest))
 |MG {i:Nat}{pre rest:List El}{e:El}:q.kd≠1->q.kd≠2->q.kd≠3->q.kd≠4->Has c M q.ky i pre e rest->mW c q M S 0 [val S e.h] 0 0 none (M.set i (pre++rest))
 |om:q.kd=4->(∀j:Nat,r0 c q<=(j:Int)->j<M.length->Clean c q M j)->mW c q M S 2 [] 0 0 none M
 |next {i:Nat}{pre rest:List El}{e:El}:q.kd=4->r0 c q<=(i:Int)->(∀j:Nat,r0 c q<=(j:Int)->j<i->Clean c q M j)->M[i]? =some (pre++e::rest)->ns (kb c q i).1 (kb c q i).2 e->(∀e∈pre,¬ns (kb c q i).1 (kb c q i).2 e)->mW c q M S 0 [] e.k 0 none M
def Dp (A:Ab)(q:Qr):Prop:=(∃(t:Tk)(th:Th)(i:Nat),q.nx=.enter t th/\t.ph=1/\q.room=(i:Int)/\A.sv i≠t.t)∨(q.nx=.space/\¬(A.ay&&&bD).toNat<N.E/\A.ay>>>32≠0)
structure Stp (N:Nm)(c:Lc)(cap:Int)(au:Nat)(A:Ab)(G:Gr)(rs:List Qr)(ks:Nat->Nat)(M:List (List El))(a:Nat)(q q':Qr)(G':Gr)(A':Ab)(M':List (List El))(k' δ:Nat)(st:Option (Int×Wd)):Prop where
 dt:gX N c cap au A G rs M a q q' A' G' M' k' δ
 CY:Vs c q' G.S G'.S st
 aj:(q'.aj=true/\mW c q M G.S q'.no q'.rv q'.rk q'.el st M')∨(q'.aj=false/\M'=M/\st=none/\q'.no=q.no/\q'.rv=q.rv/\q'.rk=q.rk/\q'.el=q.el)
 one:q'.fx=(q.fx||q'.aj)/\(q.fx=true->q'.aj=false)
 ur:k'+N.n*δ<ks a∨(Dp (N:=N) A q/\k'=ks a/\δ=0/\A'.sv=A.sv/\A'.ay=A.ay/\q'.nx=q.nx/\q'.room=q.room)
 ins:G'.ins=G.ins
 qI:q'.kd=q.kd/\q'.ky=q.ky/\q'.fl=q.fl/\q'.val=q.val
theorem World.Ya (W:World N c cap au A G rs ks M)(ha:rs[a]? =some q)(e1:A'.tk=A.tk)(e2:A'.sv=A.sv)(dZ:∀i:Nat,q'.dh=true/\q'.room=(i:Int)↔q.dh=true/\q.room=(i:Int))
  (hh:q'.dh=true->(q'.holds=true->q.holds=true)/\∀t th,q'.nx=.enter t th->t.ph=1->∃HV,q.nx=.enter t HV):∀i,i<A.ls.length->∃Q,me A' (rs.set a q') i Q/\Q.length<=au+1:=λi hi=>by
 have⟨Q,hQ,hl⟩:=W.pR i hi
 exact ⟨Q,hQ.iy ha (by rw [e1]) (by rw [e2]) (dZ i) λh _=>hh h,by omega⟩
theorem World.lG (W:World N c cap au A G rs ks M)(ha:rs[a]? =some q)(e1:A'.tk=A.tk)(e2:A'.sv=A.sv)(h1:q.holds=true)(h2:q'.holds=true)(hr:q'.room=q.room)(hn:∀t th,q'.nx≠.enter t th):∀i,i<A.ls.length->∃Q,me A' (rs.set a q') i Q/\Q.length<=au+1:=
 W.Ya ha e1 e2 (λi=>by rw [Am h1,Am h2,hr]) λ_=>⟨λ_=>h1,λt th h _=>absurd h (hn t th)⟩
theorem World.Rv (W:World N c cap au A G rs ks M)(ha:rs[a]? =some q)(e1:A'.tk=A.tk)(e2:A'.sv=A.sv)(h1:q.dh=false)(h2:q'.dh=false):∀i,i<A.ls.length->∃Q,me A' (rs.set a q') i Q/\Q.length<=au+1:=
 W.Ya ha e1 e2 (λi=>by rw [h1,h2];simp) λh=>by rw [h2] at h;cases h
theorem World.awA (W:World N c cap au A G rs ks M)(ha:rs[a]? =some q){r:Nat}{t:Tk}{th:Th}(hr:r<A.ls.length)(h0:q.dh=false)(h1:q'.room=(r:Int))(hn:q'.nx=.enter t th)(hp:t.ph=1)(ht:t.t=A.tk r) :
  ∀i,i<A.ls.length->∃Q,me (drawn A r) (rs.set a q') i Q/\Q.length<=au+1:=λi hi=>by
 have⟨Q,hQ,hl⟩:=W.pR i hi
 by_cases e:i=r
 ·subst e
  refine ⟨Q++[a],hQ.draw ha h0 h1 hn hp ht ?_ rfl,by simp;omega⟩
  show (if i=i then _ else _)=_
  rw [ar rfl]
 ·refine ⟨Q,hQ.iy ha ?_ rfl ?_ λ_ h=>?_,by omega⟩
  ·show (if i=r then _ else _)=_
   rw [an e]
  ·rw [h0,h1]
   constructor
   ·rintro ⟨_,h⟩;omega
   ·rintro ⟨h,_⟩;cases h
  ·rw [h1] at h;omega
theorem World.awB (W:World N c cap au A G rs ks M)(ha:rs[a]? =some q){r:Nat}{t:Tk}{th:Th}(hr:q.room=(r:Int))(hn:q.nx=.enter t th)(hp:t.ph=1)(ht:A.sv r=t.t)(h1:q'.room=q.room)(h2:q'.holds=true)(h3:∀t th,q'.nx≠.enter t th) :
  ∀i,i<A.ls.length->∃Q,me A (rs.set a q') i Q/\Q.length<=au+1:=λi hi=>by
 have⟨Q,hQ,hl⟩:=W.pR i hi;have hq:q.dh=true:=by unfold Qr.dh;rw [hn];simp [Nx.waits,hp]
 by_cases e:i=r
 ·subst e;exact ⟨Q,hQ.gO (by have:=W.tm.2.2;omega) ha hr hn hp ht.symm rfl rfl (h1.trans hr) (Am h2) h3,by omega⟩
 ·refine ⟨Q,hQ.iy ha rfl rfl ?_ λ_ h=>?_,by omega⟩
  ·rw [h1,Am h2,hq]
  ·rw [h1,hr] at h;omega
theorem World.X_ (W:World N c cap au A G rs ks M)(ha:rs[a]? =some q){r:Nat}(hr:q.room=(r:Int))(hh:q.holds=true)(h0:q'.dh=false) :
  ∀i,i<A.ls.length->∃Q,me (Gp A r) (rs.set a q') i Q/\Q.length<=au+1:=λi hi=>by
 have⟨Q,hQ,hl⟩:=W.pR i hi
 by_cases e:i=r
 ·subst e
  have⟨Q',ct,hQ'⟩:=hQ.drop (A':=Gp A i) ha hr hh h0 rfl (by show (if i=i then _ else _)=_;rw [ar rfl])
  exact ⟨Q',hQ',by omega⟩
 ·refine ⟨Q,hQ.iy ha rfl ?_ ?_ λh=>?_,by omega⟩
  ·show (if i=r then _ else _)=_
   rw [an e]
  ·rw [h0,hr]
   constructor
   ·rintro ⟨h,_⟩;cases h
   ·rintro ⟨_,h⟩;omega
  ·rw [h0] at h;cases h
theorem gX.same (W:World N c cap au A G rs ks M)(ha:rs[a]? =some q)(hm:Mem c cap A' (q'.aB++cT rs a) G')(e1:A'.ls=A.ls)(e2:A'.ay=A.ay)(e3:A'.bo=A.bo)(e4:A'.mb<=A.mb+1)(pR:∀i,i<A.ls.length->∃Q,me A' (rs.set a q') i Q/\Q.length<=au+1)
  (hV:∀h∈cT rs a,G'.S.V h=G.S.V h)(hf:Fact N c A' M G'.S.V q' k')(hi:q'.nx.hi=q.nx.hi)(ho:q'.nx.kG=q.nx.kG)(hp:q.nx.nD=true->q'.nx.nD=true/\q'.room=q.room/\q'.dn=false)(hc:q'.ie=true->q.ie=true/\q'.room=q.room)(hn:vI c N.B A' (rs.set a q') M q') :
  gX N c cap au A G rs M a q q' A' G' M k' 0:=by
 have s1:=MD (q':=q') (λq=>q.nx.kG) ha;have s2:=MD (q':=q') (λq=>q.nx.hi) ha;simp only [ho] at s1;simp only [hi] at s2;have qH:((rs.set a q').map (·.nx.kG)).sum=(rs.map (·.nx.kG)).sum:=by omega
 have Mi:((rs.set a q').map (·.nx.hi)).sum=(rs.map (·.nx.hi)).sum:=by omega
 refine ⟨hm,by rw [e1],rfl,⟨by have:=W.tm;omega,by rw [e3];have:=W.tm;omega⟩,pR,λj h=>?_,hV,hf,⟨.inl e3,.inl rfl,.inl (by rw [e2])⟩,by rw [qH,Mi,e2];exact W.ay,by rw [qH];exact W.le,λi _ hr h=>?_,W.iO,λ_=>⟨hc,λj h=>absurd rfl h⟩,hn⟩
 ·rcases h with h|h
  ·exact absurd (by rw [e1]) h
  ·exact absurd rfl h
 ·intro h2;rcases h with h|h|h
  ·have⟨h3,h4,h5⟩:=hp h;rw [h2 (h4.trans hr) h5] at h3;cases h3
  ·exact absurd (by rw [e1]) h
  ·exact absurd rfl h
theorem js (h:q'.scan N.B=none):vI c N.B A rs M q':=λr hr=>by rw [h] at hr;cases hr
theorem Vs.same {S S':Sm}(h:∀h,S'.V h=S.V h):Vs c q' S S' none:=λh0 _ _ h3=>⟨by rw [h] at h3;exact h3,by show val S' h0=val S h0;unfold val;rw [h]⟩
theorem Vs.own {S S':Sm}(h:∀h,h≠c.h->S'.V h=S.V h):Vs c q' S S' none:=λh0 h1 _ h3=>⟨by rw [h _ h1] at h3;exact h3,by show val S' h0=val S h0;unfold val;rw [h _ h1]⟩
theorem World.wy (W:World N c cap au A G rs ks M)(ha:rs[a]? =some q){h:Int}(hh:h∈cT rs a):h≠c.h:=
 (W.jN ha).bk.xL (iZ _ (mE _ (mE _ hh)))
end
section
variable {N:Nm} {c:Lc} {A A':Ab} {G G':Gr} {cap:Int} {q q' x:Qr} {i j:Nat} {pre rest:List El} {e:El} {P:List Int} {n k k' a au δ:Nat} {rs:List Qr} {M M':List (List El)} {ks:Nat->Nat} {V:View} {b:Bs}
theorem vO {S:Sm}{h a i:Int}{may:Bool}{f:Wd->Wd}(hn:h≠a):(S.acc a i may f).2.V h=S.V h:=by
 unfold Sm.acc;split
 ·rename_i r hr;split
  ·show (Sm.dt S.ay a i.toNat _).V h=S.V h;unfold Sm.V;rw [U8];show Option.map bz.ws (Option.map _ (S.find h))=_;cases hf:S.find h with
   |none=>rfl
   |some r2=>
    have hr:r2.h=h:=(Gk hf).2;simp only [fa,bc];rw [an (by rw [hr];exact hn)]
  ·rfl
 ·rfl
theorem vN {S:Sm}{a i:Int}:∀h,(S.acc a i true id).2.V h=S.V h:=by
 intro h;by_cases hn:h=a
 ·subst hn;unfold Sm.acc;split
  ·rename_i r hr;split
   ·rename_i hb;show (Sm.dt S.ay h i.toNat _).V h=S.V h;unfold Sm.V;rw [U8];show Option.map bz.ws (Option.map _ (S.find h))=_;rw [hr];have hrh:r.h=h:=(Gk hr).2;simp only [fa,bc,hrh,pc,id];refine x9 λk=>?_
    rw [mD];by_cases e:i.toNat=k
    ·subst e;have aE:i.toNat<r.ws.length:=by omega
     rw [ar rfl,ar aE,cM aE,gu,cM aE];rfl
    ·rw [an e]
   ·rfl
  ·rfl
 ·exact vO hn
abbrev j4 (N:Nm)(c:Lc)(cap:Int)(au:Nat)(A:Ab)(G:Gr)(rs:List Qr)(ks:Nat->Nat)(M:List (List El))(a:Nat)(q:Qr)(r:Qr×Gr):Prop:=∃A' M' k' δ st,Stp N c cap au A G rs ks M a q r.1 r.2 A' M' k' δ st
theorem step_eq (hd:q.dn=false):q.step c G b=cd c q.nx {q with aj:=false} G b:=by
 unfold Qr.step;rw [an (by rw [hd];exact jY)]
theorem aK {yX:Nx}(hd:q.dn=false)(hn:q.nx=yX):q.step c G b=cd c yX {q with aj:=false} G b:=by
 subst hn;exact step_eq hd
theorem holds_of (hd:q.dn=false):q.holds=q.nx.holds:=by unfold Qr.holds;rw [hd];simp
theorem vI.iy {B:Nat}(h:vI c B A rs M q)(ha:rs[a]? =some q)(hs:∀r,q'.scan B=some r->q.scan B=some r)(h1:q'.fl=q.fl)(h2:q'.ky=q.ky)(h3:q'.bg=q.bg)(hc:A'.bo=A.bo)(nq:q'.ie=true->q.ie=true/\q'.room=q.room):vI c B A' (rs.set a q') M q':=by
 intro r hr;have⟨g1,g2⟩:=h r (hs r hr);have e0:r0 c q'=r0 c q:=by unfold r0;rw [h1,h2]
 have ek:∀j,kb c q' j=kb c q j:=λj=>by unfold kb;rw [h1,h2]
 rw [h3,hc,e0];refine ⟨g1,λhw=>?_⟩;have⟨g3,g4⟩:=g2 hw;refine ⟨λj rB pL l hl e he=>?_,λb2 y hy hc=>?_⟩
 ·rw [ek];exact g3 j rB pL l hl e he
 ·rcases (f_ ha).1 hy with ⟨rfl,rfl⟩|⟨_,hy⟩
  ·have⟨u3,u4⟩:=nq hc;rw [u4];exact g4 b2 q ha u3
  ·exact g4 b2 y hy hc
def Nx.rd:Nx->Bool
 |.th _=>true
 |.load _ _ _=>true
 |.ask _ _ _=>true
 |_=>false
def Nx.Rw:Nx->Bool
 |.load _ _ _=>true
 |.ask _ _ _=>true
 |.kZ=>true
 |.free _=>true
 |.leave=>true
 |.set=>true
 |.space=>true
 |.look=>true
 |.drop=>true
 |.take=>true
 |_=>false
theorem Ma {n:Nx}{m:Int}(h:n.rd=true):n.holds=true/\n.lv=false/\n.hi=0/\n.kG=0/\n.nD=false/\n.fx=false/\n.ie m=false/\n.aB m=[]:=by
 cases n<;>first|exact ⟨rfl,rfl,rfl,rfl,rfl,rfl,rfl,rfl⟩|exact Bool.noConfusion h
theorem awK {n:Nx}(h:n.Rw=true):n.holds=true/\n.hi=0/\n.kG=0/\n.ie 0=false/\n.aB 0=[]/\∀t th,n≠.enter t th:=by
 cases n<;>first|exact ⟨rfl,rfl,rfl,rfl,rfl,λ_ _ h=>by cases h⟩|exact Bool.noConfusion h
structure Wk (N:Nm)(c:Lc)(A:Ab)(G:Gr)(rs:List Qr)(ks:Nat->Nat)(M:List (List El))(a:Nat)(q q':Qr)(k':Nat):Prop where
 rd:q'.nx.Rw=true
 dn:q'.dn=false
 made:q'.made=0
 room:q'.room=q.room
 qI:q'.kd=q.kd/\q'.ky=q.ky/\q'.fl=q.fl/\q'.val=q.val
 fact:Fact N c A M G.S.V q' k'
 lt:k'<ks a
 fj:vI c N.B A (rs.set a q') M q'
 aj:(q'.aj=true/\q'.nx=.leave/\mW c q M G.S q'.no q'.rv q'.rk q'.el none M)∨(q'.aj=false/\q'.nx.fx=false/\q'.no=q.no/\q'.rv=q.rv/\q'.rk=q.rk/\q'.el=q.el)
theorem RZ (W:World N c cap au A G rs ks M)(ha:rs[a]? =some q)(hd:q.dn=false)(hr:q.nx.rd=true)(hm:Mem c cap A (cT rs a) G')(hV:∀h,G'.S.V h=G.S.V h)(hi:G'.ins=G.ins)(K:Wk N c A G rs ks M a q q' k'):j4 N c cap au A G rs ks M a q (q',G'):=by
 have⟨r1,r2,r3,r4,r5,r6,r7,r8⟩:=Ma (m:=q.made) hr;have⟨t1,t2,t3,t4,t5,t6⟩:=awK K.rd;have hh:q.holds=true:=by rw [holds_of hd];exact r1
 have Km:q'.holds=true:=by rw [holds_of K.dn];exact t1
 have hc':q'.ie=false:=by unfold Qr.ie;rw [K.made];exact t4
 have Ql:q'.aB=[]:=by unfold Qr.aB;rw [K.made];exact t5
 have eV:G'.S.V=G.S.V:=funext hV;refine ⟨A,M,k',0,none,?_,Vs.same hV,?_,?_,.inl (by have:=K.lt;omega),hi,K.qI⟩
 ·refine gX.same W ha (by rw [Ql];exact hm) rfl rfl rfl (by omega) (W.lG ha rfl rfl hh Km K.room t6) (λh _=>hV h) ?_ (by rw [t2,r3]) (by rw [t3,r4]) (λh=>by rw [r5] at h;cases h) (λh=>by rw [hc'] at h;cases h) K.fj;show Fact N c A M G'.S.V q' k';rw [eV];exact K.fact
 ·rcases K.aj with ⟨e1,_,e2⟩|⟨e1,_,e2⟩
  ·exact .inl ⟨e1,e2⟩
  ·exact .inr ⟨e1,rfl,rfl,e2⟩
 ·have hq:q.fx=false:=by unfold Qr.fx;rw [hd,r6];rfl
  refine ⟨?_,λh=>by rw [hq] at h;cases h⟩;rw [hq];unfold Qr.fx;rw [K.dn];rcases K.aj with ⟨e1,e2,_⟩|⟨e1,e2,_⟩<;>rw [e1,e2]<;>rfl
theorem World.u5 (W:World N c cap au A G rs ks M)(ha:rs[a]? =some q)(hh:q.holds=true)(hp:q.nx.nD=false)(hr:q.room=(i:Int))(hi:i<A.ls.length):M[i]? =A.ls[i]? :=by
 refine W.rel i hi λb2 x hx hxr _=>rT λaW=>?_
 have aW:x.nx.nD=true:=by simpa using aW
 have⟨h1,h2⟩:=awt aW;have WY:x.holds=true:=by unfold Qr.holds;rw [h1,h2];simp
 have⟨Q,hQ,_⟩:=W.pR i hi;have e:=hQ.one hx ha WY hh hxr hr;subst e;rw [ha] at hx;obtain rfl:=dM hx;rw [hp] at aW;cases aW
theorem World.QS (W:World N c cap au A G rs ks M){l:List El}(hl:M[i]? =some l):l.length<=N.E:=by
 have h1:=W.le;have h2:l.length<=M.flatten.length:=by
  have h2:M.flatten=_:=Gl hl;rw [h2];simp only [e_];omega
 omega
theorem vI.next {r:Int}(W:World N c cap au A G rs ks M)(ha:rs[a]? =some q)(hh:q.holds=true)(hr:q.room=(i:Int))(hi:i<A.ls.length)(hs:q.scan N.B=some (i:Int))(kf:q'.scan N.B=some r)(er:r=(i:Int)+1)(h1:q'.fl=q.fl)(h2:q'.ky=q.ky)(h3:q'.bg=q.bg)(nq:q'.ie=false)(hc:Clean c q M i):vI c N.B A (rs.set a q') M q':=by
 intro r' qC;rw [kf] at qC;obtain rfl:=dM qC;have⟨g1,g2⟩:=W.fj a q ha _ hs;have e0:r0 c q'=r0 c q:=by unfold r0;rw [h1,h2]
 have ek:∀j,kb c q' j=kb c q j:=λj=>by unfold kb;rw [h1,h2]
 rw [h3,e0,er];refine ⟨g1,λhw=>?_⟩;have⟨g3,g4⟩:=g2 hw;refine ⟨λj rB pL l hl e he=>?_,λb2 y hy QC=>?_⟩
 ·rw [ek];by_cases ej:j=i
  ·subst ej;exact hc l hl e he
  ·exact g3 j rB (by omega) l hl e he
 ·rcases (f_ ha).1 hy with ⟨rfl,rfl⟩|⟨hb,hy⟩
  ·rw [nq] at QC;cases QC
  ·intro hx;by_cases ex:y.room=(i:Int)
   ·have⟨c1,c2⟩:=aqm QC;have hyh:y.holds=true:=by unfold Qr.holds;rw [c1,c2];simp
    have⟨Q,hQ,_⟩:=W.pR i hi;exact hb (hQ.one hy ha hyh hh ex hr)
   ·exact g4 b2 y hy QC ⟨hx.1,by omega⟩
structure Kp (q q':Qr):Prop where
 kd:q'.kd=q.kd
 ky:q'.ky=q.ky
 fl:q'.fl=q.fl
 val:q'.val=q.val
 bg:q'.bg=q.bg
 made:q'.made=q.made
 room:q'.room=q.room
 dn:q'.dn=false
 aj:q'.aj=false
 no:q'.no=q.no
 rv:q'.rv=q.rv
 rk:q'.rk=q.rk
 el:q'.el=q.el
theorem Kp.trans {q2:Qr}(h:Kp q q')(h2:Kp q' q2):Kp q q2:=
 ⟨h2.kd.trans h.kd,h2.ky.trans h.ky,h2.fl.trans h.fl,h2.val.trans h.val,h2.bg.trans h.bg,h2.made.trans h.made,h2.room.trans h.room,h2.dn,h2.aj,h2.no.trans h.no,h2.rv.trans h.rv,h2.rk.trans h.rk,h2.el.trans h.el⟩
theorem aCE {x y:Wd}(h:x.toNat=y.toNat):x=y:=tf h
theorem aCG {q1:Qr}{there:Bool}(W:World N c cap au A G rs ks M)(ha:rs[a]? =some q)(hd:q.dn=false)(hr:q.nx.rd=true)(rC:q.made=0)(K:Kp q q1)(I:In c A i q1 pre rest)(hu:q1.cur=UG rest)
  (mN:q.kd≠4)(hb:bZ q.ky c.d3=(i:Int))(kT:∀e∈pre,¬ns q.ky false e)(ht:there=true->∃e r,rest=e::r/\ns q.ky false e/\q1.key=e.k)(hf:there=false->rest=[])(aE:N.op<ks a) :
  Wk N c A G rs ks M a q (q1.found (there&&decide (q1.key=q1.ky))) N.op:=by
 have⟨r1,r2,r3,r4,r5,r6,r7,r8⟩:=Ma (m:=q.made) hr;have hh:q.holds=true:=by rw [holds_of hd];exact r1
 have hM:M[i]? =some (pre++rest):=by rw [W.u5 ha hh r5 (K.room.symm.trans I.room) I.lt];exact I.ls
 have KE:=W.iO i _ hM;have pM:=Is.1 KE.1;have agR:∀e∈pre,e.k.toNat<q.ky.toNat:=λe he=>by
  have:=kT e he
  unfold ns at this;have h1:¬q.ky.toNat<e.k.toNat:=λh=>this (.inl h)
  have h2:¬e.k.toNat=q.ky.toNat:=λh=>this (.inr ⟨aCE h,rfl⟩)
  omega
 have gk:q1.made=0:=K.made.trans rC;have yX:∀{q':Qr},q'.scan N.B=none->vI c N.B A (rs.set a q') M q':=λh=>js h
 have E2:∀{q':Qr},q'.dn=false->q'.nx.scan N.B q'.room=Option.none->q'.scan N.B=Option.none:=λh1 h2=>by unfold Qr.scan;rw [h1];exact h2
 have hlen:=W.QS hM;unfold Qr.found;cases KG:there&&decide (q1.key=q1.ky) with
 |true=>
  simp only [jX,gf] at KG;obtain ⟨e,r,rfl,GJ,nY⟩:=ht KG.1;have ek:e.k=q.ky:=by rw [<-nY,KG.2,K.ky]
  have atd:Has c M q.ky i pre e r:=⟨hb,hM,ek⟩;have cX:∀{q':Qr},q'.room=q1.room->q'.ah=q1.ah->q'.ai=q1.ai->q'.cur=q1.cur->q'.ky=q1.ky->qW c A i q':=λe1 e2 e3 e4 e5=>⟨pre,e,r,I.same e1 e2 e3,e4.trans hu,by rw [ek,e5,K.ky],by rw [e5,K.ky];exact hb⟩
  by_cases e1:q1.kd=2/\True/\q1.fl=1
  ·rw [ar (by simpa using e1)];exact ⟨rfl,K.dn,gk,K.room,⟨K.kd,K.ky,K.fl,K.val⟩,.inr ⟨i,I.room,I.lt,by unfold Nm.op;omega⟩,aE,yX (E2 K.dn rfl),.inl ⟨rfl,rfl,.oq (K.kd.symm.trans e1.1) (K.fl.symm.trans e1.2.2) atd⟩⟩
  ·rw [an (by simpa using e1)];by_cases e2:q1.kd=2
   ·rw [ar ⟨e2,rfl⟩];have mM:q1.fl≠1:=λh=>e1 ⟨e2,trivial,h⟩
    exact ⟨rfl,K.dn,gk,K.room,⟨K.kd,K.ky,K.fl,K.val⟩,.inr ⟨i,cX rfl rfl rfl rfl rfl,e2,mM,by unfold Nm.op;omega⟩,aE,yX (E2 K.dn rfl),.inr ⟨K.aj,rfl,K.no,K.rv,K.rk,K.el⟩⟩
   ·rw [an (λh=>e2 h.1),an (λh=>e2 h.1),an (by simp)];by_cases e3:q1.kd=1
    ·rw [ar e3];exact ⟨rfl,K.dn,gk,K.room,⟨K.kd,K.ky,K.fl,K.val⟩,.inr ⟨i,cX rfl rfl rfl rfl rfl,e3,by unfold Nm.op;omega⟩,aE,yX (E2 K.dn rfl),.inr ⟨K.aj,rfl,K.no,K.rv,K.rk,K.el⟩⟩
    ·rw [an e3];by_cases e4:q1.kd=3
     ·rw [ar e4];exact ⟨rfl,K.dn,gk,K.room,⟨K.kd,K.ky,K.fl,K.val⟩,.inr ⟨i,cX rfl rfl rfl rfl rfl,e4,by unfold Nm.op;omega⟩,aE,yX (E2 K.dn rfl),.inr ⟨K.aj,rfl,K.no,K.rv,K.rk,K.el⟩⟩
     ·rw [an e4];exact ⟨rfl,K.dn,gk,K.room,⟨K.kd,K.ky,K.fl,K.val⟩,.inr ⟨i,cX rfl rfl rfl rfl rfl,e3,e2,e4,by rw [<-K.kd] at mN;exact mN,by unfold Nm.op;omega⟩,aE,yX (E2 K.dn rfl),.inr ⟨K.aj,rfl,K.no,K.rv,K.rk,K.el⟩⟩
 |false=>
  have yQ:∀e∈rest,q.ky.toNat<e.k.toNat:=by
   cases Ao:there with
   |false=>rw [hf Ao];simp
   |true=>
    obtain ⟨e,r,rfl,GJ,nY⟩:=ht Ao;rw [Ao] at KG;have aW:¬e.k=q.ky:=λh=>by
     have h2:q1.key=q1.ky:=by rw [nY,h,K.ky]
     simp [h2] at KG
    have h1:q.ky.toNat<e.k.toNat:=by
     rcases GJ with h|h
     ·exact h
     ·exact absurd h.1 aW
    intro x hx;rcases dU.1 hx with rfl|hx
    ·exact h1
    ·have:=(Bf.1 pM.2.1).1 x hx
     omega
  have GM:yj c M q.ky:=⟨i,pre++rest,hb,hM,λe he h=>by
   rcases dV.1 he with he|he
   ·have:=agR e he;rw [h] at this;omega
   ·have:=yQ e he;rw [h] at this;omega⟩
  rw [an (by simp),an (by simp)];by_cases e1:q1.kd=2/\q1.fl≠2
  ·rw [ar e1];have hg:vF c A i (q1.to .space):=⟨pre,rest,I.same rfl rfl rfl,by show BitVec.ofInt 64 q1.cur=_;rw [hu];cases rest<;>rfl,by show ∀e∈pre,_<q1.ky.toNat;rw [K.ky];exact agR,by show ∀e∈rest,q1.ky.toNat<_;rw [K.ky];exact yQ,by show bZ q1.ky c.d3=_;rw [K.ky];exact hb,e1.1,e1.2⟩;exact ⟨rfl,K.dn,gk,K.room,⟨K.kd,K.ky,K.fl,K.val⟩,.inr ⟨i,.inl ⟨gk,by unfold Nm.op;omega⟩,hg⟩,aE,yX (E2 K.dn rfl),.inr ⟨K.aj,rfl,K.no,K.rv,K.rk,K.el⟩⟩
  ·rw [an e1,ar rfl];exact ⟨rfl,K.dn,gk,K.room,⟨K.kd,K.ky,K.fl,K.val⟩,.inr ⟨i,I.room,I.lt,by unfold Nm.op;omega⟩,aE,yX (E2 K.dn rfl),.inl ⟨rfl,rfl,.none mN (λh=>rT λh2=>e1 ⟨K.kd.trans h,by rw [K.fl];exact h2⟩) GM⟩⟩
end
section
variable {N:Nm} {c:Lc} {A A':Ab} {G G':Gr} {cap:Int} {q q' x:Qr} {i j:Nat} {pre rest:List El} {e:El} {P:List Int} {n k k' a au δ:Nat} {rs:List Qr} {M M':List (List El)} {ks:Nat->Nat} {V:View} {b:Bs}
theorem Zd (K:Kp q q'):q'.same A=q.same A:=by unfold Qr.same;rw [K.bg]
theorem QL (K:Kp q q')(i:Nat):kb c q' i=kb c q i:=by unfold kb;rw [K.fl,K.ky]
theorem Ye (K:Kp q q'):r0 c q'=r0 c q:=by unfold r0;rw [K.fl,K.ky]
theorem aCH {q1:Qr}{there:Bool}(W:World N c cap au A G rs ks M)(ha:rs[a]? =some q)(hd:q.dn=false)(hr:q.nx.rd=true)(rC:q.made=0)(K:Kp q q1)(I:In c A i q1 pre rest)(hu:q1.cur=UG rest)
  (mN:q.kd=4)(hb:r0 c q<=(i:Int))(sG:q.scan N.B=some (i:Int))(kT:∀e∈pre,¬ns (kb c q i).1 (kb c q i).2 e)(ht:there=true->∃e r,rest=e::r/\ns (kb c q i).1 (kb c q i).2 e/\q1.key=e.k)(hf:there=false->rest=[])(aE:1+sc N M (i+1) (q.same A)<ks a) :
  Wk N c A G rs ks M a q (q1.cb (.next (i:Int)) there) (1+sc N M (i+1) (q.same A)):=by
 have⟨r1,r2,r3,r4,r5,r6,r7,r8⟩:=Ma (m:=q.made) hr;have hh:q.holds=true:=by rw [holds_of hd];exact r1
 have hM:M[i]? =some (pre++rest):=by rw [W.u5 ha hh r5 (K.room.symm.trans I.room) I.lt];exact I.ls
 have gk:q1.made=0:=K.made.trans rC;cases there with
 |true=>
  obtain ⟨e,r,rfl,GJ,nY⟩:=ht rfl;have hs:(q1.to .kZ).scan N.B=some (i:Int):=by unfold Qr.scan;show (if q1.dn then _ else some q1.room)=_;rw [K.dn,I.room];rfl
  refine ⟨rfl,K.dn,gk,K.room,⟨K.kd,K.ky,K.fl,K.val⟩,.inr ⟨i,K.kd.trans mN,gk,by show r0 c q1<=_;rw [Ye K];exact hb,⟨pre,e,r,I.same rfl rfl rfl,nY,?_,?_⟩,?_⟩,aE,?_,.inr ⟨K.aj,rfl,K.no,K.rv,K.rk,K.el⟩⟩
  ·show ns (kb c q1 i).1 (kb c q1 i).2 e;rw [QL K];exact GJ
  ·show ∀e∈pre,¬ns (kb c q1 i).1 (kb c q1 i).2 e;rw [QL K];exact kT
  ·show 6+(if q1.same A then 0 else N.sz)<=_;rw [Zd K];unfold sc;omega
  ·refine (W.fj a q ha).iy ha (λr hr=>?_) K.fl K.ky K.bg rfl (λh=>by cases h);have hr:(q1.to .kZ).scan N.B=some r:=hr;rw [hs] at hr;rw [sG];exact hr
 |false=>
  have yQ:=hf rfl;subst yQ;have hs:(q1.to (.free (i:Int))).scan N.B=some ((i:Int)+1):=by unfold Qr.scan;show (if q1.dn then _ else some _)=_;rw [K.dn];rfl
  refine ⟨rfl,K.dn,gk,K.room,⟨K.kd,K.ky,K.fl,K.val⟩,.inr ⟨i,K.kd.trans mN,rfl,I.room,I.lt,gk,by show r0 c q1<=_;rw [Ye K];exact hb,?_⟩,aE,?_,.inr ⟨K.aj,rfl,K.no,K.rv,K.rk,K.el⟩⟩
  ·show 1+sc N M (i+1) (q1.same A)<=_;rw [Zd K];exact bq _
  ·refine vI.next W ha hh (K.room.symm.trans I.room) I.lt sG hs rfl K.fl K.ky K.bg rfl λl hl e he=>?_
   rw [hM] at hl;obtain rfl:=dM hl;rw [C7] at he;exact kT e he
theorem Bl.kp {kk:Wd}{bh:Bool}{cb:Cb}(h:Bl c i q kk bh cb)(K:Kp q q'):Bl c i q' kk bh cb:=by
 cases cb with
 |find=>exact ⟨by rw [K.kd];exact h.1,by rw [K.ky];exact h.2.1,by rw [K.ky];exact h.2.2.1,h.2.2.2⟩
 |next room=>exact ⟨by rw [K.kd];exact h.1,h.2.1,by rw [Ye K];exact h.2.2.1,by rw [QL K];exact h.2.2.2.1,by rw [QL K];exact h.2.2.2.2⟩
theorem aaN {cb:Cb}(K:Kp q q'):pj N A M i q' cb=pj N A M i q cb:=by
 cases cb with
 |find=>rfl
 |next room=>show 1+sc N M (i+1) (q'.same A)=_;rw [Zd K];rfl
def Cb.sc:Cb->Option Int
 |.find=>Option.none
 |.next r=>some r
theorem al_ {q1:Qr}{kk:Wd}{bh:Bool}{cb:Cb}{there:Bool}(W:World N c cap au A G rs ks M)(ha:rs[a]? =some q)(hd:q.dn=false)(hr:q.nx.rd=true)(rC:q.made=0)(K:Kp q q1)(I:In c A i q1 pre rest)(hu:q1.cur=UG rest)
  (Kc:Bl c i q kk bh cb)(sG:q.scan N.B=cb.sc)(kT:∀e∈pre,¬ns kk bh e)(ht:there=true->∃e r,rest=e::r/\ns kk bh e/\q1.key=e.k)(hf:there=false->rest=[])(aE:pj N A M i q cb<ks a) :
  Wk N c A G rs ks M a q (q1.cb cb there) (pj N A M i q cb):=by
 cases cb with
 |find=>
  obtain ⟨h1,h2,rfl,rfl⟩:=Kc;exact aCG W ha hd hr rC K I hu h1 h2 kT ht hf aE
 |next room=>
  obtain ⟨h1,rfl,h3,rfl,rfl⟩:=Kc;exact aCH W ha hd hr rC K I hu h1 h3 sG kT ht hf aE
theorem ama {q1:Qr}{kk:Wd}{bh:Bool}{cb:Cb}(W:World N c cap au A G rs ks M)(ha:rs[a]? =some q)(hd:q.dn=false)(hr:q.nx.rd=true)(rC:q.made=0)(K:Kp q q1)(I:In c A i q1 pre rest)
  (Kc:Bl c i q kk bh cb)(sG:q.scan N.B=cb.sc)(kT:∀e∈pre,¬ns kk bh e)(aE:2*rest.length+pj N A M i q cb<ks a):∃k',Wk N c A G rs ks M a q (q1.di (first rest) kk bh cb) k':=by
 have ee:=(RI W.mem I kk bh cb).2.2;rw [ee];clear ee;cases rest with
 |nil=>exact ⟨_,al_ (pre:=pre) (rest:=[]) (q1:=({q1 with cur:=0}:Qr).to (.ask kk bh cb)) W ha hd hr rC (K.trans ⟨rfl,rfl,rfl,rfl,rfl,rfl,rfl,K.dn,K.aj,rfl,rfl,rfl,rfl⟩) (I.same rfl rfl rfl) rfl Kc sG kT (λh=>by cases h) (λ_=>rfl) (by simp at aE;exact aE)⟩
 |cons e r=>
  refine ⟨2*(e::r).length+pj N A M i q cb,rfl,K.dn,K.made.trans rC,K.room,⟨K.kd,K.ky,K.fl,K.val⟩,.inr ⟨i,K.made.trans rC,Kc.kp (K.trans ⟨rfl,rfl,rfl,rfl,rfl,rfl,rfl,K.dn,K.aj,rfl,rfl,rfl,rfl⟩),pre,e,r,I.same rfl rfl rfl,rfl,kT,?_⟩,aE,?_,.inr ⟨K.aj,rfl,K.no,K.rv,K.rk,K.el⟩⟩
  ·have:pj N A M i (({q1 with cur:=e.h}:Qr).to (.ask kk bh cb)) cb=pj N A M i q cb:=aaN (K.trans ⟨rfl,rfl,rfl,rfl,rfl,rfl,rfl,K.dn,K.aj,rfl,rfl,rfl,rfl⟩)
   show 2+2*r.length+pj N A M i (({q1 with cur:=e.h}:Qr).to (.ask kk bh cb)) cb<=_;rw [this,gU];omega
  ·refine (W.fj a q ha).iy ha (λr hr=>?_) K.fl K.ky K.bg rfl (λh=>by cases h);rw [sG];have hr:(if q1.dn=true then Option.none else (Nx.ask kk bh cb).scan N.B q1.room)=some r:=hr;rw [K.dn] at hr;cases cb<;>exact hr
theorem Yf (hr:q.nx.rd=true):q.aB=[]:=(Ma (m:=q.made) hr).2.2.2.2.2.2.2
theorem aCn {kk:Wd}{bh:Bool}{cb:Cb}(W:World N c cap au A G rs ks M)(ha:rs[a]? =some q)(hd:q.dn=false)(hn:q.nx=.load kk bh cb):j4 N c cap au A G rs ks M a q (q.step c G b):=by
 have u9:q.nx.rd=true:=by rw [hn];rfl
 have M0:=W.jN ha;rw [Yf u9] at M0;rcases W.fact a q ha with h|⟨i,h⟩
 ·rw [hd] at h;cases h
 rw [hn] at h;have⟨h1,h2,pre,rest,I,kT,hk⟩:=h;have I':In c A i ({q with aj:=false}:Qr) pre rest:=I.same rfl rfl rfl;have K:Kp q {q with aj:=false}:=⟨rfl,rfl,rfl,rfl,rfl,rfl,rfl,hd,rfl,rfl,rfl,rfl,rfl⟩;rw [aK hd hn,axn M0 I' kk bh cb];have⟨k',hw⟩:=ama W ha hd u9 h1 K I' h2 (by unfold Qr.scan;rw [hd,hn];cases cb<;>rfl) kT (by omega);exact RZ W ha hd u9 (RI M0 I' kk bh cb).2.1 vN rfl hw
theorem aCd {kk:Wd}{bh:Bool}{cb:Cb}(W:World N c cap au A G rs ks M)(ha:rs[a]? =some q)(hd:q.dn=false)(hn:q.nx=.ask kk bh cb):j4 N c cap au A G rs ks M a q (q.step c G b):=by
 have u9:q.nx.rd=true:=by rw [hn];rfl
 have M0:=W.jN ha;rw [Yf u9] at M0;rcases W.fact a q ha with h|⟨i,h⟩
 ·rw [hd] at h;cases h
 rw [hn] at h;have⟨h1,h2,pre,e,rest,I,hu,kT,hk⟩:=h;have I':In c A i ({q with aj:=false}:Qr) pre (e::rest):=I.same rfl rfl rfl;have K:Kp q {q with aj:=false}:=⟨rfl,rfl,rfl,rfl,rfl,rfl,rfl,hd,rfl,rfl,rfl,rfl,rfl⟩;have sG:q.scan N.B=cb.sc:=by unfold Qr.scan;rw [hd,hn];cases cb<;>rfl
 have⟨g1,g2⟩:=axg (b:=b) M0 I' hu kk bh cb;rw [aK hd hn,g1];unfold Qr.asked;by_cases ht:kk.toNat<e.k.toNat∨(e.k=kk/\bh=false)
 ·rw [ar ht];have hw:=al_ (there:=true) (q1:={({q with aj:=false}:Qr) with key:=e.k}) W ha hd u9 h1 (K.trans ⟨rfl,rfl,rfl,rfl,rfl,rfl,rfl,hd,rfl,rfl,rfl,rfl,rfl⟩) (I.same rfl rfl rfl) hu h2 sG kT (λ_=>⟨e,rest,rfl,ht,rfl⟩) (λh=>by cases h) (by omega);exact RZ W ha hd u9 g2 vN rfl hw
 ·rw [an ht];have K2:Kp q (({({q with aj:=false}:Qr) with key:=e.k,ah:=q.cur,ai:=0}:Qr).to (.load kk bh cb)):=K.trans ⟨rfl,rfl,rfl,rfl,rfl,rfl,rfl,hd,rfl,rfl,rfl,rfl,rfl⟩;refine RZ (k':=1+2*rest.length+pj N A M i q cb) W ha hd u9 g2 vN rfl ⟨rfl,hd,h1,rfl,⟨rfl,rfl,rfl,rfl⟩,.inr ⟨i,h1,h2.kp K2,pre++[e],rest,I.on rfl hu rfl,λx hx=>?_,?_⟩,by omega,?_,.inr ⟨rfl,rfl,rfl,rfl,rfl,rfl⟩⟩
  ·rcases dV.1 hx with hx|hx
   ·exact kT x hx
   ·simp only [fo] at hx;subst hx;exact ht
  ·exact Nat.le_of_eq (by rw [aaN K2])
  ·refine (W.fj a q ha).iy ha (λr hr=>?_) rfl rfl rfl rfl (λh=>by cases h);rw [sG];have hr:(if q.dn=true then Option.none else (Nx.load kk bh cb).scan N.B q.room)=some r:=hr;rw [hd] at hr;cases cb<;>exact hr
theorem axB {l:List El}{s:Bool}(hl:M[i]? =some l)(hi:i<N.B):sc N M i s=sc N M (i+1) s+2*l.length+6:=by
 have⟨h1,h2⟩:=bJ.1 hl;unfold sc;rw [zy h1,s_,e_,h2];omega
theorem aCx {th:Th}(W:World N c cap au A G rs ks M)(ha:rs[a]? =some q)(hd:q.dn=false)(hn:q.nx=.th th):j4 N c cap au A G rs ks M a q (q.step c G b):=by
 have u9:q.nx.rd=true:=by rw [hn];rfl
 have⟨r1,_,_,_,r5,_⟩:=Ma (m:=q.made) u9;have hh:q.holds=true:=by rw [holds_of hd];exact r1
 have M0:=W.jN ha;rw [Yf u9] at M0;rcases W.fact a q ha with h|⟨i,h⟩
 ·rw [hd] at h;cases h
 rw [hn] at h;have⟨hr,hi,Ao,h1,hk⟩:=h;have hM:=W.u5 ha hh r5 hr hi;have hl:A.ls[i]? =some A.ls[i]:=cM hi;have hlen:=W.QS (hM.trans hl);have K:Kp q {q with aj:=false}:=⟨rfl,rfl,rfl,rfl,rfl,rfl,rfl,hd,rfl,rfl,rfl,rfl,rfl⟩;have⟨G1,g1,g2⟩:=axt (b:=b) (q:={q with aj:=false}) M0 hl hr th;rw [aK hd hn,g1];have ek:∀q1:Qr,q1.ky=q.ky->th.key q1=th.key q:=λq1 e=>by cases th with|op=>simp only [Th.key,e]|search _ _ _=>rfl
 rw [ek {q with aj:=false} rfl];have I:In c A i (({({q with aj:=false}:Qr) with ah:=c.h,ai:=Go.Proofs.YtjggeoghlicmdaaGreat.hd ({q with aj:=false}:Qr).room}:Qr).to (.load (th.key q).1 (th.key q).2.1 (th.key q).2.2)) [] A.ls[i]:=
  In.head hl hr rfl (by show Go.Proofs.YtjggeoghlicmdaaGreat.hd q.room=_;rw [hr]) (by have:=W.mem.lH.2.2;omega)
 have⟨k',hw⟩:=ama (pre:=[]) (rest:=A.ls[i]) (q1:=(({({q with aj:=false}:Qr) with ah:=c.h,ai:=Go.Proofs.YtjggeoghlicmdaaGreat.hd ({q with aj:=false}:Qr).room}:Qr).to (.load (th.key q).1 (th.key q).2.1 (th.key q).2.2))) W ha hd u9 h1 (K.trans ⟨rfl,rfl,rfl,rfl,rfl,rfl,rfl,hd,rfl,rfl,rfl,rfl,rfl⟩) I Ao (by unfold Qr.scan;rw [hd,hn];cases th<;>rfl) (λe he=>by cases he) (by
  cases th with
  |op=>
   have hk:3+N.w+N.op<=ks a+2:=hk;show 2*A.ls[i].length+N.op<ks a;unfold Nm.w at hk;omega
  |search kk bh room=>
   have hk:sc N M i (q.same A)<=ks a+2:=hk;show 2*A.ls[i].length+(1+sc N M (i+1) (q.same A))<ks a;rw [axB (hM.trans hl) (by have:=W.nB;omega)] at hk;omega)
 have eG:G1=G.mem (vS c th {q with aj:=false} G.S).2:=(hZ Prod.snd g1).symm;refine RZ W ha hd u9 g2 ?_ ?_ hw
 ·rw [eG];exact vN
 ·rw [eG]
theorem ZA {th:Th}:3<=yk N A M i q th:=by
 cases th with
 |op=>show 3<=3+N.w+N.op;omega
 |search _ _ _=>show 3<=sc N M i (q.same A);unfold sc;omega
theorem aCi {t:Tk}{th:Th}(W:World N c cap au A G rs ks M)(ha:rs[a]? =some q)(hd:q.dn=false)(hn:q.nx=.enter t th):j4 N c cap au A G rs ks M a q (q.step c G b):=by
 have M0:=W.jN ha;have cA:q.aB=[]:=by unfold Qr.aB;rw [hn];rfl
 rw [cA] at M0;have bK:q.fx=false:=by unfold Qr.fx;rw [hd,hn];rfl
 have cJ:q.holds=false:=by rw [holds_of hd,hn];rfl
 rcases W.fact a q ha with h|⟨i,h⟩
 ·rw [hd] at h;cases h
 rw [hn] at h;have⟨hr,hi,Qv,hph,Ao,h1,hk⟩:=h;have hM0:c.h∉cT rs a:=λh=>W.wy ha h rfl
 rcases hph with hp|hp
 ·
  have⟨G1,g1,g2⟩:=axi (b:=b) (q:={q with aj:=false}) (k:=th) M0 (t:=t) hi Qv hp;rw [aK hd hn,g1];have dZ:q.dh=false:=by unfold Qr.dh;rw [cJ,hn];show (false||decide (t.ph=1))=false;simp [hp]
  have eG:G1=G.mem (t.step c G.S).2.2:=(hZ Prod.snd g1).symm;have hV:∀h,h≠c.h->G1.S.V h=G.S.V h:=λh hh=>by
   rw [eG];show (t.step c G.S).2.2.V h=_;unfold Tk.step;rw [ar hp];exact vO hh
  refine ⟨drawn A i,M,ks a - 1,0,none,?_,Vs.own hV,.inr ⟨rfl,rfl,rfl,rfl,rfl,rfl,rfl⟩,⟨?_,λh=>by rw [bK] at h;cases h⟩,.inl (by have:=ZA (N:=N) (A:=A) (M:=M) (i:=i) (q:=q) (th:=th);omega),by rw [eG],⟨rfl,rfl,rfl,rfl⟩⟩
  ·refine gX.same W ha g2 rfl rfl rfl (by show A.mb<=A.mb+1;omega) (W.awA ha hi dZ hr rfl rfl rfl) (λh hh=>hV h λe=>hM0 (e▸hh)) (.inr ⟨i,hr,hi,Qv,.inr rfl,Ao,h1,?_⟩) (by rw [hn];rfl) (by rw [hn];rfl) (λh=>by rw [hn] at h;cases h) (λh=>by cases h) ?_
   ·have hk:yk N A M i q th<=ks a+t.ph:=hk;rw [hp] at hk;have h0:=ZA (N:=N) (A:=A) (M:=M) (i:=i) (q:=q) (th:=th);show yk N A M i q th<=ks a - 1+1;omega
   ·refine (W.fj a q ha).iy ha (λr hr=>?_) rfl rfl rfl rfl (λh=>by cases h);have hr:(if q.dn=true then Option.none else (Nx.enter t th).scan N.B q.room)=some r:=by
     rw [<-hr];unfold Qr.scan Qr.to;cases th<;>rfl
    unfold Qr.scan;rw [hn];exact hr
  ·rw [bK];show (q.dn||false)=_;rw [hd];rfl
 ·have⟨G1,g1,g2⟩:=axv (b:=b) (q:={q with aj:=false}) (k:=th) M0 (t:=t) hi Qv hp;rw [aK hd hn,g1];have dZ:q.dh=true:=by unfold Qr.dh;rw [cJ,hn];show (false||decide (t.ph=1))=true;simp [hp]
  have eG:G1=G.mem (t.step c G.S).2.2:=(hZ Prod.snd g1).symm;have hV:∀h,G1.S.V h=G.S.V h:=λh=>by
   rw [eG];show (t.step c G.S).2.2.V h=_;unfold Tk.step;rw [an (by omega),ar hp];split<;>exact vN h
  have eV:G1.S.V=G.S.V:=funext hV;have uZ:G1.ins=G.ins:=by rw [eG]
  by_cases e:A.sv i=t.t
  ·rw [ar e];refine ⟨A,M,ks a - 1,0,none,?_,Vs.same hV,.inr ⟨rfl,rfl,rfl,rfl,rfl,rfl,rfl⟩,⟨?_,λh=>by rw [bK] at h;cases h⟩,.inl (by have:=ZA (N:=N) (A:=A) (M:=M) (i:=i) (q:=q) (th:=th);omega),uZ,⟨rfl,rfl,rfl,rfl⟩⟩
   ·refine gX.same W ha g2 rfl rfl rfl (by omega) (W.awB ha hr hn hp e rfl (by show (true&& !(q.dn&&false))=true;rw [hd];rfl) (λ_ _ h=>by cases h)) (λh _=>hV h) (.inr ⟨i,hr,hi,Ao,h1,?_⟩) (by rw [hn];rfl) (by rw [hn];rfl) (λh=>by rw [hn] at h;cases h) (λh=>by cases h) ?_
    ·show yk N A M i q th<=ks a - 1+2;omega
    ·refine (W.fj a q ha).iy ha (λr hr=>?_) rfl rfl rfl rfl (λh=>by cases h);have hr:(if q.dn=true then Option.none else (Nx.th th).scan N.B q.room)=some r:=hr;unfold Qr.scan;rw [hn];rw [<-hr];cases th<;>rfl
   ·rw [bK];show (q.dn||false)=_;rw [hd];rfl
  ·rw [an e];refine ⟨A,M,ks a,0,none,?_,Vs.same hV,.inr ⟨rfl,rfl,rfl,rfl,rfl,rfl,rfl⟩,⟨?_,λh=>by rw [bK] at h;cases h⟩,.inr ⟨.inl ⟨t,th,i,hn,hp,hr,e⟩,rfl,rfl,rfl,rfl,hn.symm,rfl⟩,uZ,⟨rfl,rfl,rfl,rfl⟩⟩
   ·refine gX.same W ha g2 rfl rfl rfl (by omega) (W.Ya ha rfl rfl (λ_=>?_) λ_=>⟨λh=>?_,λt' HV h _=>?_⟩) (λh _=>hV h) (.inr ⟨i,hr,hi,Qv,.inr hp,Ao,h1,hk⟩) (by rw [hn];rfl) (by rw [hn];rfl) (λh=>by rw [hn] at h;cases h) (λh=>by cases h) ?_
    ·have:(({q with aj:=false}:Qr).to (.enter t th)).dh=true:=by
      unfold Qr.dh;show (_||decide (t.ph=1))=true;simp [hp]
     rw [this,dZ];exact Iff.rfl
    ·have:(({q with aj:=false}:Qr).to (.enter t th)).holds=false:=rfl
     rw [this] at h;cases h
    ·obtain ⟨rfl,rfl⟩:=Nx.enter.inj h;exact ⟨th,hn⟩
    ·refine (W.fj a q ha).iy ha (λr hr=>?_) rfl rfl rfl rfl (λh=>by cases h);have hr:(if q.dn=true then Option.none else (Nx.enter t th).scan N.B q.room)=some r:=hr;unfold Qr.scan;rw [hn];exact hr
   ·rw [bK];show (q.dn||false)=_;rw [hd];rfl
end
section
variable {N:Nm} {c:Lc} {A A':Ab} {G G':Gr} {cap:Int} {q q' x:Qr} {i j:Nat} {pre rest:List El} {e:El} {P:List Int} {n k k' a au δ:Nat} {rs:List Qr} {M M':List (List El)} {ks:Nat->Nat} {V:View} {b:Bs}
theorem QR (hd:q.dn=false){no el:Int}{rv:List Wd}{rk:Wd}:((({q with aj:=false}:Qr).dH no rv rk el).to .leave).holds=true:=by
 show (true&& !(q.dn&&true))=true;rw [hd];rfl
theorem lJ (h:q'.nx.scan N.B q'.room=Option.none):q'.scan N.B=Option.none:=by unfold Qr.scan;rw [h];split<;>rfl
theorem aCr (W:World N c cap au A G rs ks M)(ha:rs[a]? =some q)(hd:q.dn=false)(hn:q.nx=.set):j4 N c cap au A G rs ks M a q (q.step c G b):=by
 have M0:=W.jN ha;have cA:q.aB=[]:=by unfold Qr.aB;rw [hn];rfl
 rw [cA] at M0;have bK:q.fx=false:=by unfold Qr.fx;rw [hd,hn];rfl
 have cJ:q.holds=true:=by rw [holds_of hd,hn];rfl
 rcases W.fact a q ha with h|⟨i,h⟩
 ·rw [hd] at h;cases h
 rw [hn] at h;have⟨⟨pre,e,rest,I,hu,ek,hb⟩,kB,mM,hk⟩:=h;have hM:M[i]? =some (pre++e::rest):=by rw [W.u5 ha cJ (by rw [hn];rfl) I.room I.lt];exact I.ls
 have he:=I.el;have⟨s1,s2,s3,s4⟩:=M0.ak7 (h:=q.cur) (by rw [hu];exact M0.OT he) q.val;have e1:q.step c G b=((({q with aj:=false}:Qr).dH 0 [] 0 0).to .leave,G.mem (G.S.acc q.cur 2 true λ_=>q.val).2):=by rw [aK hd hn];rfl
 rw [e1];refine ⟨A,M,1,0,some (e.h,q.val),?_,λh h1 h2 h3=>?_,.inl ⟨rfl,.set kB mM ⟨hb,hM,ek⟩⟩,⟨?_,λh=>by rw [bK] at h;cases h⟩,.inl (by omega),rfl,⟨rfl,rfl,rfl,rfl⟩⟩
 ·refine gX.same W ha s2 rfl rfl rfl (by omega) (W.lG ha rfl rfl cJ (QR hd) rfl (λ_ _ h=>by cases h)) (λh hh=>s3 h λe2=>M0.Gh he hh (hu.symm.trans e2.symm)) (.inr ⟨i,I.room,I.lt,bq _⟩) (by rw [hn];rfl) (by rw [hn];rfl) (λh=>by rw [hn] at h;cases h) (λh=>by cases h) (js (lJ rfl))
 ·by_cases e2:h=e.h
  ·subst e2;have⟨v,hv⟩:=M0.elem I.ls;refine ⟨by rw [hv];simp,?_⟩;show val _ e.h=if e.h=e.h then q.val else _;rw [ar rfl,<-hu];exact s4
  ·have e3:(G.S.acc q.cur 2 true λ_=>q.val).2.V h=G.S.V h:=s3 h (by rw [hu];exact e2);refine ⟨by rw [<-e3];exact h3,?_⟩;show val _ h=if h=e.h then q.val else val G.S h;rw [an e2];unfold val;rw [show (G.mem (G.S.acc q.cur 2 true λ_=>q.val).2).S.V h=G.S.V h from e3]
 ·rw [bK];show (q.dn||true)=true;rw [hd];rfl
theorem aCo (W:World N c cap au A G rs ks M)(ha:rs[a]? =some q)(hd:q.dn=false)(hn:q.nx=.look):j4 N c cap au A G rs ks M a q (q.step c G b):=by
 have M0:=W.jN ha;have cA:q.aB=[]:=by unfold Qr.aB;rw [hn];rfl
 rw [cA] at M0;have bK:q.fx=false:=by unfold Qr.fx;rw [hd,hn];rfl
 have cJ:q.holds=true:=by rw [holds_of hd,hn];rfl
 rcases W.fact a q ha with h|⟨i,h⟩
 ·rw [hd] at h;cases h
 rw [hn] at h;have⟨⟨pre,e,rest,I,hu,ek,hb⟩,Kt,hk⟩:=h;have hM:M[i]? =some (pre++e::rest):=by rw [W.u5 ha cJ (by rw [hn];rfl) I.room I.lt];exact I.ls
 have⟨G1,s1,s2⟩:=axo (b:=b) (q:={q with aj:=false}) M0 I.el hu;rw [aK hd hn,s1];have eG:G1=G.mem (G.S.acc q.cur 2 true id).2:=(hZ Prod.snd s1).symm;have hV:∀h,G1.S.V h=G.S.V h:=λh=>by rw [eG];exact vN h
 have eel:Qr.elem c {q with aj:=false} (val G.S e.h)=elemOf c e.h (val G.S e.h):=by unfold Qr.elem elemOf;rw [show ({q with aj:=false}:Qr).cur=e.h from hu]
 refine ⟨A,M,1,0,none,?_,Vs.same hV,.inl ⟨rfl,?_⟩,⟨?_,λh=>by rw [bK] at h;cases h⟩,.inl (by omega),by rw [eG],⟨rfl,rfl,rfl,rfl⟩⟩
 ·exact gX.same W ha s2 rfl rfl rfl (by omega) (W.lG ha rfl rfl cJ (QR hd) rfl (λ_ _ h=>by cases h)) (λh _=>hV h) (.inr ⟨i,I.room,I.lt,bq _⟩) (by rw [hn];rfl) (by rw [hn];rfl) (λh=>by rw [hn] at h;cases h) (λh=>by cases h) (js (lJ rfl))
 ·show mW c q M G.S 0 [val G.S e.h] 0 (Qr.elem c {q with aj:=false} (val G.S e.h)) none M;rw [eel];exact .look Kt ⟨hb,hM,ek⟩
 ·rw [bK];show (q.dn||true)=true;rw [hd];rfl
theorem UN {S:Sm}:∀h,h≠c.h->(pF c q S).V h=S.V h:=λh hh=>vO hh
theorem aCl (W:World N c cap au A G rs ks M)(ha:rs[a]? =some q)(hd:q.dn=false)(hn:q.nx=.leave):j4 N c cap au A G rs ks M a q (q.step c G b):=by
 have M0:=W.jN ha;have cA:q.aB=[]:=by unfold Qr.aB;rw [hn];rfl
 rw [cA] at M0;have bK:q.fx=true:=by unfold Qr.fx;rw [hd,hn];rfl
 have cJ:q.holds=true:=by rw [holds_of hd,hn];rfl
 rcases W.fact a q ha with h|⟨i,h⟩
 ·rw [hd] at h;cases h
 rw [hn] at h;have⟨hr,hi,hk⟩:=h;have⟨G1,s1,s2⟩:=axm (b:=b) (q:={q with aj:=false}) M0 hr hi;rw [aK hd hn,s1];have eG:G1=G.mem (pF c {q with aj:=false} G.S):=(hZ Prod.snd s1).symm;have hV:∀h,h≠c.h->G1.S.V h=G.S.V h:=λh hh=>by rw [eG];exact UN h hh
 have Ql:({({q with aj:=false}:Qr) with dn:=true}:Qr).aB=[]:=cA;refine ⟨Gp A i,M,0,0,none,?_,Vs.own hV,.inr ⟨rfl,rfl,rfl,rfl,rfl,rfl,rfl⟩,⟨by rw [bK];rfl,λ_=>rfl⟩,.inl (by omega),by rw [eG],⟨rfl,rfl,rfl,rfl⟩⟩;refine gX.same W ha (by rw [Ql];exact s2) rfl rfl rfl (by show A.mb<=A.mb+1;omega) (W.X_ ha hr cJ ?_) (λh hh=>hV h (W.wy ha hh)) (.inl rfl) (by rw [hn]) (by rw [hn]) (λh=>by rw [hn] at h;cases h) (λh=>?_) (js ?_)
 ·show ((q.nx.holds&& !(true&&q.nx.lv))||q.nx.waits)=false;rw [hn];rfl
 ·have h:q.nx.ie q.made=true:=h;rw [hn] at h;cases h
 ·unfold Qr.scan;rfl
theorem awF (W:World N c cap au A G rs ks M)(q:Qr):∃r:Nat,r0 c q=(r:Int)/\r<A.ls.length:=by
 have hr:=W.mem.lH;unfold r0;by_cases e:q.fl=1
 ·rw [ar e];exact ⟨0,rfl,by omega⟩
 ·rw [an e]
  have:=adY (k:=q.ky) (n:=c.d3) (by omega)
  exact ⟨(bZ q.ky c.d3).toNat,by omega,by omega⟩
theorem akU (W:World N c cap au A G rs ks M){q1:Qr}{r:Nat}{bh:Bool}{b0:Nat}(hA:A'.ls=A.ls)(hk:q1.kd=4)(hm:q1.made=0)(h0:r0 c q1<=(r:Int))(hr:r<=A.ls.length)(hbh:bh=true↔(q1.fl≠1/\bZ q1.ky c.d3=(r:Int)))(hc:sc N M r (q1.same A')<=k') :
  Fact N c A' M V (q1.search c r bh b0) k'/\(q1.search c r bh b0).dh=false/\(q1.search c r bh b0).aB=[]/\(q1.search c r bh b0).nx.hi=0/\(q1.search c r bh b0).nx.kG=0/\(q1.search c r bh b0).ie=false/\
   (q1.search c r bh b0).nx.scan N.B (q1.search c r bh b0).room=some (r:Int)/\(q1.search c r bh b0).nx.fx=false:=by
 have B3:=W.mem.lH.1;unfold Qr.search;by_cases e:c.d3<=(r:Int)
 ·rw [ar e];have er:r=A.ls.length:=by omega
  refine ⟨.inr ⟨0,hk,hm,?_⟩,rfl,rfl,rfl,rfl,rfl,?_,rfl⟩
  ·rw [W.nB,<-er];exact hc
  ·show some ((N.B:Nat):Int)=_;rw [W.nB,er]
 ·rw [an e];refine ⟨.inr ⟨r,rfl,by rw [hA];omega,rfl,.inl rfl,?_,hm,hc⟩,rfl,rfl,rfl,rfl,rfl,rfl,rfl⟩;have B8:∀q2:Qr,q2.fl=q1.fl->q2.ky=q1.ky->kb c q2 r=(if bh then q1.ky else 0,bh):=λq2 h1 h2=>by
   unfold kb;rw [h1,h2];by_cases e:q1.fl≠1/\bZ q1.ky c.d3=(r:Int)
   ·rw [ar e,hbh.2 e];rfl
   ·rw [an e]
    have:bh=false:=by
     cases hb:bh with
     |false=>rfl
     |true=>exact absurd (hbh.1 hb) e
    rw [this];rfl
  refine ⟨hk,rfl,h0,?_,?_⟩
  ·exact (hZ Prod.fst (B8 (q1.enter (r:Int) (.search (if bh then q1.ky else 0) bh r) b0) rfl rfl)).symm
  ·exact (hZ Prod.snd (B8 (q1.enter (r:Int) (.search (if bh then q1.ky else 0) bh r) b0) rfl rfl)).symm
theorem aCe (W:World N c cap au A G rs ks M) (ha:rs[a]? =some q) (hd:q.dn=false) (hn:q.nx=.begin):j4 N c cap au A G rs ks M a q (q.step c G b):=by
 have M0:=W.jN ha;have cA:q.aB=[]:=by unfold Qr.aB;rw [hn];rfl
 rw [cA] at M0;have bK:q.fx=false:=by unfold Qr.fx;rw [hd,hn];rfl
 have dZ:q.dh=false:=by unfold Qr.dh Qr.holds;rw [hn];rfl
 rcases W.fact a q ha with h|⟨i,h⟩
 ·rw [hd] at h;cases h
 rw [hn] at h;have⟨mN,hm,hk⟩:=h;have⟨G1,s1,s2⟩:=axh (b:=b) (q:={q with aj:=false}) M0;rw [aK hd hn,s1];have eG:G1=G.mem (G.S.acc c.h 1 true id).2:=(hZ Prod.snd s1).symm;have hV:∀h,G1.S.V h=G.S.V h:=λh=>by rw [eG];exact vN h
 have⟨r,hr,lU⟩:=awF W q;have er:(if ({q with aj:=false}:Qr).fl=1 then 0 else bZ ({q with aj:=false}:Qr).ky c.d3)=(r:Int):=hr;rw [er];have oc:1<=N.sz:=by unfold Nm.sz;omega
 have sG:sc N M r true<=N.sz - 1:=by
  have h1:=W.le;have h2:(M.drop r).flatten.length<=M.flatten.length:=by
   have h2:M.flatten=(M.take r).flatten++(M.drop r).flatten:=by rw [<-SD,wN]
   rw [h2,e_];omega
  unfold sc Nm.sz;simp only [pc];omega
 have EG:({({q with aj:=false}:Qr) with bg:=A.bo}:Qr).same A=true:=by unfold Qr.same;exact x8 rfl
 have⟨f1,f2,f3,f4,f5,f6,f7,f8⟩:=akU (A':=A) (V:=G1.S.V) (k':=N.sz - 1) (bh:=decide (({q with aj:=false}:Qr).fl≠1)) (b0:=b.1) W (q1:={({q with aj:=false}:Qr) with bg:=A.bo}) (r:=r) rfl mN hm (Int.le_of_eq hr) (by omega) (by
  rw [gf];refine ⟨λh=>⟨h,?_⟩,λh=>h.1⟩;have h:q.fl≠1:=h;have hr:=hr;unfold r0 at hr;rw [an h] at hr;exact hr) (by rw [EG];exact sG)
 have EF:∀{q2:Qr} {bh:Bool} {b0:Nat},(q2.search c r bh b0).kd=q2.kd/\(q2.search c r bh b0).ky=q2.ky/\(q2.search c r bh b0).fl=q2.fl/\(q2.search c r bh b0).val=q2.val/\(q2.search c r bh b0).aj=q2.aj/\(q2.search c r bh b0).dn=q2.dn/\(q2.search c r bh b0).bg=q2.bg/\
   (q2.search c r bh b0).no=q2.no/\(q2.search c r bh b0).rv=q2.rv/\(q2.search c r bh b0).rk=q2.rk/\(q2.search c r bh b0).el=q2.el:=λ{q2 bh b0}=>by
  unfold Qr.search;split<;>exact ⟨rfl,rfl,rfl,rfl,rfl,rfl,rfl,rfl,rfl,rfl,rfl⟩
 generalize yO:Qr.search c {({q with aj:=false}:Qr) with bg:=A.bo} (r:Int) (decide (({q with aj:=false}:Qr).fl≠1)) b.1=q' at *;have hs:=@EF {({q with aj:=false}:Qr) with bg:=A.bo} (decide (({q with aj:=false}:Qr).fl≠1)) b.1;rw [yO] at hs;have⟨g1,g2,g3,g4,g5,g6,g7,g8,g9,D6,Vh⟩:=hs;refine ⟨A,M,N.sz - 1,0,none,?_,Vs.same hV,.inr ⟨g5,rfl,rfl,g8,g9,D6,Vh⟩,⟨?_,λh=>by rw [bK] at h;cases h⟩,.inl (by omega),by rw [eG],⟨g1,g2,g3,g4⟩⟩
 ·refine gX.same W ha (by rw [f3];exact s2) rfl rfl rfl (by omega) (W.Rv ha rfl rfl dZ f2) (λh _=>hV h) f1 (by rw [hn,f4];rfl) (by rw [hn,f5];rfl) (λh=>by rw [hn] at h;cases h) (λh=>by rw [f6] at h;cases h) ?_;intro r' qC;unfold Qr.scan at qC;rw [g6,show ({({q with aj:=false}:Qr) with bg:=A.bo}:Qr).dn=false from hd,f7] at qC;obtain rfl:(r:Int)=r':=by simpa using qC
  have e0:r0 c q'=(r:Int):=by rw [<-hr];unfold r0;rw [g3,g2]
  refine ⟨by rw [g7];exact bq _,λ_=>⟨λj rB pL=>?_,λ_ y _ _ hy=>?_⟩⟩
  ·rw [e0] at rB;omega
  ·rw [e0] at hy;omega
 ·rw [bK];unfold Qr.fx;rw [g6,f8,g5];show (q.dn||false)=_;rw [hd]
theorem axC {q2:Qr}{r:Int}{bh:Bool}{b0:Nat}:(q2.search c r bh b0).kd=q2.kd/\(q2.search c r bh b0).ky=q2.ky/\(q2.search c r bh b0).fl=q2.fl/\(q2.search c r bh b0).val=q2.val/\(q2.search c r bh b0).aj=q2.aj/\(q2.search c r bh b0).dn=q2.dn/\(q2.search c r bh b0).bg=q2.bg/\
   (q2.search c r bh b0).no=q2.no/\(q2.search c r bh b0).rv=q2.rv/\(q2.search c r bh b0).rk=q2.rk/\(q2.search c r bh b0).el=q2.el:=by
 unfold Qr.search;split<;>exact ⟨rfl,rfl,rfl,rfl,rfl,rfl,rfl,rfl,rfl,rfl,rfl⟩
theorem aCj {room:Int}(W:World N c cap au A G rs ks M)(ha:rs[a]? =some q)(hd:q.dn=false)(hn:q.nx=.free room):j4 N c cap au A G rs ks M a q (q.step c G b):=by
 have M0:=W.jN ha;have cA:q.aB=[]:=by unfold Qr.aB;rw [hn];rfl
 rw [cA] at M0;have bK:q.fx=false:=by unfold Qr.fx;rw [hd,hn];rfl
 have cJ:q.holds=true:=by rw [holds_of hd,hn];rfl
 rcases W.fact a q ha with h|⟨i,h⟩
 ·rw [hd] at h;cases h
 rw [hn] at h;obtain ⟨mN,rfl,hr,hi,hm,h0,hk⟩:=h;have⟨G1,s1,s2⟩:=axk (b:=b) (q:={q with aj:=false}) M0 hr hi (i:Int);rw [aK hd hn,s1];have eG:G1=G.mem (pF c {q with aj:=false} G.S):=(hZ Prod.snd s1).symm;have hV:∀h,h≠c.h->G1.S.V h=G.S.V h:=λh hh=>by rw [eG];exact UN h hh
 have er:wr ((i:Int)+1)=((i+1:Nat):Int):=by have:=W.mem.lH;rw [o_ (by omega)];omega
 rw [er];have⟨f1,f2,f3,f4,f5,f6,f7,f8⟩:=akU (A':=Gp A i) (V:=G1.S.V) (k':=ks a - 1) (bh:=false) (b0:=b.1) W (q1:={q with aj:=false}) (r:=i+1) rfl mN hm (by show r0 c q<=_;omega) (by omega) ⟨λh=>(by cases h),λh=>by
  have h1:q.fl≠1:=h.1;have h2:bZ q.ky c.d3=((i+1:Nat):Int):=h.2;unfold r0 at h0;rw [an h1,h2] at h0;omega⟩ (by show sc N M (i+1) (q.same A)<=_;omega)
 have⟨g1,g2,g3,g4,g5,g6,g7,g8,g9,D6,Vh⟩:=axC (c:=c) (q2:={q with aj:=false}) (r:=((i+1:Nat):Int)) (bh:=false) (b0:=b.1);generalize yO:Qr.search c {q with aj:=false} ((i+1:Nat):Int) false b.1=q' at *;refine ⟨Gp A i,M,ks a - 1,0,none,?_,Vs.own hV,.inr ⟨g5,rfl,rfl,g8,g9,D6,Vh⟩,⟨?_,λh=>by rw [bK] at h;cases h⟩,.inl (by omega),by rw [eG],⟨g1,g2,g3,g4⟩⟩
 ·refine gX.same W ha (by rw [f3];exact s2) rfl rfl rfl (by show A.mb<=A.mb+1;omega) (W.X_ ha hr cJ f2) (λh hh=>hV h (W.wy ha hh)) f1 (by rw [hn,f4];rfl) (by rw [hn,f5];rfl) (λh=>by rw [hn] at h;cases h) (λh=>by rw [f6] at h;cases h) ?_;refine (W.fj a q ha).iy ha (λr hr=>?_) g3 g2 g7 rfl (λh=>by rw [f6] at h;cases h);unfold Qr.scan at hr⊢;rw [g6,show ({q with aj:=false}:Qr).dn=false from hd,f7] at hr;rw [hd,hn];rw [<-hr];show some ((i:Int)+1)=some _
  congr 1
 ·rw [bK];unfold Qr.fx;rw [g6,f8,g5];show (q.dn||false)=_;rw [hd]
theorem aCk (W:World N c cap au A G rs ks M)(ha:rs[a]? =some q)(hd:q.dn=false)(hn:q.nx=.mn):j4 N c cap au A G rs ks M a q (q.step c G b):=by
 have M0:=W.jN ha;have cA:q.aB=[]:=by unfold Qr.aB;rw [hn];rfl
 rw [cA] at M0;have bK:q.fx=false:=by unfold Qr.fx;rw [hd,hn];rfl
 have cJ:q.holds=true:=by rw [holds_of hd,hn];rfl
 rcases W.fact a q ha with h|⟨i,h⟩
 ·rw [hd] at h;cases h
 rw [hn] at h;have⟨hr,hi,mN,hm,hk⟩:=h;have⟨G1,s1,s2⟩:=axl (b:=b) (q:={q with aj:=false}) M0 hr hi;rw [aK hd hn,s1];have eG:G1=G.mem (pF c {q with aj:=false} G.S):=(hZ Prod.snd s1).symm;have hV:∀h,h≠c.h->G1.S.V h=G.S.V h:=λh hh=>by rw [eG];exact UN h hh
 refine ⟨Gp A i,M,N.sz,0,none,?_,Vs.own hV,.inr ⟨rfl,rfl,rfl,rfl,rfl,rfl,rfl⟩,⟨?_,λh=>by rw [bK] at h;cases h⟩,.inl (by omega),by rw [eG],⟨rfl,rfl,rfl,rfl⟩⟩
 ·exact gX.same W ha s2 rfl rfl rfl (by show A.mb<=A.mb+1;omega) (W.X_ ha hr cJ rfl) (λh hh=>hV h (W.wy ha hh)) (.inr ⟨i,mN,hm,bq _⟩) (by rw [hn];rfl) (by rw [hn];rfl) (λh=>by rw [hn] at h;cases h) (λh=>by cases h) (js (lJ rfl))
 ·rw [bK];show (q.dn||false)=_;rw [hd];rfl
theorem aCv (W:World N c cap au A G rs ks M)(ha:rs[a]? =some q)(hd:q.dn=false)(hn:q.nx=.k9):j4 N c cap au A G rs ks M a q (q.step c G b):=by
 have M0:=W.jN ha;have cA:q.aB=[]:=by unfold Qr.aB;rw [hn];rfl
 rw [cA] at M0;have bK:q.fx=false:=by unfold Qr.fx;rw [hd,hn];rfl
 have dZ:q.dh=false:=by unfold Qr.dh Qr.holds;rw [hn];rfl
 have Ak:=W.fj a q ha N.B (by unfold Qr.scan;rw [hd,hn];rfl);rcases W.fact a q ha with h|⟨i,h⟩
 ·rw [hd] at h;cases h
 rw [hn] at h;have⟨mN,hm,hk⟩:=h;have⟨G1,s1,s2⟩:=axr (b:=b) (q:={q with aj:=false}) M0;have eG:G1=G.mem (G.S.acc c.h 1 true id).2:=(hZ Prod.snd s1).symm;have hV:∀h,G1.S.V h=G.S.V h:=λh=>by rw [eG];exact vN h
 by_cases e:A.bo=q.bg
 ·have qH:cd c .k9 {q with aj:=false} G b=(({({q with aj:=false}:Qr).dH 2 [] 0 0 with dn:=true}:Qr),G1):=by rw [s1];congr 1;exact ar e
  rw [aK hd hn,qH];refine ⟨A,M,0,0,none,?_,Vs.same hV,.inl ⟨rfl,.om mN λj rB pL=>(Ak.2 e.symm).1 j rB (by have:=W.nB;have:=W.cx;omega)⟩,⟨by rw [bK];rfl,λh=>by rw [bK] at h;cases h⟩,.inl (by unfold sc at hk;omega),by rw [eG],⟨rfl,rfl,rfl,rfl⟩⟩;refine gX.same W ha ?_ rfl rfl rfl (by omega) (W.Rv ha rfl rfl dZ ?_) (λh _=>hV h) (.inl rfl) rfl rfl (λh=>by rw [hn] at h;cases h) (λh=>?_) (js rfl)
  ·show Mem c cap A (q.aB++cT rs a) G1;rw [cA];exact s2
  ·show (q.nx.holds&&_||q.nx.waits)=false;rw [hn];rfl
  ·have h:q.nx.ie q.made=true:=h;rw [hn] at h;cases h
 ·have qH:cd c .k9 {q with aj:=false} G b=(({q with aj:=false}:Qr).to .begin,G1):=by rw [s1];congr 1;exact an e
  rw [aK hd hn,qH];have EG:q.same A=false:=by unfold Qr.same;exact Bc λh=>e h.symm
  rw [EG] at hk;have hk:N.sz+6<=ks a:=by unfold sc at hk;simp at hk;omega
  refine ⟨A,M,N.sz,0,none,?_,Vs.same hV,.inr ⟨rfl,rfl,rfl,rfl,rfl,rfl,rfl⟩,⟨?_,λh=>by rw [bK] at h;cases h⟩,.inl (by omega),by rw [eG],⟨rfl,rfl,rfl,rfl⟩⟩
  ·exact gX.same W ha s2 rfl rfl rfl (by omega) (W.Rv ha rfl rfl dZ rfl) (λh _=>hV h) (.inr ⟨i,mN,hm,bq _⟩) (by rw [hn];rfl) (by rw [hn];rfl) (λh=>by rw [hn] at h;cases h) (λh=>by cases h) (js (lJ rfl))
  ·rw [bK];show (q.dn||false)=_;rw [hd];rfl
theorem aCu (W:World N c cap au A G rs ks M)(ha:rs[a]? =some q)(hd:q.dn=false)(hn:q.nx=.kZ):j4 N c cap au A G rs ks M a q (q.step c G b):=by
 have M0:=W.jN ha;have cA:q.aB=[]:=by unfold Qr.aB;rw [hn];rfl
 rw [cA] at M0;have bK:q.fx=false:=by unfold Qr.fx;rw [hd,hn];rfl
 have cJ:q.holds=true:=by rw [holds_of hd,hn];rfl
 have Ak:=W.fj a q ha q.room (by unfold Qr.scan;rw [hd,hn];rfl);rcases W.fact a q ha with h|⟨i,h⟩
 ·rw [hd] at h;cases h
 rw [hn] at h;have⟨mN,hm,h0,⟨pre,e,rest,I,nY,GJ,kT⟩,hk⟩:=h;have hM:M[i]? =some (pre++e::rest):=by rw [W.u5 ha cJ (by rw [hn];rfl) I.room I.lt];exact I.ls
 have⟨G1,s1,s2⟩:=axq (b:=b) (q:={q with aj:=false}) M0;have eG:G1=G.mem (G.S.acc c.h 1 true id).2:=(hZ Prod.snd s1).symm;have hV:∀h,G1.S.V h=G.S.V h:=λh=>by rw [eG];exact vN h
 by_cases e1:A.bo=q.bg
 ·have qH:cd c .kZ {q with aj:=false} G b=((({q with aj:=false}:Qr).dH 0 [] q.key 0).to .leave,G1):=by rw [s1];congr 1;exact ar e1
  rw [aK hd hn,qH];refine ⟨A,M,1,0,none,?_,Vs.same hV,.inl ⟨rfl,?_⟩,⟨?_,λh=>by rw [bK] at h;cases h⟩,.inl (by omega),by rw [eG],⟨rfl,rfl,rfl,rfl⟩⟩
  ·exact gX.same W ha s2 rfl rfl rfl (by omega) (W.lG ha rfl rfl cJ (QR hd) rfl (λ_ _ h=>by cases h)) (λh _=>hV h) (.inr ⟨i,I.room,I.lt,bq _⟩) (by rw [hn];rfl) (by rw [hn];rfl) (λh=>by rw [hn] at h;cases h) (λh=>by cases h) (js (lJ rfl))
  ·show mW c q M G.S 0 [] q.key 0 none M;rw [nY];exact .next mN h0 (λj rB pL=>(Ak.2 e1.symm).1 j rB (by rw [I.room];omega)) hM GJ kT
  ·rw [bK];show (q.dn||true)=true;rw [hd];rfl
 ·have qH:cd c .kZ {q with aj:=false} G b=(({q with aj:=false}:Qr).to .mn,G1):=by rw [s1];congr 1;exact an e1
  rw [aK hd hn,qH];have EG:q.same A=false:=by unfold Qr.same;exact Bc λh=>e1 h.symm
  rw [EG] at hk;have hk:N.sz+6<=ks a:=by simp at hk;omega
  refine ⟨A,M,1+N.sz,0,none,?_,Vs.same hV,.inr ⟨rfl,rfl,rfl,rfl,rfl,rfl,rfl⟩,⟨?_,λh=>by rw [bK] at h;cases h⟩,.inl (by omega),by rw [eG],⟨rfl,rfl,rfl,rfl⟩⟩
  ·exact gX.same W ha s2 rfl rfl rfl (by omega) (W.lG ha rfl rfl cJ (by show (true&& !(q.dn&&false))=true;rw [hd];rfl) rfl (λ_ _ h=>by cases h)) (λh _=>hV h) (.inr ⟨i,I.room,I.lt,mN,hm,bq _⟩) (by rw [hn];rfl) (by rw [hn];rfl) (λh=>by rw [hn] at h;cases h) (λh=>by cases h) (js (lJ rfl))
  ·rw [bK];show (q.dn||false)=_;rw [hd];rfl
end
section
theorem G_ (w:Wd):(w&&&bD).toNat=w.toNat % 4294967296:=ape w
theorem ati (w:Wd):(w&&& ~~~bD).toNat=w.toNat / 4294967296*4294967296:=by
 rw [BitVec.toNat_and];have e:(~~~bD:Wd).toNat=18446744069414584320:=by decide
 rw [e];apply Nat.eq_of_testBit_eq;intro j;rw [Nat.testBit_and];have h1:(18446744069414584320:Nat)=(2 ^ 32 - 1)<<<32:=by decide
 have h2:w.toNat / 4294967296*4294967296=(w.toNat>>>32)<<<32:=by rw [Nat.shiftLeft_eq,So]
 rw [h1,h2,Nat.testBit_shiftLeft,Nat.testBit_shiftLeft,Nat.testBit_shiftRight,Nat.testBit_two_pow_sub_one];by_cases hj:32<=j
 ·have e3:32+(j - 32)=j:=by omega
  rw [e3];by_cases pL:j<64
  ·have:j - 32<32:=by omega
   simp [hj,this]
  ·have:w.toNat.testBit j=false:=Nat.testBit_lt_two_pow (De w.isLt (Nat.pow_le_pow_right (by decide) (by omega)))
   simp [this]
 ·simp [hj]
theorem alu (w v:Wd):(under w bD v).toNat=w.toNat / 4294967296*4294967296+v.toNat % 4294967296:=by
 unfold under;rw [BitVec.toNat_or,ati,G_];have h:w.toNat / 4294967296*4294967296=(w.toNat / 4294967296)<<<32:=by rw [Nat.shiftLeft_eq]
 rw [h];exact (Nat.shiftLeft_add_eq_or_of_lt (show v.toNat % 4294967296<2 ^ 32 by omega) _).symm
def cw (l h:Nat):Wd:=BitVec.ofNat 64 (l+4294967296*h)
theorem xc {l h:Nat}(hl:l<4294967296)(hh:h<4294967296):(cw l h).toNat=l+4294967296*h:=by
 unfold cw;rw [Io];omega
theorem OL {l h:Nat}(hl:l<4294967296)(hh:h<4294967296):(cw l h&&&bD).toNat=l:=by
 rw [G_,xc hl hh];omega
theorem aeJ {l h:Nat}(hl:l<4294967296)(hh:h<4294967296):cw l h>>>32=0↔h=0:=by
 constructor
 ·intro e
  have:=hZ BitVec.toNat e
  rw [aaq,xc hl hh,So] at this;have h0:(0:Wd).toNat=0:=rfl;rw [h0] at this;omega
 ·intro e;subst e;apply tf;rw [aaq,xc hl hh,So];show _=0;omega
theorem aqC {l h:Nat}(hl:l<4294967296)(hh:h+1<4294967296):cw l h+tick=cw l (h+1):=by
 apply tf;rw [Nk,xc hl (by omega),xc hl hh]
 have:tick.toNat=4294967296:=by decide
 rw [this];omega
theorem aqD {l h:Nat}(hl:l+1<4294967296)(hh:h+1<4294967296):cw (l+1) (h+1)+zg=cw l h:=by
 apply tf;rw [Nk,xc hl hh,xc (by omega) (by omega)]
 have:zg.toNat=18446744069414584319:=by decide
 rw [this];omega
theorem aqz {l h:Nat}(hl:l+1<4294967296)(hh:h<4294967296):lz 0 bD bD (cw (l+1) h)=cw l h:=by
 apply tf;unfold lz;have e:N7 0 (cw (l+1) h&&&bD) (bD&&&bD)=(cw (l+1) h&&&bD)+(bD&&&bD):=by unfold N7;rw [ar rfl]
 rw [e,alu,Nk,G_,G_,xc hl hh,xc (by omega) hh]
 have:bD.toNat=4294967295:=by decide
 rw [this];omega
theorem amA (a b m:Wd):(a ^^^ b)&&&m=(a&&&m) ^^^ (b&&&m):=by
 apply aar;intro i hi;simp only [BitVec.getLsbD_and,BitVec.getLsbD_xor];cases a.getLsbD i<;>cases b.getLsbD i<;>cases m.getLsbD i<;>rfl
theorem aqA {l h:Nat}{w:Wd}(hl:l+1<4294967296)(hh:h<4294967296)(hw:cw l h&&&bD=w):jd bD w (w+1) (cw l h)=cw (l+1) h:=by
 subst hw;have e0:(cw l h ^^^ (cw l h&&&bD))&&&bD=0:=by
  rw [amA,BitVec.and_assoc,BitVec.and_self,BitVec.xor_self];rfl
 unfold jd;rw [ar e0];apply tf;rw [alu,Nk,G_,xc (by omega) hh,xc hl hh]
 have:(1:Wd).toNat=1:=rfl
 rw [this];omega
theorem aqB {l h:Nat}{w v:Wd}(hs:w.toNat<4294967296)(hw:cw l h&&&bD≠w):jd bD w v (cw l h)=cw l h:=by
 unfold jd;rw [an];intro e;refine hw ?_;have e1:(cw l h&&&bD) ^^^ (w&&&bD)=0:=by rw [<-amA];exact e
 have e2:w&&&bD=w:=by
  apply tf;rw [G_];omega
 rw [e2] at e1;exact BitVec.xor_eq_zero_iff.1 e1
end
section
variable {N:Nm} {c:Lc} {A A':Ab} {G G':Gr} {cap:Int} {q q' x:Qr} {i j:Nat} {pre rest:List El} {e:El} {P:List Int} {n k k' a au δ:Nat} {rs:List Qr} {M M':List (List El)} {ks:Nat->Nat} {V:View} {b:Bs}
theorem alc (f:Qr->Nat)(hf:∀q,f q<=1):∀rs:List Qr,(rs.map f).sum<=rs.length
 |[]=>bq _
 |x::rs=>by have:=alc f hf rs;have:=hf x;simp only [lL,Fx,gU];omega
theorem atg (n:Nx):n.hi<=1:=by
 cases n with
 |change f=>cases f<;>first|exact bq 1|exact h_ 1
 |after f=>cases f<;>first|exact bq 1|exact h_ 1
 |off _=>exact bq 1
 |_=>exact h_ 1
theorem awh (n:Nx):n.kG<=n.hi:=by
 cases n with
 |off _=>exact bq 1
 |_=>exact h_ _
theorem ald (f g:Qr->Nat)(hf:∀q,f q<=g q):∀rs:List Qr,(rs.map f).sum<=(rs.map g).sum
 |[]=>bq _
 |x::rs=>by have:=ald f g hf rs;have:=hf x;simp only [lL,Fx];omega
def cS (rs:List Qr):Nat:=(rs.map (·.nx.kG)).sum
def eJ (rs:List Qr):Nat:=(rs.map (·.nx.hi)).sum
theorem World.cw (W:World N c cap au A G rs ks M):A.ay=cw (M.flatten.length+cS rs) (eJ rs)/\M.flatten.length+cS rs<=64/\eJ rs<=1000/\M.flatten.length+cS rs<=N.E:=by
 have h1:=alc (λq=>q.nx.hi) (λq=>atg q.nx) rs;have h2:=W.wC;have h3:=W.le;have h4:=W.nn;exact ⟨W.ay,by unfold cS;omega,by unfold eJ;omega,h3⟩
theorem XQ (ha:rs[a]? =some q):cS (rs.set a q')+q.nx.kG=cS rs+q'.nx.kG:=MD (λq=>q.nx.kG) ha
theorem Wl (ha:rs[a]? =some q):eJ (rs.set a q')+q.nx.hi=eJ rs+q'.nx.hi:=MD (λq=>q.nx.hi) ha
theorem Hp (ha:rs[a]? =some q){o o':Nat}(h:q.nx.kG=o)(h':q'.nx.kG=o'):cS (rs.set a q')+o=cS rs+o':=by rw [<-h,<-h'];exact XQ ha
theorem GK (ha:rs[a]? =some q){o o':Nat}(h:q.nx.hi=o)(h':q'.nx.hi=o'):eJ (rs.set a q')+o=eJ rs+o':=by rw [<-h,<-h'];exact Wl ha
theorem gX.bo (W:World N c cap au A G rs ks M)(ha:rs[a]? =some q)(hm:Mem c cap {A with bo:=A.bo+1} (q'.aB++cT rs a) G')(hh:q.holds=true)(Km:q'.holds=true)(hr:q'.room=q.room)(hn:∀t th,q'.nx≠.enter t th)
  (hV:∀h∈cT rs a,G'.S.V h=G.S.V h)(hf:Fact N c {A with bo:=A.bo+1} M G'.S.V q' k')(hi:q'.nx.hi=q.nx.hi)(ho:q'.nx.kG=q.nx.kG)(hp:q.nx.nD=false)(hs:q'.nx.scan N.B q'.room=Option.none) :
  gX N c cap au A G rs M a q q' {A with bo:=A.bo+1} G' M k' N.sz:=by
 have s1:=XQ (q':=q') ha;have s2:=Wl (q':=q') ha;rw [ho] at s1;rw [hi] at s2;have qH:cS (rs.set a q')=cS rs:=by omega
 have Mi:eJ (rs.set a q')=eJ rs:=by omega
 have htm:=W.tm;have aE:(A.bo+1).toNat=A.bo.toNat+1:=by
  rw [Nk]
  have:(1:Wd).toNat=1:=rfl
  rw [this];omega
 refine ⟨hm,rfl,rfl,⟨by show A.mb<=_;omega,by show (A.bo+1).toNat<=_;omega⟩,W.lG ha rfl rfl hh Km hr hn,λj h=>?_,hV,hf,⟨.inr ⟨by show _<(A.bo+1).toNat;omega,bq _⟩,.inl rfl,.inl rfl⟩,?_,?_,λi _ _ h=>?_,W.iO,λh=>?_,js (lJ hs)⟩
 ·rcases h with h|h<;>exact absurd rfl h
 ·show A.ay=BitVec.ofNat 64 (M.flatten.length+cS (rs.set a q')+4294967296*eJ (rs.set a q'));rw [qH,Mi];exact W.ay
 ·show M.flatten.length+cS (rs.set a q')<=_;rw [qH];exact W.le
 ·rcases h with h|h|h
  ·rw [hp] at h;cases h
  ·exact absurd rfl h
  ·exact absurd rfl h
 ·have h:A.bo+1=A.bo:=h;rw [h] at aE;omega
theorem AR (hd:q.dn=false){m:Nx}(h:m.holds=true)(hl:m.lv=false):(({q with aj:=false}:Qr).to m).holds=true:=by
 show (m.holds&& !(q.dn&&m.lv))=true;rw [h,hl,hd];rfl
theorem Vk (hd:q.dn=false){m:Nx}{no el:Int}{rv:List Wd}{rk:Wd}(h:m.holds=true)(hl:m.lv=false):((({q with aj:=false}:Qr).dH no rv rk el).to m).holds=true:=by
 show (m.holds&& !(q.dn&&m.lv))=true;rw [h,hl,hd];rfl
theorem aCw (W:World N c cap au A G rs ks M)(ha:rs[a]? =some q)(hd:q.dn=false)(hn:q.nx=.take):j4 N c cap au A G rs ks M a q (q.step c G b):=by
 have M0:=W.jN ha;have cA:q.aB=[]:=by unfold Qr.aB;rw [hn];rfl
 rw [cA] at M0;have bK:q.fx=false:=by unfold Qr.fx;rw [hd,hn];rfl
 have cJ:q.holds=true:=by rw [holds_of hd,hn];rfl
 rcases W.fact a q ha with h|⟨i,h⟩
 ·rw [hd] at h;cases h
 rw [hn] at h;have⟨⟨pre,e,rest,I,hu,ek,hb⟩,k1,k2,k3,k4,hk⟩:=h;have⟨G1,s1,s2⟩:=axs (b:=b) (q:={q with aj:=false}) M0;rw [aK hd hn,s1];have eG:G1=G.mem (G.S.acc c.h 0 true (ic tick)).2:=(hZ Prod.snd s1).symm;have hV:∀h,h≠c.h->G1.S.V h=G.S.V h:=λh hh=>by rw [eG];exact vO hh
 have⟨c1,c2,c3,c4⟩:=W.cw;have o1:=XQ (q':=({q with aj:=false}:Qr).to (.change (.take .gZ))) ha;have o2:=Wl (q':=({q with aj:=false}:Qr).to (.change (.take .gZ))) ha;rw [hn] at o1 o2;have o1:cS (rs.set a (({q with aj:=false}:Qr).to (.change (.take .gZ))))=cS rs:=o1;have o2:eJ (rs.set a (({q with aj:=false}:Qr).to (.change (.take .gZ))))=eJ rs+1:=o2;have yr:A.ay+tick=Go.Proofs.YtjggeoghlicmdaaGreat.cw (M.flatten.length+cS rs) (eJ rs+1):=by rw [c1];exact aqC (by omega) (by omega)
 refine ⟨{A with ay:=A.ay+tick},M,6+N.cr+2*N.c2,0,none,⟨s2,rfl,rfl,⟨by have:=W.tm;show A.mb<=_;omega,by have:=W.tm;show A.bo.toNat<=_;omega⟩,W.lG ha rfl rfl cJ (AR hd rfl rfl) rfl (λ_ _ h=>by cases h),λj h=>?_,λh hh=>hV h (W.wy ha hh),.inr ⟨i,rfl,⟨pre,e,rest,I.to rfl rfl rfl rfl,hu,ek,hb⟩,k1,k2,k3,k4,bq _⟩,⟨.inl rfl,.inl rfl,.inl ?_⟩,?_,?_,λi _ _ h=>?_,W.iO,λ_=>⟨λh=>(by cases h),λj h=>absurd rfl h⟩,js (lJ rfl)⟩,
  Vs.own hV,.inr ⟨rfl,rfl,rfl,rfl,rfl,rfl,rfl⟩,⟨?_,λh=>by rw [bK] at h;cases h⟩,.inl (by omega),by rw [eG],⟨rfl,rfl,rfl,rfl⟩⟩
 ·rcases h with h|h<;>exact absurd rfl h
 ·show (A.ay+tick)&&&bD=A.ay&&&bD;apply tf;rw [yr,c1,OL (by omega) (by omega),OL (by omega) (by omega)]
 ·show A.ay+tick=BitVec.ofNat 64 (M.flatten.length+cS (rs.set a _)+4294967296*eJ (rs.set a _));rw [o1,o2];exact yr
 ·show M.flatten.length+cS (rs.set a _)<=_;rw [o1];exact c4
 ·rcases h with h|h|h
  ·rw [hn] at h;cases h
  ·exact absurd rfl h
  ·exact absurd rfl h
 ·rw [bK];show (q.dn||false)=_;rw [hd];rfl
theorem aCg {w:Aw}(W:World N c cap au A G rs ks M)(ha:rs[a]? =some q)(hd:q.dn=false)(hn:q.nx=.change (.take w)):j4 N c cap au A G rs ks M a q (q.step c G b):=by
 have M0:=W.jN ha;have cA:q.aB=[]:=by unfold Qr.aB;rw [hn];rfl
 rw [cA] at M0;have bK:q.fx=false:=by unfold Qr.fx;rw [hd,hn];rfl
 have cJ:q.holds=true:=by rw [holds_of hd,hn];rfl
 rcases W.fact a q ha with h|⟨i,h⟩
 ·rw [hd] at h;cases h
 rw [hn] at h;have⟨k0,⟨pre,e,rest,I,hu,ek,hb⟩,k1,k2,k3,k4,hk⟩:=h;have⟨G1,s1,s2⟩:=akQ (b:=b) (q:={q with aj:=false}) M0 (.take w);rw [aK hd hn,s1];have eG:G1=G.mem (G.S.acc c.h 1 true (ic 1)).2:=(hZ Prod.snd s1).symm;have hV:∀h,h≠c.h->G1.S.V h=G.S.V h:=λh hh=>by rw [eG];exact vO hh
 have Ke:N.cr=N.n*N.sz:=rfl;refine ⟨{A with bo:=A.bo+1},M,5+2*N.c2,N.sz,none,gX.bo W ha s2 cJ (AR hd rfl rfl) rfl (λ_ _ h=>by cases h) (λh hh=>hV h (W.wy ha hh)) (.inr ⟨i,k0,⟨pre,e,rest,I.to rfl rfl rfl rfl,hu,ek,hb⟩,k1,k2,k3,k4,bq _⟩) (by rw [hn];rfl) (by rw [hn];rfl) (by rw [hn];rfl) rfl,
  Vs.own hV,.inr ⟨rfl,rfl,rfl,rfl,rfl,rfl,rfl⟩,⟨?_,λh=>by rw [bK] at h;cases h⟩,.inl (by omega),by rw [eG],⟨rfl,rfl,rfl,rfl⟩⟩
 rw [bK];show (q.dn||false)=_;rw [hd];rfl
theorem aCh (W:World N c cap au A G rs ks M)(ha:rs[a]? =some q)(hd:q.dn=false)(hn:q.nx=.drop):j4 N c cap au A G rs ks M a q (q.step c G b):=by
 have M0:=W.jN ha;have cA:q.aB=[]:=by unfold Qr.aB;rw [hn];rfl
 rw [cA] at M0;have bK:q.fx=false:=by unfold Qr.fx;rw [hd,hn];rfl
 have cJ:q.holds=true:=by rw [holds_of hd,hn];rfl
 rcases W.fact a q ha with h|⟨i,h⟩
 ·rw [hd] at h;cases h
 rw [hn] at h;have⟨⟨pre,e,rest,I,hu,ek,hb⟩,k3,hk⟩:=h;have⟨G1,s1,s2⟩:=axj (b:=b) (q:={q with aj:=false}) M0;rw [aK hd hn,s1];have eG:G1=G.mem (G.S.acc c.h 1 true (ic 1)).2:=(hZ Prod.snd s1).symm;have hV:∀h,h≠c.h->G1.S.V h=G.S.V h:=λh hh=>by rw [eG];exact vO hh
 have Ke:N.cr=N.n*N.sz:=rfl;refine ⟨{A with bo:=A.bo+1},M,4+N.c2,N.sz,none,gX.bo W ha s2 cJ (AR hd rfl rfl) rfl (λ_ _ h=>by cases h) (λh hh=>hV h (W.wy ha hh)) (.inr ⟨i,⟨pre,e,rest,I.to rfl rfl rfl rfl,hu,ek,hb⟩,k3,bq _⟩) (by rw [hn];rfl) (by rw [hn];rfl) (by rw [hn];rfl) rfl,
  Vs.own hV,.inr ⟨rfl,rfl,rfl,rfl,rfl,rfl,rfl⟩,⟨?_,λh=>by rw [bK] at h;cases h⟩,.inl (by omega),by rw [eG],⟨rfl,rfl,rfl,rfl⟩⟩
 rw [bK];show (q.dn||false)=_;rw [hd];rfl
end
section
variable {N:Nm} {c:Lc} {A A':Ab} {G G':Gr} {cap:Int} {q q' x:Qr} {i j:Nat} {pre rest:List El} {e:El} {P:List Int} {n k k' a au δ:Nat} {rs:List Qr} {M M':List (List El)} {ks:Nat->Nat} {V:View} {b:Bs}
theorem Mq {α:Type}{l:List α}{i j:Nat}{y:α}(h:(l.set i y)[j]? ≠l[j]?):j=i/\i<l.length:=by
 rw [mD] at h;by_cases e:i=j
 ·rw [ar e] at h;subst e;by_cases h2:i<l.length
  ·exact ⟨rfl,h2⟩
  ·rw [an h2,ji (by omega)] at h;exact absurd rfl h
 ·rw [an e] at h;exact absurd rfl h
theorem E4 {α:Type}{l:List α}{i:Nat}{y:α}(h:i<l.length):(l.set i y)[i]? =some y:=by rw [mD,ar rfl,ar h]
theorem Gf {l l':List El}:∀{M:List (List El)}{i:Nat},M[i]? =some l->∀r,((M.set i l').drop r).flatten.length+(if r<=i then l.length else 0)=(M.drop r).flatten.length+(if r<=i then l'.length else 0)
 |x::M,0,h,0=>by
  obtain rfl:x=l:=by simpa using h
  simp only [Nd,Ig,s_,e_];simp;omega
 |x::M,0,h,r+1=>by simp
 |x::M,i+1,h,0=>by
  have:=Gf (l':=l') (M:=M) (i:=i) (l:=l) (by simpa using h) 0
  simp only [Nf,Ig,s_,e_] at this⊢;simp at this⊢;omega
 |x::M,i+1,h,r+1=>by
  have:=Gf (l':=l') (M:=M) (i:=i) (l:=l) (by simpa using h) r
  simp only [Nf,aaw,Nat.add_le_add_iff_right] at this⊢;exact this
theorem aeI (h:M[i]? =some (pre++e::rest)):(M.set i (pre++rest)).flatten.length+1=M.flatten.length:=by
 have:=Gf (l':=pre++rest) h 0
 simp only [Ig,h_,pc,e_,gU] at this;omega
theorem ao7 {y:El}(h:M[i]? =some (pre++rest)):(M.set i (pre++y::rest)).flatten.length=M.flatten.length+1:=by
 have:=Gf (l':=pre++y::rest) h 0
 simp only [Ig,h_,pc,e_,gU] at this;omega
theorem aeH (h:M[i]? =some (pre++e::rest))(r:Nat):((M.set i (pre++rest)).drop r).flatten.length<=(M.drop r).flatten.length+1:=by
 have:=Gf (l':=pre++rest) h r
 simp only [e_,gU] at this;split at this<;>omega
theorem ao6 {y:El}(h:M[i]? =some (pre++rest))(r:Nat):((M.set i (pre++y::rest)).drop r).flatten.length<=(M.drop r).flatten.length+1:=by
 have:=Gf (l':=pre++y::rest) h r
 simp only [e_,gU] at this;split at this<;>omega
theorem wS.cut (h:wS c i (pre++e::rest)):wS c i (pre++rest):=
 ⟨List.Pairwise.sublist (List.Sublist.append_left (List.sublist_cons_self ..) pre) h.1,λx hx=>h.2 x (by
  rcases dV.1 hx with hx|hx
  ·exact iZ _ hx
  ·exact mE _ (jh _ hx))⟩
theorem Zv (W:∀j l,M[j]? =some l->wS c j l){l:List El}(h:wS c i l):∀j l',(M.set i l)[j]? =some l'->wS c j l':=λj l' hj=>by
 rw [mD] at hj
 by_cases e:i=j
 ·rw [ar e] at hj
  subst e
  split at hj
  ·obtain rfl:=dM hj;exact h
  ·cases hj
 ·rw [an e] at hj;exact W j l' hj
theorem aCc {w:Aw}(W:World N c cap au A G rs ks M)(ha:rs[a]? =some q)(hd:q.dn=false)(hn:q.nx=.after (.take w)):j4 N c cap au A G rs ks M a q (q.step c G b):=by
 have M0:=W.jN ha;have cA:q.aB=[]:=by unfold Qr.aB;rw [hn];rfl
 rw [cA] at M0;have bK:q.fx=false:=by unfold Qr.fx;rw [hd,hn];rfl
 have cJ:q.holds=true:=by rw [holds_of hd,hn];rfl
 have nq:q.ie=true:=by unfold Qr.ie;rw [hn];rfl
 rcases W.fact a q ha with h|⟨i,h⟩
 ·rw [hd] at h;cases h
 rw [hn] at h;have⟨k0,⟨pre,e,rest,I,hu,ek,hb⟩,k1,k2,k3,k4,hk⟩:=h;have hM:M[i]? =some (pre++e::rest):=by rw [W.u5 ha cJ (by rw [hn];rfl) I.room I.lt];exact I.ls
 have Ko:i<M.length:=by rw [W.cx];exact I.lt
 have⟨G1,s1,s2⟩:=axf (b:=b) (q:={q with aj:=false}) M0 I.el hu w;rw [aK hd hn,s1];have eG:G1=G.mem (G.S.acc q.cur 2 true id).2:=(hZ Prod.snd s1).symm;have hV:∀h,G1.S.V h=G.S.V h:=λh=>by rw [eG];exact vN h
 have⟨c1,c2,c3,c4⟩:=W.cw;have o1:cS (rs.set a ((({q with aj:=false}:Qr).dH 0 [val G.S e.h] 0 0).to (.off w)))=cS rs+1:=by have:=Hp (q':=(({q with aj:=false}:Qr).dH 0 [val G.S e.h] 0 0).to (.off w)) ha (o:=0) (o':=1) (by rw [hn];rfl) rfl;omega
 have o2:eJ (rs.set a ((({q with aj:=false}:Qr).dH 0 [val G.S e.h] 0 0).to (.off w)))=eJ rs:=by have:=GK (q':=(({q with aj:=false}:Qr).dH 0 [val G.S e.h] 0 0).to (.off w)) ha (o:=1) (o':=1) (by rw [hn];rfl) rfl;omega
 have hlen:=aeI hM;have Aa:N.c2=N.n*4:=rfl;refine ⟨A,M.set i (pre++rest),4+N.c2,4,none,⟨s2,rfl,gT,⟨by have:=W.tm;omega,by have:=W.tm;omega⟩,W.lG ha rfl rfl cJ (Vk hd rfl rfl) rfl (λ_ _ h=>by cases h),λj h=>?_,λh _=>hV h,.inr ⟨i,k0,⟨pre,e,rest,I.same rfl rfl rfl,hu,E4 Ko⟩,bq _⟩,⟨.inl rfl,.inr ⟨bq _,rfl,aeH hM⟩,.inl rfl⟩,?_,?_,λi' _ hr _ h=>?_,Zv W.iO (W.iO i _ hM).cut,λ_=>⟨λh=>(by cases h),λ_ _=>nq⟩,js (lJ rfl)⟩,
  Vs.same hV,.inl ⟨rfl,?_⟩,⟨?_,λh=>by rw [bK] at h;cases h⟩,.inl (by omega),by rw [eG],⟨rfl,rfl,rfl,rfl⟩⟩
 ·rcases h with h|h
  ·exact absurd rfl h
  ·obtain ⟨rfl,_⟩:=Mq h;exact ⟨cJ,I.room⟩
 ·show A.ay=BitVec.ofNat 64 ((M.set i (pre++rest)).flatten.length+cS (rs.set a _)+4294967296*eJ (rs.set a _));rw [o1,o2,c1];unfold Go.Proofs.YtjggeoghlicmdaaGreat.cw;congr 1;omega
 ·show (M.set i (pre++rest)).flatten.length+cS (rs.set a _)<=_;rw [o1];omega
 ·have h:true=false:=h hr hd;cases h
 ·exact .MG k1 k2 k3 k4 ⟨hb,hM,ek⟩
 ·rw [bK];show (q.dn||true)=true;rw [hd];rfl
theorem aCq {w:Aw}(W:World N c cap au A G rs ks M)(ha:rs[a]? =some q)(hd:q.dn=false)(hn:q.nx=.off w):j4 N c cap au A G rs ks M a q (q.step c G b):=by
 have M0:=W.jN ha;have cA:q.aB=[]:=by unfold Qr.aB;rw [hn];rfl
 rw [cA] at M0;have bK:q.fx=true:=by unfold Qr.fx;rw [hd,hn];rfl
 have cJ:q.holds=true:=by rw [holds_of hd,hn];rfl
 rcases W.fact a q ha with h|⟨i,h⟩
 ·rw [hd] at h;cases h
 rw [hn] at h;have⟨k0,⟨pre,e,rest,I,hu,hM⟩,hk⟩:=h;have⟨G1,s1,s2⟩:=axp (b:=b) (q:={q with aj:=false}) M0 w;rw [aK hd hn,s1];have eG:G1=G.mem (G.S.acc c.h 0 true (ic zg)).2:=(hZ Prod.snd s1).symm;have hV:∀h,h≠c.h->G1.S.V h=G.S.V h:=λh hh=>by rw [eG];exact vO hh
 have⟨c1,c2,c3,c4⟩:=W.cw;have p1:=Hp (q':=({q with aj:=false}:Qr).to (.gp w)) ha (o:=1) (o':=0) (by rw [hn];rfl) rfl;have p2:=GK (q':=({q with aj:=false}:Qr).to (.gp w)) ha (o:=1) (o':=0) (by rw [hn];rfl) rfl;have o1:cS (rs.set a (({q with aj:=false}:Qr).to (.gp w)))=cS rs - 1:=by omega
 have o2:eJ (rs.set a (({q with aj:=false}:Qr).to (.gp w)))=eJ rs - 1:=by omega
 have yr:A.ay+zg=Go.Proofs.YtjggeoghlicmdaaGreat.cw (M.flatten.length+(cS rs - 1)) (eJ rs - 1):=by
  rw [c1,show M.flatten.length+cS rs=M.flatten.length+(cS rs - 1)+1 by omega,show eJ rs=eJ rs - 1+1 by omega];exact aqD (by omega) (by omega)
 have Aa:N.c2=N.n*4:=rfl;refine ⟨{A with ay:=A.ay+zg},M,3,4,none,⟨s2,rfl,rfl,⟨by have:=W.tm;show A.mb<=_;omega,by have:=W.tm;show A.bo.toNat<=_;omega⟩,W.lG ha rfl rfl cJ (AR hd rfl rfl) rfl (λ_ _ h=>by cases h),λj h=>?_,λh hh=>hV h (W.wy ha hh),.inr ⟨i,k0,⟨pre,e,rest,I.to rfl rfl rfl rfl,hu,hM⟩,bq _⟩,⟨.inl rfl,.inl rfl,.inr (bq _)⟩,?_,?_,λi _ hr _ h=>?_,W.iO,λ_=>⟨λh=>(by cases h),λj h=>absurd rfl h⟩,js (lJ rfl)⟩,
  Vs.own hV,.inr ⟨rfl,rfl,rfl,rfl,rfl,rfl,rfl⟩,⟨by rw [bK];show (q.dn||true)=true;rw [hd];rfl,λ_=>rfl⟩,.inl (by omega),by rw [eG],⟨rfl,rfl,rfl,rfl⟩⟩
 ·rcases h with h|h<;>exact absurd rfl h
 ·show A.ay+zg=BitVec.ofNat 64 (M.flatten.length+cS (rs.set a _)+4294967296*eJ (rs.set a _));rw [o1,o2];exact yr
 ·show M.flatten.length+cS (rs.set a _)<=_;rw [o1];omega
 ·have h:true=false:=h hr hd;cases h
theorem aCy {w:Aw}(W:World N c cap au A G rs ks M)(ha:rs[a]? =some q)(hd:q.dn=false)(hn:q.nx=.gp w):j4 N c cap au A G rs ks M a q (q.step c G b):=by
 have M0:=W.jN ha;have cA:q.aB=[]:=by unfold Qr.aB;rw [hn];rfl
 rw [cA] at M0;have bK:q.fx=true:=by unfold Qr.fx;rw [hd,hn];rfl
 have cJ:q.holds=true:=by rw [holds_of hd,hn];rfl
 rcases W.fact a q ha with h|⟨i,h⟩
 ·rw [hd] at h;cases h
 rw [hn] at h;have⟨k0,⟨pre,e,rest,I,hu,hM⟩,hk⟩:=h;have⟨G1,s1,s2⟩:=axu (b:=b) (q:={q with aj:=false}) M0 (I.same rfl rfl rfl) hu w;rw [aK hd hn,s1];have eG:G1=G.mem (G.S.acc q.cur 0 true id).2:=(hZ Prod.snd s1).symm;have hV:∀h,G1.S.V h=G.S.V h:=λh=>by rw [eG];exact vN h
 refine ⟨A,M,2,0,none,?_,Vs.same hV,.inr ⟨rfl,rfl,rfl,rfl,rfl,rfl,rfl⟩,⟨by rw [bK];show (q.dn||true)=true;rw [hd];rfl,λ_=>rfl⟩,.inl (by omega),by rw [eG],⟨rfl,rfl,rfl,rfl⟩⟩;exact gX.same W ha s2 rfl rfl rfl (by omega) (W.lG ha rfl rfl cJ (AR hd rfl rfl) rfl (λ_ _ h=>by cases h)) (λh _=>hV h) (.inr ⟨i,k0,bq _,pre,e,rest,I.same rfl rfl rfl,hu,hM,rfl⟩) (by rw [hn];rfl) (by rw [hn];rfl) (λ_=>⟨rfl,rfl,hd⟩) (λh=>by cases h) (js (lJ rfl))
end
section
variable {N:Nm} {c:Lc} {A A':Ab} {G G':Gr} {cap:Int} {q q' x:Qr} {i j:Nat} {pre rest:List El} {e:El} {P:List Int} {n k k' a au δ:Nat} {rs:List Qr} {M M':List (List El)} {ks:Nat->Nat} {V:View} {b:Bs}
theorem ak5 (M0:Mem c cap A P G)(I:In c A i q pre rest){h:Int}(hh:h∈P):h≠q.ah:=by
 rw [I.ah];unfold gM;cases hg:pre.getLast? with
 |none=>exact M0.bk.xL (iZ _ (mE _ hh))
 |some y=>
  have hy:y∈A.av:=Ab.mem I.ls (iZ _ (SA hg));exact λe=>M0.Gh hy hh e.symm
theorem aCz {v:Wd}{w:Aw}(W:World N c cap au A G rs ks M)(ha:rs[a]? =some q)(hd:q.dn=false)(hn:q.nx=.iD v w):j4 N c cap au A G rs ks M a q (q.step c G b):=by
 have M0:=W.jN ha;have cA:q.aB=[]:=by unfold Qr.aB;rw [hn];rfl
 rw [cA] at M0;have bK:q.fx=true:=by unfold Qr.fx;rw [hd,hn];rfl
 have cJ:q.holds=true:=by rw [holds_of hd,hn];rfl
 rcases W.fact a q ha with h|⟨i,h⟩
 ·rw [hd] at h;cases h
 rw [hn] at h;obtain ⟨rfl,hk,pre,e,rest,I,hu,hM,rfl⟩:=h;have⟨u1,u2⟩:=M0.unlink I.ls I.ah I.ai;have⟨d1,d2,d3,d4,d5,d6⟩:=u1.defer b.1;have e1:q.step c G b=(({q with aj:=false}:Qr).to .leave,((G.mem (G.S.acc q.ah q.ai true λ_=>first rest).2).defer e.h b.1).2):=by
  rw [aK hd hn];show (_,((G.mem (G.S.acc q.ah q.ai true λ_=>first rest).2).defer q.cur b.1).2)=_;rw [hu];rfl
 rw [e1];have hV:∀h∈cT rs a,(((G.mem (G.S.acc q.ah q.ai true λ_=>first rest).2).defer e.h b.1).2).S.V h=G.S.V h:=λh hh=>by
  rw [d3 h (jh _ (mE _ hh))];exact vO (ak5 M0 I hh)
 have o1:cS (rs.set a (({q with aj:=false}:Qr).to .leave))=cS rs:=by have:=Hp (q':=({q with aj:=false}:Qr).to .leave) ha (o:=0) (o':=0) (by rw [hn];rfl) rfl;omega
 have o2:eJ (rs.set a (({q with aj:=false}:Qr).to .leave))=eJ rs:=by have:=GK (q':=({q with aj:=false}:Qr).to .leave) ha (o:=0) (o':=0) (by rw [hn];rfl) rfl;omega
 refine ⟨{A with ls:=A.ls.set i (pre++rest)},M,1,0,none,⟨d1,gT,rfl,⟨by have:=W.tm;show A.mb<=_;omega,by have:=W.tm;show A.bo.toNat<=_;omega⟩,W.lG ha rfl rfl cJ (by show (true&& !(q.dn&&true))=true;rw [hd];rfl) rfl (λ_ _ h=>by cases h),λj h=>?_,hV,.inr ⟨i,I.room,?_,bq _⟩,⟨.inl rfl,.inl rfl,.inl rfl⟩,?_,?_,λi' sD hr _ _=>?_,W.iO,λ_=>⟨λh=>(by cases h),λj h=>absurd rfl h⟩,js (lJ rfl)⟩,
  λh h1 _ h3=>?_,.inr ⟨rfl,rfl,rfl,rfl,rfl,rfl,rfl⟩,⟨by rw [bK];show (q.dn||true)=true;rw [hd];rfl,λ_=>rfl⟩,.inl (by omega),d4,⟨rfl,rfl,rfl,rfl⟩⟩
 ·rcases h with h|h
  ·obtain ⟨rfl,_⟩:=Mq h;exact ⟨cJ,I.room⟩
  ·exact absurd rfl h
 ·show i<(A.ls.set i (pre++rest)).length;rw [gT];exact I.lt
 ·show A.ay=BitVec.ofNat 64 (M.flatten.length+cS (rs.set a _)+4294967296*eJ (rs.set a _));rw [o1,o2];exact W.ay
 ·show M.flatten.length+cS (rs.set a _)<=_;rw [o1];exact W.le
 ·have ei:i'=i:=by have:=I.room;omega
  subst ei;show M[i']? =(A.ls.set i' (pre++rest))[i']?;rw [hM,E4 sD]
 ·have e2:=d2 h h3;have⟨u3,u4⟩:=u2 h h1;rw [e2] at h3;refine ⟨u4 h3,?_⟩;show val _ h=val G.S h;rw [<-u3];unfold val;rw [e2]
theorem aCb (W:World N c cap au A G rs ks M)(ha:rs[a]? =some q)(hd:q.dn=false)(hn:q.nx=.after .drop):j4 N c cap au A G rs ks M a q (q.step c G b):=by
 have M0:=W.jN ha;have cA:q.aB=[]:=by unfold Qr.aB;rw [hn];rfl
 rw [cA] at M0;have bK:q.fx=false:=by unfold Qr.fx;rw [hd,hn];rfl
 have cJ:q.holds=true:=by rw [holds_of hd,hn];rfl
 have nq:q.ie=true:=by unfold Qr.ie;rw [hn];rfl
 rcases W.fact a q ha with h|⟨i,h⟩
 ·rw [hd] at h;cases h
 rw [hn] at h;have⟨⟨pre,e,rest,I,hu,ek,hb⟩,k3,hk⟩:=h;have hM:M[i]? =some (pre++e::rest):=by rw [W.u5 ha cJ (by rw [hn];rfl) I.room I.lt];exact I.ls
 have Ko:i<M.length:=by rw [W.cx];exact I.lt
 have⟨G1,s1,s2⟩:=axe (b:=b) (q:={q with aj:=false}) M0;rw [aK hd hn,s1];have eG:G1=G.mem (G.S.acc c.h 0 true (lz 0 bD bD)).2:=(hZ Prod.snd s1).symm;have hV:∀h,h≠c.h->G1.S.V h=G.S.V h:=λh hh=>by rw [eG];exact vO hh
 have⟨c1,c2,c3,c4⟩:=W.cw;have o1:cS (rs.set a ((({q with aj:=false}:Qr).dH 0 [] 0 0).to (.gp .gZ)))=cS rs:=by have:=Hp (q':=(({q with aj:=false}:Qr).dH 0 [] 0 0).to (.gp .gZ)) ha (o:=0) (o':=0) (by rw [hn];rfl) rfl;omega
 have o2:eJ (rs.set a ((({q with aj:=false}:Qr).dH 0 [] 0 0).to (.gp .gZ)))=eJ rs:=by have:=GK (q':=(({q with aj:=false}:Qr).dH 0 [] 0 0).to (.gp .gZ)) ha (o:=0) (o':=0) (by rw [hn];rfl) rfl;omega
 have hlen:=aeI hM;have Aa:N.c2=N.n*4:=rfl;have yr:lz 0 bD bD A.ay=Go.Proofs.YtjggeoghlicmdaaGreat.cw ((M.set i (pre++rest)).flatten.length+cS rs) (eJ rs):=by
  rw [c1,show M.flatten.length+cS rs=(M.set i (pre++rest)).flatten.length+cS rs+1 by omega];exact aqz (by omega) (by omega)
 refine ⟨{A with ay:=lz 0 bD bD A.ay},M.set i (pre++rest),3,4,none,⟨s2,rfl,gT,⟨by have:=W.tm;show A.mb<=_;omega,by have:=W.tm;show A.bo.toNat<=_;omega⟩,W.lG ha rfl rfl cJ (Vk hd rfl rfl) rfl (λ_ _ h=>by cases h),λj h=>?_,λh hh=>hV h (W.wy ha hh),.inr ⟨i,rfl,⟨pre,e,rest,I.to rfl rfl rfl rfl,hu,E4 Ko⟩,bq _⟩,⟨.inl rfl,.inr ⟨bq _,rfl,aeH hM⟩,.inr (bq _)⟩,?_,?_,λi' _ hr _ h=>?_,Zv W.iO (W.iO i _ hM).cut,λ_=>⟨λh=>(by cases h),λ_ _=>nq⟩,js (lJ rfl)⟩,
  Vs.own hV,.inl ⟨rfl,.del k3 ⟨hb,hM,ek⟩⟩,⟨?_,λh=>by rw [bK] at h;cases h⟩,.inl (by omega),by rw [eG],⟨rfl,rfl,rfl,rfl⟩⟩
 ·rcases h with h|h
  ·exact absurd rfl h
  ·obtain ⟨rfl,_⟩:=Mq h;exact ⟨cJ,I.room⟩
 ·show lz 0 bD bD A.ay=BitVec.ofNat 64 ((M.set i (pre++rest)).flatten.length+cS (rs.set a _)+4294967296*eJ (rs.set a _));rw [o1,o2];exact yr
 ·show (M.set i (pre++rest)).flatten.length+cS (rs.set a _)<=_;rw [o1];omega
 ·have h:true=false:=h hr hd;cases h
 ·rw [bK];show (q.dn||true)=true;rw [hd];rfl
end
section
variable {N:Nm} {c:Lc} {A A':Ab} {G G':Gr} {cap:Int} {q q' x:Qr} {i j:Nat} {pre rest:List El} {e:El} {P:List Int} {n k k' a au δ:Nat} {rs:List Qr} {M M':List (List El)} {ks:Nat->Nat} {V:View} {b:Bs}
theorem Hw (W:World N c cap au A G rs ks M)(ha:rs[a]? =some q)(hp:q.aB=[q.made]):q.made∉cT rs a/\q.made≠c.h/\1<=q.made/\q.made<=G.S.made:=by
 have M0:=W.jN ha;rw [hp] at M0;have nd:=(l_.1 M0.bk.AB).2;have nd:=(jG.1 (jG.1 nd).1).2.1;have hb:=M0.bd (h:=q.made) (by simp);exact ⟨(l_.1 nd).1,M0.bk.xL (iZ _ (mE _ (by simp))),hb.1,hb.2.1⟩
theorem aCm (W:World N c cap au A G rs ks M)(ha:rs[a]? =some q)(hd:q.dn=false)(hn:q.nx=.link):j4 N c cap au A G rs ks M a q (q.step c G b):=by
 have M0:=W.jN ha;have cA:q.aB=[q.made]:=by unfold Qr.aB;rw [hn];rfl
 have⟨w1,w2,_⟩:=Hw W ha cA;rw [cA] at M0;have bK:q.fx=true:=by unfold Qr.fx;rw [hd,hn];rfl
 have cJ:q.holds=true:=by rw [holds_of hd,hn];rfl
 rcases W.fact a q ha with h|⟨i,h⟩
 ·rw [hd] at h;cases h
 rw [hn] at h;have⟨hm,hk,pre,rest,I,hv,hM⟩:=h;have⟨u1,u2⟩:=M0.link I.ls hv I.ah I.ai;have e1:q.step c G b=(({q with aj:=false}:Qr).to .leave,G.mem (G.S.acc q.ah q.ai true λ_=>BitVec.ofInt 64 q.made).2):=by rw [aK hd hn];rfl
 rw [e1];have hV:∀h∈cT rs a,(G.mem (G.S.acc q.ah q.ai true λ_=>BitVec.ofInt 64 q.made).2).S.V h=G.S.V h:=λh hh=>vO (ak5 M0 I (jh _ hh))
 have o1:cS (rs.set a (({q with aj:=false}:Qr).to .leave))=cS rs:=by have:=Hp (q':=({q with aj:=false}:Qr).to .leave) ha (o:=0) (o':=0) (by rw [hn];rfl) rfl;omega
 have o2:eJ (rs.set a (({q with aj:=false}:Qr).to .leave))=eJ rs:=by have:=GK (q':=({q with aj:=false}:Qr).to .leave) ha (o:=0) (o':=0) (by rw [hn];rfl) rfl;omega
 refine ⟨{A with ls:=A.ls.set i (pre++⟨q.made,q.ky⟩::rest)},M,1,0,none,⟨u1,gT,rfl,⟨by have:=W.tm;show A.mb<=_;omega,by have:=W.tm;show A.bo.toNat<=_;omega⟩,W.lG ha rfl rfl cJ (by show (true&& !(q.dn&&true))=true;rw [hd];rfl) rfl (λ_ _ h=>by cases h),λj h=>?_,hV,.inr ⟨i,I.room,?_,bq _⟩,⟨.inl rfl,.inl rfl,.inl rfl⟩,?_,?_,λi' sD hr _ _=>?_,W.iO,λ_=>⟨λh=>(by cases h),λj h=>absurd rfl h⟩,js (lJ rfl)⟩,
  λh h1 _ h3=>⟨(u2 h h1).2 h3,(u2 h h1).1⟩,.inr ⟨rfl,rfl,rfl,rfl,rfl,rfl,rfl⟩,⟨by rw [bK];show (q.dn||true)=true;rw [hd];rfl,λ_=>rfl⟩,.inl (by omega),rfl,⟨rfl,rfl,rfl,rfl⟩⟩
 ·rcases h with h|h
  ·obtain ⟨rfl,_⟩:=Mq h;exact ⟨cJ,I.room⟩
  ·exact absurd rfl h
 ·show i<(A.ls.set i _).length;rw [gT];exact I.lt
 ·show A.ay=BitVec.ofNat 64 (M.flatten.length+cS (rs.set a _)+4294967296*eJ (rs.set a _));rw [o1,o2];exact W.ay
 ·show M.flatten.length+cS (rs.set a _)<=_;rw [o1];exact W.le
 ·have ei:i'=i:=by have:=I.room;omega
  subst ei;show M[i']? =(A.ls.set i' _)[i']?;rw [hM,E4 sD]
theorem World.aiD (W:World N c cap au A G rs ks M){l:List El}(hl:M[j]? =some l){y:El}(hy:y∈l):y∈A.av∨∃(b:Nat)(x:Qr),rs[b]? =some x/\x.nx=.link/\y.h=x.made:=by
 have hj:j<A.ls.length:=by rw [<-W.cx];exact (bJ.1 hl).1
 by_cases hp:∀(a:Nat)(q:Qr),rs[a]? =some q->q.room=(j:Int)->q.dn=false->q.nx.nD=false
 ·have:=W.rel j hj hp
  rw [hl] at this;exact .inl (Ab.mem this.symm hy)
 ·have⟨b,x,hx,hr,hd,hpd⟩:∃(b:Nat)(x:Qr),rs[b]? =some x/\x.room=(j:Int)/\x.dn=false/\x.nx.nD=true:=by
   refine rT λaW=>hp λb x hx hr hd=>rT λh=>aW ⟨b,x,hx,hr,hd,by simpa using h⟩
  have out:∀{i:Nat},ID c A M i x->y∈A.av:=λ{i} ⟨pre,e,rest,I,_,hM⟩=>by
   have ei:i=j:=by have:=I.room;omega
   subst ei;rw [hl] at hM;obtain rfl:=dM hM;refine Ab.mem I.ls ?_;rcases dV.1 hy with h|h
   ·exact iZ _ h
   ·exact mE _ (jh _ h)
  rcases W.fact b x hx with h|⟨i,h⟩
  ·rw [hd] at h;cases h
  cases hn:x.nx with
  |link=>
   rw [hn] at h;have⟨_,_,pre,rest,I,_,hM⟩:=h;have ei:i=j:=by have:=I.room;omega
   subst ei;rw [hl] at hM;obtain rfl:=dM hM;rcases dV.1 hy with h|h
   ·exact .inl (Ab.mem I.ls (iZ _ h))
   ·rcases dU.1 h with rfl|h
    ·exact .inr ⟨b,x,hx,hn,rfl⟩
    ·exact .inl (Ab.mem I.ls (mE _ h))
  |off w=>rw [hn] at h;exact .inl (out h.2.1)
  |gp w=>rw [hn] at h;exact .inl (out h.2.1)
  |iD v w=>
   rw [hn] at h;have⟨_,_,pre,e,rest,I,hu,hM,_⟩:=h;exact .inl (out ⟨pre,e,rest,I,hu,hM⟩)
  |_=>rw [hn] at hpd;cases hpd
theorem aCa (W:World N c cap au A G rs ks M)(ha:rs[a]? =some q)(hd:q.dn=false)(hn:q.nx=.after .add):j4 N c cap au A G rs ks M a q (q.step c G b):=by
 have M0:=W.jN ha;have cA:q.aB=[q.made]:=by unfold Qr.aB;rw [hn];rfl
 have⟨w1,w2,_⟩:=Hw W ha cA;have bK:q.fx=false:=by unfold Qr.fx;rw [hd,hn];rfl
 have cJ:q.holds=true:=by rw [holds_of hd,hn];rfl
 have nq:q.ie=true:=by unfold Qr.ie;rw [hn];rfl
 rcases W.fact a q ha with h|⟨i,h⟩
 ·rw [hd] at h;cases h
 rw [hn] at h;have⟨⟨hm,hv⟩,⟨pre,rest,I,hu,u7,sE,hb,kB,mM⟩,hE,hk⟩:=h;have hM:M[i]? =some (pre++rest):=by rw [W.u5 ha cJ (by rw [hn];rfl) I.room I.lt];exact I.ls
 have Ko:i<M.length:=by rw [W.cx];exact I.lt
 have⟨G1,s2,s1,s3⟩:=axd (b:=b) (q:={q with aj:=false}) M0;have eG:G1=G.mem (kR c .add {q with aj:=false} G.S).2:=(hZ Prod.snd s1).symm;have hV:∀h,h≠c.h->G1.S.V h=G.S.V h:=λh hh=>by
  have:=congrFun s3 h
  rw [this,an hh]
 have uZ:G1.ins=G.ins:=by rw [eG]
 have⟨c1,c2,c3,c4⟩:=W.cw;have Aa:N.c2=N.n*4:=rfl;rw [aK hd hn,s1];by_cases e:A.ay&&&bD=q.bg
 ·
  have UW:(if A.ay&&&bD=({q with aj:=false}:Qr).bg then (({q with aj:=false}:Qr).dH 0 [] 0 0).to .link else ({q with aj:=false}:Qr).to .space)=(({q with aj:=false}:Qr).dH 0 [] 0 0).to .link:=ar e;rw [UW];have hk:3+N.c2<=ks a:=by omega
  have aDG:(M.flatten.length+cS rs)<N.E:=by
   rw [<-e,c1,OL (by omega) (by omega)] at hE;exact hE
  have o1:cS (rs.set a ((({q with aj:=false}:Qr).dH 0 [] 0 0).to .link))=cS rs:=by have:=Hp (q':=(({q with aj:=false}:Qr).dH 0 [] 0 0).to .link) ha (o:=0) (o':=0) (by rw [hn];rfl) rfl;omega
  have o2:eJ (rs.set a ((({q with aj:=false}:Qr).dH 0 [] 0 0).to .link))=eJ rs:=by have:=GK (q':=(({q with aj:=false}:Qr).dH 0 [] 0 0).to .link) ha (o:=0) (o':=0) (by rw [hn];rfl) rfl;omega
  have hlen:=ao7 (y:=⟨q.made,q.ky⟩) hM;have yr:jd bD q.bg (q.bg+1) A.ay=Go.Proofs.YtjggeoghlicmdaaGreat.cw ((M.set i (pre++⟨q.made,q.ky⟩::rest)).flatten.length+cS rs) (eJ rs):=by
   have hw:Go.Proofs.YtjggeoghlicmdaaGreat.cw (M.flatten.length+cS rs) (eJ rs)&&&bD=q.bg:=by rw [<-c1];exact e
   rw [c1,show (M.set i (pre++⟨q.made,q.ky⟩::rest)).flatten.length+cS rs=M.flatten.length+cS rs+1 by omega];exact aqA (by omega) (by omega) hw
  have KE:=W.iO i _ hM;have pM:=Is.1 KE.1;have atZ:wS c i (pre++⟨q.made,q.ky⟩::rest):=by
   refine ⟨Is.2 ⟨pM.1,Bf.2 ⟨λy hy=>sE y hy,pM.2.1⟩,λy hy z hz=>?_⟩,λy hy=>?_⟩
   ·rcases dU.1 hz with rfl|hz
    ·exact u7 y hy
    ·exact pM.2.2 y hy z hz
   ·rcases dV.1 hy with hy|hy
    ·exact KE.2 y (iZ _ hy)
    ·rcases dU.1 hy with rfl|hy
     ·exact hb
     ·exact KE.2 y (mE _ hy)
  have nt:q.made∉M.flatten.map El.h:=λhh=>by
   have⟨y,hy,ey⟩:=cL.1 hh;have⟨l,hl,hy⟩:=zo.1 hy;have⟨j,hj⟩:=qV hl;rcases W.aiD hj hy with h|⟨b2,x,hx,xq,GZ⟩
   ·exact M0.Gh h (by rw [cA];exact .head _) ey
   ·have GD:b2≠a:=λh=>by
     subst h;rw [ha] at hx;obtain rfl:=dM hx;rw [hn] at xq;cases xq
    exact w1 (by rw [<-ey,GZ];exact XV ha hx GD (by unfold Qr.aB;rw [xq];exact .head _))
  rw [hu] at hv;refine ⟨{A with ay:=jd bD q.bg (q.bg+1) A.ay},M.set i (pre++⟨q.made,q.ky⟩::rest),2,4,none,⟨?_,rfl,gT,⟨by have:=W.tm;show A.mb<=_;omega,by have:=W.tm;show A.bo.toNat<=_;omega⟩,W.lG ha rfl rfl cJ (Vk hd rfl rfl) rfl (λ_ _ h=>by cases h),λj h=>?_,λh hh=>hV h (W.wy ha hh),.inr ⟨i,hm,bq _,pre,rest,I.to rfl rfl rfl rfl,?_,E4 Ko⟩,⟨.inl rfl,.inr ⟨bq _,rfl,ao6 hM⟩,.inr (bq _)⟩,?_,?_,λi' _ hr _ h=>?_,Zv W.iO atZ,λ_=>⟨λh=>(by cases h),λ_ _=>nq⟩,js (lJ rfl)⟩,
   Vs.own hV,.inl ⟨rfl,.add kB mM hb hM u7 sE ?_ hv nt⟩,⟨?_,λh=>by rw [bK] at h;cases h⟩,.inl (by omega),uZ,⟨rfl,rfl,rfl,rfl⟩⟩
  ·show Mem c cap {A with ay:=jd bD q.bg (q.bg+1) A.ay} ([q.made]++cT rs a) G1;rw [<-cA];exact s2
  ·rcases h with h|h
   ·exact absurd rfl h
   ·obtain ⟨rfl,_⟩:=Mq h;exact ⟨cJ,I.room⟩
  ·show G1.S.V q.made=_;rw [hV _ w2];exact hv
  ·show jd bD q.bg (q.bg+1) A.ay=BitVec.ofNat 64 ((M.set i (pre++⟨q.made,q.ky⟩::rest)).flatten.length+cS (rs.set a _)+4294967296*eJ (rs.set a _));rw [o1,o2];exact yr
  ·show (M.set i (pre++⟨q.made,q.ky⟩::rest)).flatten.length+cS (rs.set a _)<=_;rw [o1];omega
  ·have h:true=false:=h hr hd;cases h
  ·have:=W.nE;omega
  ·rw [bK];show (q.dn||true)=true;rw [hd];rfl
 ·
  have UW:(if A.ay&&&bD=({q with aj:=false}:Qr).bg then (({q with aj:=false}:Qr).dH 0 [] 0 0).to .link else ({q with aj:=false}:Qr).to .space)=({q with aj:=false}:Qr).to .space:=an e;rw [UW];have hk:5+N.c2<=ks a:=by
   rw [an (λh=>e h.symm)] at hk;omega
  have yr:jd bD q.bg (q.bg+1) A.ay=A.ay:=by
   rw [c1];rw [c1] at e;exact aqB (by have:=W.wC;omega) e
  have atL:(({q with aj:=false}:Qr).to .space).aB=[q.made]:=by
   show (if q.made=0 then [] else [q.made])=_;rw [an hm]
  have eA:({A with ay:=jd bD q.bg (q.bg+1) A.ay}:Ab)=A:=by rw [yr]
  have Mi:Mem c cap A (q.aB++cT rs a) G1:=by
   have s2:Mem c cap {A with ay:=jd bD q.bg (q.bg+1) A.ay} (q.aB++cT rs a) G1:=s2;rw [eA] at s2;exact s2
  refine ⟨A,M,4+N.c2,0,none,?_,Vs.own hV,.inr ⟨rfl,rfl,rfl,rfl,rfl,rfl,rfl⟩,⟨?_,λh=>by rw [bK] at h;cases h⟩,.inl (by omega),uZ,⟨rfl,rfl,rfl,rfl⟩⟩
  ·exact gX.same W ha (by rw [atL,<-cA];exact Mi) rfl rfl rfl (by omega) (W.lG ha rfl rfl cJ (AR hd rfl rfl) rfl (λ_ _ h=>by cases h)) (λh hh=>hV h (W.wy ha hh)) (.inr ⟨i,.inr ⟨⟨hm,by show G1.S.V q.made=_;rw [hV _ w2];exact hv⟩,bq _⟩,pre,rest,I.same rfl rfl rfl,hu,u7,sE,hb,kB,mM⟩) (by rw [hn];rfl) (by rw [hn];rfl) (λh=>by rw [hn] at h;cases h) (λ_=>⟨nq,rfl⟩) (js (lJ rfl))
  ·rw [bK];show (q.dn||false)=_;rw [hd];rfl
end
section
variable {N:Nm} {c:Lc} {A A':Ab} {G G':Gr} {cap:Int} {q q' x:Qr} {i j:Nat} {pre rest:List El} {e:El} {P:List Int} {n k k' a au δ:Nat} {rs:List Qr} {M M':List (List El)} {ks:Nat->Nat} {V:View} {b:Bs}
theorem afE (W:World N c cap au A G rs ks M)(ha:rs[a]? =some q)(hh:q.holds=true)(hp:q.nx.nD=false)(h:vF c A i q):yj c M q.ky:=by
 have⟨pre,rest,I,hu,u7,sE,hb,kB,mM⟩:=h;have hM:M[i]? =some (pre++rest):=by rw [W.u5 ha hh hp I.room I.lt];exact I.ls
 refine ⟨i,_,hb,hM,λe he h=>?_⟩;rcases dV.1 he with he|he
 ·have:=u7 e he;rw [h] at this;omega
 ·have:=sE e he;rw [h] at this;omega
theorem vF.to {q':Qr}(h:vF c A i q)(e1:q'.room=q.room)(e2:q'.ah=q.ah)(e3:q'.ai=q.ai)(e4:q'.cur=q.cur)(e5:q'.ky=q.ky)(e6:q'.kd=q.kd)(e7:q'.fl=q.fl)(e8:A'.ls=A.ls):vF c A' i q':=by
 have⟨pre,rest,I,hu,u7,sE,hb,kB,mM⟩:=h;exact ⟨pre,rest,I.to e8 e1 e2 e3,by rw [e4];exact hu,by rw [e5];exact u7,by rw [e5];exact sE,by rw [e5];exact hb,e6.trans kB,by rw [e7];exact mM⟩
theorem Mem.Rg {P':List Int}(h:Mem c cap A P G)(e:P=P'):Mem c cap A P' G:=e▸h
theorem aCf (W:World N c cap au A G rs ks M)(ha:rs[a]? =some q)(hd:q.dn=false)(hn:q.nx=.change .add):j4 N c cap au A G rs ks M a q (q.step c G b):=by
 have M0:=W.jN ha;have cA:q.aB=[q.made]:=by unfold Qr.aB;rw [hn];rfl
 have⟨w1,w2,_⟩:=Hw W ha cA;have bK:q.fx=false:=by unfold Qr.fx;rw [hd,hn];rfl
 have cJ:q.holds=true:=by rw [holds_of hd,hn];rfl
 rcases W.fact a q ha with h|⟨i,h⟩
 ·rw [hd] at h;cases h
 rw [hn] at h;have⟨⟨hm,hv⟩,hg,hE,hk⟩:=h;have⟨G1,s1,s2⟩:=akQ (b:=b) (q:={q with aj:=false}) M0 .add;rw [aK hd hn,s1];have eG:G1=G.mem (G.S.acc c.h 1 true (ic 1)).2:=(hZ Prod.snd s1).symm;have hV:∀h,h≠c.h->G1.S.V h=G.S.V h:=λh hh=>by rw [eG];exact vO hh
 have Ke:N.cr=N.n*N.sz:=rfl;refine ⟨{A with bo:=A.bo+1},M,5+N.c2,N.sz,none,gX.bo W ha (s2.Rg (by rw [cA];rfl)) cJ (AR hd rfl rfl) rfl (λ_ _ h=>by cases h) (λh hh=>hV h (W.wy ha hh)) (.inr ⟨i,⟨hm,?_⟩,hg.to rfl rfl rfl rfl rfl rfl rfl rfl,hE,?_⟩) (by rw [hn];rfl) (by rw [hn];rfl) (by rw [hn];rfl) rfl,
  Vs.own hV,.inr ⟨rfl,rfl,rfl,rfl,rfl,rfl,rfl⟩,⟨?_,λh=>by rw [bK] at h;cases h⟩,.inl (by omega),by rw [eG],⟨rfl,rfl,rfl,rfl⟩⟩
 ·show G1.S.V q.made=_;rw [hV _ w2];exact hv
 ·have:(if q.bg=A.ay&&&bD then 0 else 2)<=2:=by split<;>omega
  show 3+N.c2+(if q.bg=A.ay&&&bD then 0 else 2)<=5+N.c2;omega
 ·rw [bK];show (q.dn||false)=_;rw [hd];rfl
theorem aCA {gw bw m:Nat}{h0:Int}{all:List Wd}(W:World N c cap au A G rs ks M)(ha:rs[a]? =some q)(hd:q.dn=false)(hn:q.nx=.words gw bw h0 all m):j4 N c cap au A G rs ks M a q (q.step c G b):=by
 have M0:=W.jN ha;have cA:q.aB=[q.made]:=by unfold Qr.aB;rw [hn];rfl
 have⟨w1,w2,_⟩:=Hw W ha cA;rw [cA] at M0;have bK:q.fx=false:=by unfold Qr.fx;rw [hd,hn];rfl
 have cJ:q.holds=true:=by rw [holds_of hd,hn];rfl
 rcases W.fact a q ha with h|⟨i,h⟩
 ·rw [hd] at h;cases h
 rw [hn] at h;obtain ⟨rfl,hm,hg,hE,gk,GL,hk,rfl,ws,hv,hl,Aq⟩:=h;have⟨G1,s1,s2,s3⟩:=axw (b:=b) (q:={q with aj:=false}) (gw:=gw) (bw:=bw) (all:=[BitVec.ofInt 64 q.cur,q.ky,q.val]) (n:=m) M0 hv hl ⟨gk,GL⟩;rw [aK hd hn,s1];have eG:G1=G.mem (G.S.acc q.made ((m - 1:Nat):Int) true λ_=>[BitVec.ofInt 64 q.cur,q.ky,q.val].getD (m - 1) 0).2:=(hZ Prod.snd s1).symm;have hV:∀h,h≠q.made->G1.S.V h=G.S.V h:=λh hh=>by rw [eG];exact vO hh
 have hVo:∀h∈cT rs a,G1.S.V h=G.S.V h:=λh hh=>hV h λe=>w1 (e▸hh)
 obtain ⟨x0,x1,x2,rfl⟩:∃x0 x1 x2,ws=[x0,x1,x2]:=by
  match ws,hl with
  |[x0,x1,x2],_=>exact ⟨_,_,_,rfl⟩
 have CY:∀q':Qr,q'.aB=[q.made]->q'.nx≠.link->Vs c q' G.S G1.S none:=λq' yO Ky h h1 h2 h3=>by
  have aW:h≠q.made:=λe=>Ky (h2 (by rw [yO,e];exact .head _))
  have e:=hV h aW;rw [e] at h3;exact ⟨h3,by show val G1.S h=val G.S h;unfold val;rw [e]⟩
 by_cases e:m=1
 ·subst e;rw [ar rfl];have Aq:[x1,x2]=[q.ky,q.val]:=Aq;obtain ⟨rfl,rfl⟩:x1=q.ky/\x2=q.val:=by simpa using Aq
  refine ⟨A,M,6+N.cr+N.c2,0,none,?_,CY _ rfl (λh=>by cases h),.inr ⟨rfl,rfl,rfl,rfl,rfl,rfl,rfl⟩,⟨?_,λh=>by rw [bK] at h;cases h⟩,.inl (by omega),by rw [eG],⟨rfl,rfl,rfl,rfl⟩⟩
  ·exact gX.same W ha s2 rfl rfl rfl (by omega) (W.lG ha rfl rfl cJ (AR hd rfl rfl) rfl (λ_ _ h=>by cases h)) hVo (.inr ⟨i,⟨hm,s3⟩,hg.to rfl rfl rfl rfl rfl rfl rfl rfl,hE,bq _⟩) (by rw [hn];rfl) (by rw [hn];rfl) (λh=>by rw [hn] at h;cases h) (λh=>by cases h) (js (lJ rfl))
  ·rw [bK];show (q.dn||false)=_;rw [hd];rfl
 ·rw [an e];refine ⟨A,M,6+(m - 1)+N.cr+N.c2,0,none,?_,CY _ rfl (λh=>by cases h),.inr ⟨rfl,rfl,rfl,rfl,rfl,rfl,rfl⟩,⟨?_,λh=>by rw [bK] at h;cases h⟩,.inl (by omega),by rw [eG],⟨rfl,rfl,rfl,rfl⟩⟩
  ·refine gX.same W ha s2 rfl rfl rfl (by omega) (W.lG ha rfl rfl cJ (AR hd rfl rfl) rfl (λ_ _ h=>by cases h)) hVo (.inr ⟨i,rfl,hm,hg.to rfl rfl rfl rfl rfl rfl rfl rfl,hE,by omega,by omega,bq _,rfl,_,s3,by simp,?_⟩) (by rw [hn];rfl) (by rw [hn];rfl) (λh=>by rw [hn] at h;cases h) (λh=>by cases h) (js (lJ rfl));have atq:m=2∨m=3:=by omega
   rcases atq with rfl|rfl
   ·have Aq:[x2]=[q.val]:=Aq;obtain rfl:x2=q.val:=by simpa using Aq
    rfl
   ·rfl
  ·rw [bK];show (q.dn||false)=_;rw [hd];rfl
theorem aCp (W:World N c cap au A G rs ks M)(ha:rs[a]? =some q)(hd:q.dn=false)(hn:q.nx=.make):j4 N c cap au A G rs ks M a q (q.step c G b):=by
 have M0:=W.jN ha;have cA:q.aB=[]:=by unfold Qr.aB;rw [hn];rfl
 rw [cA] at M0;have bK:q.fx=false:=by unfold Qr.fx;rw [hd,hn];rfl
 have cJ:q.holds=true:=by rw [holds_of hd,hn];rfl
 rcases W.fact a q ha with h|⟨i,h⟩
 ·rw [hd] at h;cases h
 rw [hn] at h;have⟨hm,hg,hE,hk⟩:=h;have GM:=afE W ha cJ (by rw [hn];rfl) hg;have⟨_,_,I,_,_,_,_,kB,mM⟩:=id hg;rcases M0.make b.1 with ⟨h1,h2⟩|⟨h1,h2,h3,h4,h5,h6⟩
 ·have e1:q.step c G b=(({q with aj:=false}:Qr).fail 5,G.mem G.S):=by
   rw [aK hd hn];show (if (G.S.make b.1 3).1.2≠0 then _ else _)=_;rw [h2];rfl
  rw [e1];refine ⟨A,M,1,0,none,?_,Vs.same λ_=>rfl,.inl ⟨rfl,.mem kB mM GM h1⟩,⟨?_,λh=>by rw [bK] at h;cases h⟩,.inl (by omega),rfl,⟨rfl,rfl,rfl,rfl⟩⟩
  ·exact gX.same W ha M0 rfl rfl rfl (by omega) (W.lG ha rfl rfl cJ (QR hd) rfl (λ_ _ h=>by cases h)) (λh _=>rfl) (.inr ⟨i,I.room,I.lt,bq _⟩) (by rw [hn];rfl) (by rw [hn];rfl) (λh=>by rw [hn] at h;cases h) (λh=>by cases h) (js (lJ rfl))
  ·rw [bK];show (q.dn||true)=true;rw [hd];rfl
 ·have e1:q.step c G b=(({({q with aj:=false}:Qr) with made:=G.S.made+1}:Qr).to (.words b.2.1 b.2.2 (G.S.made+1) [BitVec.ofInt 64 q.cur,q.ky,q.val] 3),G.mem (G.S.make b.1 3).2):=by
   rw [aK hd hn];show (if (G.S.make b.1 3).1.2≠0 then _ else _)=_;rw [h2];rfl
  rw [e1];have htm:=W.tm;have h3:=h3 (by omega);have aW:∀h∈cT rs a,h≠G.S.made+1:=λh hh e=>by
   have:=(M0.bd (h:=h) (iZ _ (mE _ hh))).2.1
   omega
  have hb0:=M0.bk.made.1;refine ⟨{A with mb:=A.mb+1},M,9+N.cr+N.c2,0,none,?_,λh hh1 hh2 B7=>?_,.inr ⟨rfl,rfl,rfl,rfl,rfl,rfl,rfl⟩,⟨?_,λh=>by rw [bK] at h;cases h⟩,.inl (by omega),rfl,⟨rfl,rfl,rfl,rfl⟩⟩
  ·exact gX.same W ha h3 rfl rfl rfl (Int.le_refl _) (W.lG ha rfl rfl cJ (by show (true&& !(q.dn&&false))=true;rw [hd];rfl) rfl (λ_ _ h=>by cases h)) (λh hh=>h5 h (aW h hh)) (.inr ⟨i,rfl,by show G.S.made+1≠0;omega,hg.to rfl rfl rfl rfl rfl rfl rfl rfl,hE,by decide,by decide,Nat.le_of_eq (by omega),rfl,_,h4,rfl,rfl⟩) (by rw [hn];rfl) (by rw [hn];rfl) (λh=>by rw [hn] at h;cases h) (λh=>by cases h) (js (lJ rfl))
  ·have hx:h≠G.S.made+1:=λe=>by have:=hh2 (by rw [e];exact .head _);cases this
   have e:=h5 h hx;have B7:(G.S.make b.1 3).2.V h≠none:=B7;rw [e] at B7;exact ⟨B7,by show val (G.S.make b.1 3).2 h=val G.S h;unfold val;rw [e]⟩
  ·rw [bK];show (q.dn||false)=_;rw [hd];rfl
theorem aCt (W:World N c cap au A G rs ks M)(ha:rs[a]? =some q)(hd:q.dn=false)(hn:q.nx=.space):j4 N c cap au A G rs ks M a q (q.step c G b):=by
 have M0:=W.jN ha;have bK:q.fx=false:=by unfold Qr.fx;rw [hd,hn];rfl
 have cJ:q.holds=true:=by rw [holds_of hd,hn];rfl
 rcases W.fact a q ha with h|⟨i,h⟩
 ·rw [hd] at h;cases h
 rw [hn] at h;have⟨mQ,hg⟩:=h;have GM:=afE W ha cJ (by rw [hn];rfl) hg;have⟨_,_,I,_,_,_,_,kB,mM⟩:=id hg;have⟨c1,c2,c3,c4⟩:=W.cw;have⟨h1,h2,h3⟩:=M0.ay id;have eA:({A with ay:=id A.ay}:Ab)=A:=rfl;rw [eA] at h2;have hV:∀h,(G.mem (G.S.acc c.h 0 true id).2).S.V h=G.S.V h:=vN;have eV:(G.mem (G.S.acc c.h 0 true id).2).S.V=G.S.V:=funext hV;have e0:q.step c G b=Qr.space c {q with aj:=false} A.ay (G.mem (G.S.acc c.h 0 true id).2):=by
  rw [aK hd hn];show Qr.space c {q with aj:=false} (G.S.acc c.h 0 true id).1.1 _=_;rw [h1]
 have aDl:(A.ay&&&bD).toNat=M.flatten.length+cS rs:=by rw [c1];exact OL (by omega) (by omega)
 have eE:(BitVec.ofInt 64 c.d1).toNat=N.E:=by
  have:=W.nE;have:=W.wC
  rw [SF];omega
 unfold Qr.space at e0;by_cases aE:(A.ay&&&bD).toNat<N.E
 ·rw [ar (by rw [eE];exact aE)] at e0;rcases mQ with ⟨hm,hk⟩|⟨⟨hm,hv⟩,hk⟩
  ·have e1:q.step c G b=(({({q with aj:=false}:Qr) with bg:=A.ay&&&bD}:Qr).to .make,G.mem (G.S.acc c.h 0 true id).2):=by
    rw [e0];show (Qr.to _ (if q.made=0 then Nx.make else .after .add),_)=_;rw [ar hm]
   rw [e1];have cA:q.aB=[]:=by unfold Qr.aB;rw [hn];unfold Nx.aB;rw [ar hm]
   refine ⟨A,M,10+N.cr+N.c2,0,none,?_,Vs.same hV,.inr ⟨rfl,rfl,rfl,rfl,rfl,rfl,rfl⟩,⟨?_,λh=>by rw [bK] at h;cases h⟩,.inl (by omega),rfl,⟨rfl,rfl,rfl,rfl⟩⟩
   ·exact gX.same W ha (h2.Rg (by rw [cA];rfl)) rfl rfl rfl (by omega) (W.lG ha rfl rfl cJ (by show (true&& !(q.dn&&false))=true;rw [hd];rfl) rfl (λ_ _ h=>by cases h)) (λh _=>hV h) (.inr ⟨i,hm,hg.to rfl rfl rfl rfl rfl rfl rfl rfl,aE,bq _⟩) (by rw [hn];rfl) (by rw [hn];rfl) (λh=>by rw [hn] at h;cases h) (λh=>by cases h) (js (lJ rfl))
   ·rw [bK];show (q.dn||false)=_;rw [hd];rfl
  ·have e1:q.step c G b=(({({q with aj:=false}:Qr) with bg:=A.ay&&&bD}:Qr).to (.after .add),G.mem (G.S.acc c.h 0 true id).2):=by
    rw [e0];show (Qr.to _ (if q.made=0 then Nx.make else .after .add),_)=_;rw [an hm]
   rw [e1];have cA:q.aB=[q.made]:=by unfold Qr.aB;rw [hn];unfold Nx.aB;rw [an hm]
   have nq:q.ie=true:=by unfold Qr.ie;rw [hn];exact x8 hm
   refine ⟨A,M,3+N.c2,0,none,?_,Vs.same hV,.inr ⟨rfl,rfl,rfl,rfl,rfl,rfl,rfl⟩,⟨?_,λh=>by rw [bK] at h;cases h⟩,.inl (by omega),rfl,⟨rfl,rfl,rfl,rfl⟩⟩
   ·refine gX.same W ha (h2.Rg (by rw [cA];rfl)) rfl rfl rfl (by omega) (W.lG ha rfl rfl cJ (by show (true&& !(q.dn&&false))=true;rw [hd];rfl) rfl (λ_ _ h=>by cases h)) (λh _=>hV h) (.inr ⟨i,⟨hm,(hV _).trans hv⟩,hg.to rfl rfl rfl rfl rfl rfl rfl rfl,aE,?_⟩) (by rw [hn];rfl) (by rw [hn];rfl) (λh=>by rw [hn] at h;cases h) (λ_=>⟨nq,rfl⟩) (js (lJ rfl));show 3+N.c2+(if A.ay&&&bD=A.ay&&&bD then 0 else 2)<=3+N.c2;rw [ar rfl];omega
   ·rw [bK];show (q.dn||false)=_;rw [hd];rfl
 ·rw [an (by rw [eE];exact aE)] at e0;by_cases hz:A.ay>>>32=0
  ·rw [ar hz] at e0;have hh0:eJ rs=0:=by rw [c1] at hz;exact (aeJ (by omega) (by omega)).1 hz
   have ho0:cS rs=0:=by
    have:=ald (λq=>q.nx.kG) (λq=>q.nx.hi) (λq=>awh q.nx) rs
    unfold eJ at hh0;unfold cS;omega
   have agp:c.d1<=(M.flatten.length:Int):=by
    have:=W.nE;omega
   rcases mQ with ⟨hm,hk⟩|⟨⟨hm,hv⟩,hk⟩
   ·have e1:q.step c G b=(({({q with aj:=false}:Qr) with bg:=A.ay&&&bD}:Qr).fail 4,G.mem (G.S.acc c.h 0 true id).2):=by
     rw [e0];show (_,if 0<q.made then _ else _)=_;rw [an (by omega)]
    rw [e1];have cA:q.aB=[]:=by unfold Qr.aB;rw [hn];unfold Nx.aB;rw [ar hm]
    refine ⟨A,M,1,0,none,?_,Vs.same hV,.inl ⟨rfl,.full kB mM GM agp⟩,⟨?_,λh=>by rw [bK] at h;cases h⟩,.inl (by omega),rfl,⟨rfl,rfl,rfl,rfl⟩⟩
    ·exact gX.same W ha (h2.Rg (by rw [cA];rfl)) rfl rfl rfl (by omega) (W.lG ha rfl rfl cJ (by show (true&& !(q.dn&&true))=true;rw [hd];rfl) rfl (λ_ _ h=>by cases h)) (λh _=>hV h) (.inr ⟨i,I.room,I.lt,bq _⟩) (by rw [hn];rfl) (by rw [hn];rfl) (λh=>by rw [hn] at h;cases h) (λh=>by cases h) (js (lJ rfl))
    ·rw [bK];show (q.dn||true)=true;rw [hd];rfl
   ·have cA:q.aB=[q.made]:=by unfold Qr.aB;rw [hn];unfold Nx.aB;rw [an hm]
    have⟨w1,w2,w3,_⟩:=Hw W ha cA;have e1:q.step c G b=(({({q with aj:=false}:Qr) with bg:=A.ay&&&bD}:Qr).fail 4,(G.mem (G.S.acc c.h 0 true id).2).mem ((G.mem (G.S.acc c.h 0 true id).2).S.free q.made).2):=by
     rw [e0];show (_,if 0<q.made then _ else _)=_;rw [ar (by omega)]
    rw [e1];rw [cA] at h2;have⟨f1,f2⟩:=Mem.free (h:=q.made) (P:=cT rs a) h2;have hV2:∀h,h≠q.made->((G.mem (G.S.acc c.h 0 true id).2).mem ((G.mem (G.S.acc c.h 0 true id).2).S.free q.made).2).S.V h=G.S.V h:=λh hh=>(f2 h hh).trans (hV h)
    refine ⟨A,M,1,0,none,?_,λh hh1 hh2 B7=>?_,.inl ⟨rfl,.full kB mM GM agp⟩,⟨?_,λh=>by rw [bK] at h;cases h⟩,.inl (by omega),rfl,⟨rfl,rfl,rfl,rfl⟩⟩
    ·exact gX.same W ha f1 rfl rfl rfl (by omega) (W.lG ha rfl rfl cJ (by show (true&& !(q.dn&&true))=true;rw [hd];rfl) rfl (λ_ _ h=>by cases h)) (λh hh=>hV2 h λe=>w1 (e▸hh)) (.inr ⟨i,I.room,I.lt,bq _⟩) (by rw [hn];rfl) (by rw [hn];rfl) (λh=>by rw [hn] at h;cases h) (λh=>by cases h) (js (lJ rfl))
    ·have aW:h≠q.made:=λe=>B7 (by
      subst e;show ((G.mem (G.S.acc c.h 0 true id).2).S.free q.made).2.V q.made=none;rw [NW,ar rfl])
     have e:=hV2 h aW;rw [e] at B7;exact ⟨B7,by show val _ h=val G.S h;unfold val;rw [e]⟩
    ·rw [bK];show (q.dn||true)=true;rw [hd];rfl
  ·rw [an hz] at e0;rw [e0];refine ⟨A,M,ks a,0,none,?_,Vs.same hV,.inr ⟨rfl,rfl,rfl,rfl,rfl,rfl,rfl⟩,⟨?_,λ_=>rfl⟩,.inr ⟨.inr ⟨hn,aE,hz⟩,rfl,rfl,rfl,rfl,rfl,rfl⟩,rfl,⟨rfl,rfl,rfl,rfl⟩⟩
   ·have Ql:({({q with aj:=false}:Qr) with bg:=A.ay&&&bD}:Qr).aB=q.aB:=rfl;refine gX.same W ha h2 rfl rfl rfl (by omega) (W.lG ha rfl rfl cJ cJ rfl (λt th h=>?_)) (λh _=>hV h) (.inr ⟨i,?_⟩) rfl rfl (λh=>by rw [hn] at h;cases h) (λh=>⟨h,rfl⟩) (js ?_)
    ·have h:q.nx=.enter t th:=h;rw [hn] at h;cases h
    ·show match q.nx with|_=>_
     rw [hn];refine ⟨?_,hg.to rfl rfl rfl rfl rfl rfl rfl rfl⟩;rcases mQ with h|⟨⟨hm,hv⟩,hk⟩
     ·exact .inl h
     ·exact .inr ⟨⟨hm,(hV _).trans hv⟩,hk⟩
    ·unfold Qr.scan;show (if q.dn then _ else q.nx.scan N.B q.room)=_;rw [hn,hd];rfl
   ·rw [bK];unfold Qr.fx;show (q.dn||q.nx.fx)=_;rw [hd,hn];rfl
theorem al8 (W:World N c cap au A G rs ks M)(ha:rs[a]? =some q)(hd:q.dn=false):j4 N c cap au A G rs ks M a q (q.step c G b):=by
 have hF:∃i:Nat,_:=(W.fact a q ha).resolve_left (by rw [hd];exact jY);have⟨i,hF⟩:=hF;cases hn:q.nx with
 |none=>rw [hn] at hF;exact hF.elim
 |enter t th=>exact aCi W ha hd hn
 |th th=>exact aCx W ha hd hn
 |load _ _ _=>exact aCn W ha hd hn
 |ask _ _ _=>exact aCd W ha hd hn
 |set=>exact aCr W ha hd hn
 |look=>exact aCo W ha hd hn
 |space=>exact aCt W ha hd hn
 |make=>exact aCp W ha hd hn
 |words _ _ _ _ _=>exact aCA W ha hd hn
 |change f=>
  cases f with
  |add=>exact aCf W ha hd hn
  |drop=>rw [hn] at hF;exact hF.elim
  |take _=>exact aCg W ha hd hn
 |after f=>
  cases f with
  |add=>exact aCa W ha hd hn
  |drop=>exact aCb W ha hd hn
  |take _=>exact aCc W ha hd hn
 |link=>exact aCm W ha hd hn
 |drop=>exact aCh W ha hd hn
 |take=>exact aCw W ha hd hn
 |gp _=>exact aCy W ha hd hn
 |iD _ _=>exact aCz W ha hd hn
 |off _=>exact aCq W ha hd hn
 |leave=>exact aCl W ha hd hn
 |begin=>exact aCe W ha hd hn
 |free _=>exact aCj W ha hd hn
 |k9=>exact aCv W ha hd hn
 |kZ=>exact aCu W ha hd hn
 |mn=>exact aCk W ha hd hn
 |ot=>rw [hn] at hF;exact hF.elim
end
section
variable {N:Nm} {c:Lc} {A A':Ab} {G G':Gr} {cap:Int} {q q' x:Qr} {i j:Nat} {rest:List El} {e:El} {P:List Int} {n k k' a au δ:Nat} {rs:List Qr} {M M':List (List El)} {ks:Nat->Nat} {V:View} {b:Bs}
theorem arE {t:Bool}:(q.found t).dn=q.dn:=by
 unfold Qr.found;repeat' split
 all_goals rfl
theorem aek {cb:Cb}{t:Bool}:(q.cb cb t).dn=q.dn:=by
 cases cb with
 |find=>exact arE
 |next r=>unfold Qr.cb;dsimp only;split<;>rfl
theorem aie {w k:Wd}{bh:Bool}{cb:Cb}:(q.di w k bh cb).dn=q.dn:=by
 unfold Qr.di;split
 ·rw [aek];rfl
 ·rfl
theorem apv {w k:Wd}{bh:Bool}{cb:Cb}:(q.asked w k bh cb).dn=q.dn:=by
 unfold Qr.asked;split
 ·rw [aek]
 ·rfl
theorem akT {r:Int}{bh:Bool}{b0:Nat}:(q.search c r bh b0).dn=q.dn:=by unfold Qr.search;split<;>rfl
theorem axN {w:Wd}:(q.space c w G).1.dn=q.dn:=by
 unfold Qr.space;repeat' split
 all_goals rfl
def tp (rs:List Qr):Prop:=∀(a:Nat)(q:Qr),rs[a]? =some q->q.dn=true->q.dh=false
theorem OO (W:World N c cap au A G rs ks M)(ha:rs[a]? =some q)(hd:q.dn=false)(h:(q.step c G b).1.dn=true):(q.step c G b).1.dh=false:=by
 have hF:∃i:Nat,_:=(W.fact a q ha).resolve_left (by rw [hd];exact jY);have⟨i,hF⟩:=hF;cases hn:q.nx with
 |leave=>
  rw [aK hd hn];show ((q.nx.holds&& !(true&&q.nx.lv))||q.nx.waits)=false;rw [hn];rfl
 |k9=>
  rw [aK hd hn] at h⊢;by_cases e:(Qr.still c {q with aj:=false} G.S).1=true
  ·have e1:(cd c .k9 {q with aj:=false} G b).1={({q with aj:=false}:Qr).dH 2 [] 0 0 with dn:=true}:=ar e;rw [e1];show ((q.nx.holds&& !(true&&q.nx.lv))||q.nx.waits)=false;rw [hn];rfl
  ·have e1:(cd c .k9 {q with aj:=false} G b).1=({q with aj:=false}:Qr).to .begin:=an e;rw [e1] at h;have h:q.dn=true:=h;rw [hd] at h;cases h
 |kZ=>
  rw [aK hd hn] at h;exfalso;have e1:(cd c .kZ {q with aj:=false} G b).1.dn=q.dn:=by
   show (if (Qr.still c {q with aj:=false} G.S).1 then _ else _:Qr).dn=_;split<;>rfl
  rw [e1,hd] at h;cases h
 |none=>rw [hn] at hF;exact hF.elim
 |ot=>rw [hn] at hF;exact hF.elim
 |iD v w=>
  rw [hn] at hF;obtain ⟨rfl,_⟩:=hF;rw [aK hd hn] at h;have h:q.dn=true:=h;rw [hd] at h;cases h
 |load _ _ _=>rw [aK hd hn] at h;exfalso;have e1:=aie (q:={q with aj:=false}) (w:=(G.S.acc q.ah q.ai true id).1.1) (k:=‹Wd›) (bh:=‹Bool›) (cb:=‹Cb›);have h:(Qr.di {q with aj:=false} _ _ _ _).dn=true:=h;rw [e1] at h;have h:q.dn=true:=h;rw [hd] at h;cases h
 |ask _ _ _=>rw [aK hd hn] at h;exfalso;have e1:=apv (q:={q with aj:=false}) (w:=(G.S.acc q.cur 1 true id).1.1) (k:=‹Wd›) (bh:=‹Bool›) (cb:=‹Cb›);have h:(Qr.asked {q with aj:=false} _ _ _ _).dn=true:=h;rw [e1] at h;have h:q.dn=true:=h;rw [hd] at h;cases h
 |th th=>
  rw [aK hd hn] at h;exfalso;have h:(vS c th {q with aj:=false} G.S).1.dn=true:=h;unfold vS BQ at h;rw [aie] at h;have h:q.dn=true:=h;rw [hd] at h;cases h
 |begin=>rw [aK hd hn] at h;exfalso;have h:(Qr.search c _ _ _ _).dn=true:=h;rw [akT] at h;have h:q.dn=true:=h;rw [hd] at h;cases h
 |free _=>rw [aK hd hn] at h;exfalso;have h:(Qr.search c _ _ _ _).dn=true:=h;rw [akT] at h;have h:q.dn=true:=h;rw [hd] at h;cases h
 |space=>rw [aK hd hn] at h;exfalso;have h:(Qr.space c {q with aj:=false} _ _).1.dn=true:=h;rw [axN] at h;have h:q.dn=true:=h;rw [hd] at h;cases h
 |make=>
  rw [aK hd hn] at h;exfalso;have e1:(cd c .make {q with aj:=false} G b).1.dn=q.dn:=by
   show (if _ then _ else _:Qr×Gr).1.dn=_;split<;>rfl
  rw [e1,hd] at h;cases h
 |after f=>
  rw [aK hd hn] at h;exfalso;have e1:(cd c (.after f) {q with aj:=false} G b).1.dn=q.dn:=by
   show (kR c f {q with aj:=false} G.S).1.dn=_;cases f with
   |add=>unfold kR;dsimp only;split<;>rfl
   |drop=>rfl
   |take _=>rfl
  rw [e1,hd] at h;cases h
 |_=>rw [aK hd hn] at h;exfalso;have h:q.dn=true:=h;rw [hd] at h;cases h
theorem apZ (W:World N c cap au A G rs ks M)(D:tp rs)(ha:rs[a]? =some q)(hd:q.dn=false):∃(b:Nat)(x:Qr),rs[b]? =some x/\x.dn=false/\¬Dp (N:=N) A x:=by
 have dnf:∀{b:Nat}{x:Qr},rs[b]? =some x->x.dh=true->x.dn=false:=λhx hi=>by
  cases h:Qr.dn _ with
  |false=>rfl
  |true=>rw [D _ _ hx h] at hi;cases hi
 have tk:A.ay>>>32≠0->∃(b:Nat)(x:Qr),rs[b]? =some x/\x.dn=false/\¬Dp (N:=N) A x:=λhz=>by
  have⟨c1,c2,c3,c4⟩:=W.cw;have hh:eJ rs≠0:=λh=>hz (by rw [c1];exact (aeJ (by omega) (by omega)).2 h)
  have⟨y,hy,hy1⟩:∃y∈rs,y.nx.hi≠0:=by
   refine rT λaW=>hh ?_
   have:∀l:List Qr,(∀y∈l,y.nx.hi=0)->(l.map (·.nx.hi)).sum=0:=λl=>by
    induction l with
    |nil=>intro _;rfl
    |cons y l ih=>intro h;simp only [lL,Fx,h y (.head _),ih λz hz=>h z (jh _ hz)]
   exact this rs λy hy=>rT λh=>aW ⟨y,hy,h⟩
  have⟨b,hb⟩:=qV hy;have dZ:y.dh=true/\(∀t th,y.nx≠.enter t th)/\y.nx≠.space:=by
   cases hn:y.nx with
   |change f=>exact ⟨by unfold Qr.dh Qr.holds;rw [hn];show (true&& !(y.dn&&false))||false=true;simp,λ_ _ h=>(by cases h),λh=>(by cases h)⟩
   |after f=>exact ⟨by unfold Qr.dh Qr.holds;rw [hn];show (true&& !(y.dn&&false))||false=true;simp,λ_ _ h=>(by cases h),λh=>(by cases h)⟩
   |off f=>exact ⟨by unfold Qr.dh Qr.holds;rw [hn];show (true&& !(y.dn&&false))||false=true;simp,λ_ _ h=>(by cases h),λh=>(by cases h)⟩
   |_=>exact absurd (by rw [hn];rfl) hy1
  refine ⟨b,y,hb,dnf hb dZ.1,λh=>?_⟩;rcases h with ⟨t,th,_,h,_⟩|⟨h,_⟩
  ·exact dZ.2.1 t th h
  ·exact dZ.2.2 h
 by_cases hB:Dp (N:=N) A q
 ·rcases hB with ⟨t,th,i,hn,hp,hr,aW⟩|⟨hn,_,hz⟩
  ·have hi:i<A.ls.length:=by
    have⟨i',hF⟩:=(W.fact a q ha).resolve_left (by rw [hd];exact jY);rw [hn] at hF
    have:=hF.1;have:=hF.2.1;omega
   have⟨Q,hQ,_⟩:=W.pR i hi;have dZ:q.dh=true:=by unfold Qr.dh;rw [hn];simp [Nx.waits,hp]
   have hm:=(hQ.mem a).2 ⟨q,ha,dZ,hr⟩;cases Q with
   |nil=>cases hm
   |cons b Q=>
    have⟨x,hx,QB,hxr⟩:=(hQ.mem b).1 (.head _);have mr:=dnf hx QB;by_cases QA:Dp (N:=N) A x
    ·rcases QA with ⟨t2,th2,i2,WC,sE,hr2,WD⟩|⟨_,_,hz⟩
     ·have e:i2=i:=by omega
      subst e
      have:=(hQ.aP 0 b x rfl hx).2 t2 th2 WC sE
      exact absurd (by rw [this];simp) WD
     ·exact tk hz
    ·exact ⟨b,x,hx,mr,QA⟩
  ·exact tk hz
 ·exact ⟨a,q,ha,hd,hB⟩
def gA (ks:Nat->Nat):Nat->Nat
 |0=>0
 |n+1=>gA ks n+ks n
theorem Rh (ks:Nat->Nat)(a k' δ:Nat):∀n,gA (λb=>if b=a then k' else ks b+δ) n+(if a<n then ks a+δ else 0)=gA ks n+n*δ+(if a<n then k' else 0)
 |0=>by simp [gA]
 |n+1=>by
  have:=Rh ks a k' δ n
  show gA (λb=>if b=a then k' else ks b+δ) n+(if n=a then k' else ks n+δ)+(if a<n+1 then ks a+δ else 0)=gA ks n+ks n+(n+1)*δ+(if a<n+1 then k' else 0)
  rw [mB]
  by_cases e:n=a
  ·subst e
   simp only [Nat.lt_irrefl,Bb] at this
   simp only [pc,SK]
   omega
  ·rw [an e]
   by_cases h:a<n
   ·simp only [h,pc] at this
    simp only [show a<n+1 from by omega,pc]
    omega
   ·simp only [h,Bb] at this
    simp only [show ¬a<n+1 from by omega,Bb]
    omega
theorem akl {st:Option (Int×Wd)}(W:World N c cap au A G rs ks M)(ha:rs[a]? =some q)(S:Stp N c cap au A G rs ks M a q q' G' A' M' k' δ st) :
  gA (λb=>if b=a then k' else ks b+δ) N.n<gA ks N.n∨(Dp (N:=N) A q/\gA (λb=>if b=a then k' else ks b+δ) N.n=gA ks N.n/\A'.sv=A.sv/\A'.ay=A.ay/\q'.nx=q.nx/\q'.room=q.room):=by
 have aE:a<N.n:=by rw [W.nn];exact (bJ.1 ha).1
 have h:=Rh ks a k' δ N.n;rw [ar aE,ar aE] at h;rcases S.ur with h1|⟨h1,h2,h3,h4,h5,h6,h7⟩
 ·left;omega
 ·right;refine ⟨h1,?_,h4,h5,h6,h7⟩;subst h3;omega
end
section
variable {N:Nm} {c:Lc} {A A':Ab} {G G':Gr} {cap:Int} {q q' x:Qr} {i j:Nat} {P:List Int} {n k k' a au δ:Nat} {rs:List Qr} {M M':List (List El)} {ks ks':Nat->Nat} {b:Bs}
theorem World.Oo (W:World N c cap au A G rs ks M)(h:au+1<2305843009213692000):World N c cap (au+1) A G rs ks M:=
 ⟨W.mem,W.nn,W.nE,W.nB,W.wC,W.cx,⟨by have:=W.tm;omega,by have:=W.tm;omega,h⟩,λi hi=>by
  have⟨Q,hQ,hl⟩:=W.pR i hi
  exact ⟨Q,hQ,by omega⟩,W.fact,W.ay,W.le,W.rel,W.iO,W.fj⟩
theorem nF {l:List Qr}{a:Nat}(h:l[a]? =some q):l.set a q=l:=by
 refine x9 λk=>?_
 rw [mD];by_cases e:a=k
 ·subst e;rw [ar rfl,ar (bJ.1 h).1,h]
 ·rw [an e]
def Bv (N:Nm)(A:Ab)(q:Qr):Prop:=q.dn=true∨Dp (N:=N) A q
structure yl (N:Nm)(c:Lc)(cap:Int)(au:Nat)(A:Ab)(G:Gr)(rs:List Qr)(ks:Nat->Nat)(M:List (List El))(a:Nat)(q q':Qr)(G':Gr)(A':Ab)(M':List (List El))(ks':Nat->Nat)(st:Option (Int×Wd)):Prop where
 w:World N c cap (au+1) A' G' (rs.set a q') ks' M'
 nh:tp (rs.set a q')
 ur:gA ks' N.n<gA ks N.n∨(Bv N A q/\gA ks' N.n=gA ks N.n/\A'.sv=A.sv/\A'.ay=A.ay/\q'.nx=q.nx/\q'.room=q.room/\q'.dn=q.dn)
 CY:q.dn=false->Vs c q' G.S G'.S st
 same:q.dn=true->q'=q/\G'=G/\A'=A/\M'=M/\st=none
 aj:q.dn=false->(q'.aj=true/\mW c q M G.S q'.no q'.rv q'.rk q'.el st M')∨(q'.aj=false/\M'=M/\st=none/\q'.no=q.no/\q'.rv=q.rv/\q'.rk=q.rk/\q'.el=q.el)
 one:q.dn=false->q'.fx=(q.fx||q'.aj)/\(q.fx=true->q'.aj=false)
 ins:G'.ins=G.ins
 qI:q'.kd=q.kd/\q'.ky=q.ky/\q'.fl=q.fl/\q'.val=q.val
theorem aD1 (W:World N c cap au A G rs ks M)(D:tp rs)(ha:rs[a]? =some q)(ke:au+1<2305843009213692000)(b:Bs) :
  ∃A' M' ks' st,yl N c cap au A G rs ks M a q (q.step c G b).1 (q.step c G b).2 A' M' ks' st:=by
 by_cases hd:q.dn=true
 ·have e:q.step c G b=(q,G):=by unfold Qr.step;rw [ar hd]
  rw [e];refine ⟨A,M,ks,none,by rw [nF ha];exact W.Oo ke,by rw [nF ha];exact D,.inr ⟨.inl hd,rfl,rfl,rfl,rfl,rfl,rfl⟩,λh=>?_,λ_=>⟨rfl,rfl,rfl,rfl,rfl⟩,λh=>?_,λh=>?_,rfl,⟨rfl,rfl,rfl,rfl⟩⟩
  all_goals rw [hd] at h;cases h
 ·have hd:q.dn=false:=by simpa using hd
  have⟨A',M',k',δ,st,S⟩:=al8 (b:=b) W ha hd;refine ⟨A',M',_,st,W.dt ha S.dt ke,λa2 x hx mr=>?_,?_,λ_=>S.CY,λh=>(by rw [hd] at h;cases h),λ_=>S.aj,λ_=>S.one,S.ins,S.qI⟩
  ·rcases (f_ ha).1 hx with ⟨rfl,rfl⟩|⟨_,hx⟩
   ·exact OO W ha hd mr
   ·exact D a2 x hx mr
  ·rcases akl W ha S with h|⟨h1,h2,h3,h4,h5,h6⟩
   ·exact .inl h
   ·refine .inr ⟨.inr h1,h2,h3,h4,h5,h6,?_⟩;cases Eo:(q.step c G b).1.dn with
    |false=>rw [hd]
    |true=>
     have h7:=OO W ha hd Eo;exfalso;have h8:q.dh=true:=by
      rcases h1 with ⟨t,th,_,hn,hp,_⟩|⟨hn,_⟩
      ·unfold Qr.dh;rw [hn];simp [Nx.waits,hp]
      ·exact Am (by rw [holds_of hd,hn];rfl)
     have h9:(q.step c G b).1.dh=true:=by
      rcases h1 with ⟨t,th,_,hn,hp,_⟩|⟨hn,_⟩
      ·unfold Qr.dh;rw [h5,hn];simp [Nx.waits,hp]
      ·unfold Qr.dh Qr.holds;rw [h5,hn];simp [Nx.holds,Nx.lv]
     rw [h7] at h9;cases h9
def aa5 (N:Nm)(A:Ab)(rs:List Qr)(t f:Nat):Prop:=f<=t/\∀j,1<=j->j<=f->∀q,rs[(t - j) % N.n]? =some q->Bv N A q
def TT (rs:List Qr):Prop:=∀(a:Nat)(q:Qr),rs[a]? =some q->q.dn=true
theorem awp (W:World N c cap au A G rs ks M)(D:tp rs){t f:Nat}(h:aa5 N A rs t f)(hf:N.n<=f)(hn:0<N.n):TT rs:=by
 intro a q ha;cases hd:q.dn with
 |true=>rfl
 |false=>
  exfalso;have⟨b,x,hx,mr,QA⟩:=apZ W D ha hd;have hb:b<N.n:=by rw [W.nn];exact (bJ.1 hx).1
  have ht:=h.1;have⟨j,rB,pL,Wm⟩:∃j,1<=j/\j<=N.n/\(t - j) % N.n=b:=by
   have hdm:=Nat.div_add_mod t N.n;have hm:=FB t hn;by_cases e:b<t % N.n
   ·refine ⟨t % N.n - b,by omega,by omega,?_⟩
    have:t - (t % N.n - b)=N.n*(t / N.n)+b:=by omega
    rw [this,Nat.mul_add_mod,Da hb]
   ·refine ⟨t % N.n+N.n - b,by omega,by omega,?_⟩;have hq:1<=t / N.n:=(Nat.one_le_div_iff hn).2 (by omega);have h2:N.n*(t / N.n)=N.n*(t / N.n - 1)+N.n:=by
     rw [<-Nat.mul_succ];congr 1;omega
    have:t - (t % N.n+N.n - b)=N.n*(t / N.n - 1)+b:=by omega
    rw [this,Nat.mul_add_mod,Da hb]
  rcases h.2 j rB (by omega) x (by rw [Wm];exact hx) with h1|h1
  ·rw [h1] at mr;cases mr
  ·exact QA h1
end
section
variable {N:Nm} {c:Lc} {A A':Ab} {G G':Gr} {cap mx:Int} {q q' x:Qr} {i j:Nat} {P:List Int} {n k a au:Nat} {rs:List Qr} {M M':List (List El)} {ks ks':Nat->Nat} {b:Bs}
structure Rest (N:Nm)(c:Lc)(cap:Int)(au:Nat)(A:Ab)(G:Gr)(M:List (List El)):Prop where
 mem:Mem c cap A [] G
 nE:(N.E:Int)=c.d1
 nB:N.B=A.ls.length
 wC:1<=N.E/\N.E<=64
 tm:A.mb<=au/\A.bo.toNat<=au/\au<2305843009213692000
 lock:∀i,i<A.ls.length->A.tk i=A.sv i
 ay:A.ay=BitVec.ofNat 64 M.flatten.length
 le:M.flatten.length<=N.E
 ls:M=A.ls
 iO:∀i l,M[i]? =some l->wS c i l
theorem all_none {rs:List Qr}(h:∀(a:Nat)(q:Qr),rs[a]? =some q->q.nx.hi=0/\q.nx.kG=0/\q.aB=[]):eJ rs=0/\cS rs=0/\rs.flatMap Qr.aB=[]:=by
 induction rs with
 |nil=>exact ⟨rfl,rfl,rfl⟩
 |cons y rs ih=>
  have⟨h1,h2,h3⟩:=h 0 y rfl;have⟨i1,i2,i3⟩:=ih λa q hq=>h (a+1) q (by simpa using hq)
  refine ⟨?_,?_,?_⟩
  ·unfold eJ at i1⊢;simp only [lL,Fx,h1,i1]
  ·unfold cS at i2⊢;simp only [lL,Fx,h2,i2]
  ·rw [aaE,h3,i3];rfl
structure Dz (c:Lc)(q:Qr):Prop where
 dn:q.dn=false
 fx:q.fx=false
 made:q.made=0
 nx:(∃(t:Tk)(r:Nat),q.nx=.enter t .op/\t.ph=0/\t.i=lk r/\q.room=(r:Int)/\bZ q.ky c.d3=(r:Int)/\(r:Int)<c.d3/\q.kd≠4)∨(q.nx=.begin/\q.kd=4)
theorem Dz.out (h:Dz c q):q.nx.hi=0/\q.nx.kG=0/\q.aB=[]/\q.dh=false/\q.nx.nD=false/\(∀B,q.scan B=none)/\q.ie=false:=by
 rcases h.nx with ⟨t,r,hn,hp,_⟩|⟨hn,_⟩
 ·refine ⟨by rw [hn];rfl,by rw [hn];rfl,by unfold Qr.aB;rw [hn];rfl,by unfold Qr.dh Qr.holds;rw [hn];simp [Nx.holds,Nx.waits,hp],by rw [hn];rfl,λB=>by unfold Qr.scan;rw [hn];split<;>rfl,by unfold Qr.ie;rw [hn];rfl⟩
 ·refine ⟨by rw [hn];rfl,by rw [hn];rfl,by unfold Qr.aB;rw [hn];rfl,by unfold Qr.dh Qr.holds;rw [hn];rfl,by rw [hn];rfl,λB=>by unfold Qr.scan;rw [hn];split<;>rfl,by unfold Qr.ie;rw [hn];rfl⟩
theorem avY {kd fl bW:Int}{ky v:Wd}{b0:Nat}(B3:1<=c.d3):Dz c (Qr.new c kd ky fl bW v b0):=by
 have hb:=adY (k:=ky) (n:=c.d3) B3;unfold Qr.new;by_cases e:kd=4
 ·rw [ar e];exact ⟨rfl,rfl,rfl,.inr ⟨rfl,e⟩⟩
 ·rw [an e];have⟨r,hr⟩:∃r:Nat,bZ ky c.d3=(r:Int):=⟨(bZ ky c.d3).toNat,by omega⟩;refine ⟨rfl,rfl,rfl,.inl ⟨⟨b0,0,0,lk (bZ ky c.d3)⟩,r,rfl,rfl,by rw [hr],hr,hr,by omega,e⟩⟩
def Nm.st (N:Nm):Nat:=N.sz+(3+N.w+N.op)
theorem QI (h:q.dh=false)(hd:q.dn=true):q.nx.hi=0/\q.nx.kG=0/\q.aB=[]/\q.nx.nD=false:=by
 unfold Qr.dh Qr.holds at h;rw [hd] at h;cases hn:q.nx with
 |leave=>exact ⟨rfl,rfl,by unfold Qr.aB;rw [hn];rfl,rfl⟩
 |none=>exact ⟨rfl,rfl,by unfold Qr.aB;rw [hn];rfl,rfl⟩
 |enter t th=>exact ⟨rfl,rfl,by unfold Qr.aB;rw [hn];rfl,rfl⟩
 |begin=>exact ⟨rfl,rfl,by unfold Qr.aB;rw [hn];rfl,rfl⟩
 |k9=>exact ⟨rfl,rfl,by unfold Qr.aB;rw [hn];rfl,rfl⟩
 |_=>rw [hn] at h;simp [Nx.holds,Nx.lv] at h
theorem World.rest (W:World N c cap au A G rs ks M)(D:tp rs)(O:TT rs):Rest N c cap au A G M:=by
 have fW:∀(a:Nat)(q:Qr),rs[a]? =some q->q.nx.hi=0/\q.nx.kG=0/\q.aB=[]/\q.nx.nD=false:=λa q hq=>QI (D a q hq (O a q hq)) (O a q hq)
 obtain ⟨a1,a2,a3⟩:=all_none λa q hq=>by
  obtain ⟨o1,o2,o3,_⟩:=fW a q hq;exact ⟨o1,o2,o3⟩
 refine ⟨by rw [<-a3];exact W.mem,W.nE,W.nB,W.wC.2,W.tm,λi hi=>?_,?_,?_,?_,W.iO⟩
 ·obtain ⟨Q,hQ,_⟩:=W.pR i hi
  have:Q=[]:=by
   cases Q with
   |nil=>rfl
   |cons b Q=>
    obtain ⟨x,hx,QB,_⟩:=(hQ.mem b).1 (.head _);rw [D b x hx (O b x hx)] at QB;cases QB
  have h:=hQ.tk;rw [this] at h;rw [h];simp
 ·have h:A.ay=BitVec.ofNat 64 (M.flatten.length+cS rs+4294967296*eJ rs):=W.ay;rw [a1,a2] at h;exact h
 ·have h:M.flatten.length+cS rs<=_:=W.le;rw [a2] at h;exact h
 ·refine x9 λi=>?_
  by_cases hi:i<A.ls.length
  ·exact W.rel i hi λa q hq _ _=>(fW a q hq).2.2.2
  ·rw [ji (by rw [W.cx];omega),ji (by omega)]
theorem Idle.rest (I:Idle c cap mx A G)(h0:A.ls=List.replicate A.ls.length [])(hN:(N.E:Int)=c.d1)(hB:N.B=A.ls.length)(hc:A.mb<=au/\A.bo.toNat<=au/\au<2305843009213692000):Rest N c cap au A G A.ls:=by
 have hd:=I.d1;refine ⟨I.mem,hN,hB,⟨by omega,by omega⟩,hc,I.lock,I.ay,?_,rfl,λi l hl=>?_⟩
 ·have:=I.le;omega
 ·rw [h0] at hl
  have:=Bh (dF hl)
  subst this;exact ⟨List.Pairwise.nil,λe he=>by cases he⟩
end
section
variable {N:Nm} {c:Lc} {A A':Ab} {G G':Gr} {cap:Int} {q q' x:Qr} {j:Nat} {P:List Int} {a au:Nat} {rs:List Qr} {M M' M0:List (List El)} {ks ks':Nat->Nat} {b:Bs} {S:Sm}
theorem arH {t:Bool}:(q.found t).made=q.made:=by
 unfold Qr.found;repeat' split
 all_goals rfl
end
section
variable {N:Nm} {c:Lc} {A A':Ab} {G G':Gr} {cap:Int} {q q' x:Qr} {j:Nat} {P:List Int} {a au:Nat} {rs:List Qr} {M M' M0:List (List El)} {ks ks':Nat->Nat} {b:Bs} {S:Sm} {st:Option (Int×Wd)}
def hs (M:List (List El)):List Int:=M.flatten.map El.h
theorem atX {M:List (List El)}{h:Int}(hh:h∈hs M):∃(j:Nat)(l:List El)(y:El),M[j]? =some l/\y∈l/\y.h=h:=by
 have⟨y,hy,e⟩:=cL.1 hh;have⟨l,hl,hy⟩:=zo.1 hy;have⟨j,hj⟩:=qV hl;exact ⟨j,l,y,hj,hy,e⟩
theorem avu {M:List (List El)}{l:List El}{y:El}(hj:M[j]? =some l)(hy:y∈l):y.h∈hs M:=
 cL.2 ⟨y,zo.2 ⟨l,dF hj,hy⟩,rfl⟩
theorem World.HZ (W:World N c cap au A G rs ks M)(ha:rs[a]? =some q){h:Int}(hh:h∈hs M):h≠c.h/\(h∈q.aB->q.nx=.link)/\G.S.V h≠none:=by
 obtain ⟨j,l,y,hl,hy,rfl⟩:=atX hh;have M0:=W.jN ha;rcases W.aiD hl hy with h1|⟨b,x,hx,xq,GZ⟩
 ·have h2:=M0.OT h1;have⟨p1,p2,p3,hv⟩:=M0.alive h2;exact ⟨M0.bk.xL h2,λh3=>absurd rfl (M0.Gh h1 (iZ _ h3)),by rw [hv];simp⟩
 ·have hp:x.aB=[x.made]:=by unfold Qr.aB;rw [xq];rfl
  have⟨w1,w2,_⟩:=Hw W hx hp;have zZ:x.made∈A.av.map El.h++rs.flatMap Qr.aB++G.q.map Wt.h:=iZ _ (mE _ (zk.2 ⟨x,dF hx,by rw [hp];exact .head _⟩));have⟨p1,p2,p3,hv⟩:=W.mem.alive zZ;rw [GZ];refine ⟨w2,λh3=>?_,by rw [hv];simp⟩;by_cases e:b=a
  ·subst e;rw [ha] at hx;obtain rfl:=dM hx;exact xq
  ·exact absurd (XV hx ha (λe2=>e e2.symm) h3) w1
def after (st:Option (Int×Wd))(S:Sm)(h:Int):Wd:=match st with|some (a,w)=>if h=a then w else val S h|none=>val S h
theorem yl.value (T:yl N c cap au A G rs ks M a q q' G' A' M' ks' st)(ha:rs[a]? =some q){h:Int}(hh:h∈hs M'):val G'.S h=after st G.S h:=by
 by_cases hd:q.dn=true
 ·have⟨_,e2,_,_,e5⟩:=T.same hd;rw [e2,e5];rfl
 ·have hd:q.dn=false:=by simpa using hd
  have⟨h1,h2,h3⟩:=T.w.HZ ((f_ ha).2 (.inl ⟨rfl,rfl⟩)) hh;exact (T.CY hd h h1 h2 h3).2
end
section
variable {H:aa} {c:Lc} {X:Gx} {q q':Qr} {a:Nat} {R:Value->aa->Prop}
end
section
variable {H:aa} {c:Lc} {X:Gx} {q q':Qr} {a:Nat}
structure Hr where
 r:Nat
 PL:List ax
 q:Qr
 sa:Option Addr
 nv:Value
def dO (c:Lc)(R:Hr):ax:=many [rA R.r c R.q R.sa R.nv,many R.PL,many (wD c R.q.nx)]
def Hr.ok (R:Hr):Prop:=RV R.PL R.q.rv R.sa/\NV R.PL R.r R.q.ky R.q.nx R.nv
theorem Hr.rk {R:Hr}{T:List ax}(cF:R.ok)(h:Sep H (dO c R::xA c::aR c.g c.m X::T)):Rk H R.PL R.r c R.q X T:=by
 have h1:Sep H ([rA R.r c R.q R.sa R.nv,many R.PL,many (wD c R.q.nx)]++(xA c::aR c.g c.m X::T)):=Sep.fX.1 h;have h2:Sep H (rA R.r c R.q R.sa R.nv::many R.PL::many (wD c R.q.nx)::xA c::aR c.g c.m X::T):=h1;exact ⟨R.sa,R.nv,cF.1,cF.2,Sep.pick h2 5 [0,1,3,4,2]⟩
theorem Rk.hr {PL:List ax}{r:Nat}{T:List ax}(h:Rk H PL r c q X T):∃R:Hr,R.ok/\R.r=r/\R.q=q/\Sep H (dO c R::xA c::aR c.g c.m X::T):=by
 have⟨sa,nv,h1,h2,h3⟩:=h.ex;have h4:Sep H (rA r c q sa nv::many PL::many (wD c q.nx)::xA c::aR c.g c.m X::T):=Sep.pick h3 5 [0,1,4,2,3];exact ⟨⟨r,PL,q,sa,nv⟩,⟨h1,h2⟩,rfl,rfl,Sep.fX.2 h4⟩
end
section
variable {q q' x:Qr} {a b:Nat} {rs:List Qr}
theorem wg (ha:rs[a]? =some q){P:Nat->Qr->Prop}(h:∀(b:Nat)(x:Qr),rs[b]? =some x->P b x)(h2:P a q'):∀(b:Nat)(x:Qr),(rs.set a q')[b]? =some x->P b x:=λb x hx=>by
 rcases (f_ ha).1 hx with ⟨rfl,rfl⟩|⟨_,hx⟩
 ·exact h2
 ·exact h b x hx
end
section
end
section
end
section
end
section
variable {N:Nm} {c:Lc} {A:Ab} {G:Gr} {cap:Int} {q q' x:Qr} {i:Nat} {k a au:Nat} {rs:List Qr} {M:List (List El)} {ks:Nat->Nat} {b:Bs} {S:Sm}
theorem NU {h i:Int}{may:Bool}{f:Wd->Wd}{x:Int}:(S.acc h i may f).2.V x≠none↔S.V x≠none:=by
 cases hf:S.find h with
 |none=>
  have e:S.acc h i may f=((0,false),{S.ay with dY:=wr (S.dY+1)}):=by unfold Sm.acc;rw [hf]
  rw [e];exact Iff.rfl
 |some r=>
  by_cases hc:may=true/\0<=i/\i<r.ws.length
  ·have⟨h1,h2,h3⟩:=hc;obtain ⟨k,rfl⟩:∃k:Nat,i=(k:Int):=⟨i.toNat,by omega⟩;subst h1;have hv:S.V h=some r.ws:=by unfold Sm.V;rw [hf];rfl
   rw [(DD hv (by omega) f).2.1 x];by_cases e:x=h
   ·subst e;rw [ar rfl,hv];simp
   ·rw [an e]
  ·have e:S.acc h i may f=((0,false),{S.ay with dY:=wr (S.dY+1)}):=by unfold Sm.acc;rw [hf];exact an hc
   rw [e];exact Iff.rfl
theorem N0 {h i:Int}{may:Bool}{f:Wd->Wd}:(S.acc h i may f).2.count=wr (S.count+1):=by
 unfold Sm.acc;split
 ·split<;>rfl
 ·rfl
structure tx (S S':Sm)(x:List Int):Prop where
 ay:S'.count=S.count∨S'.count=wr (S.count+1)
 live:∀h,h∉x->S.V h≠none->S'.V h≠none
theorem tx.refl {x:List Int}:tx S S x:=⟨.inl rfl,λ_ _ h=>h⟩
theorem tx.acc {h i:Int}{may:Bool}{f:Wd->Wd}{x:List Int}:tx S (S.acc h i may f).2 x:=⟨.inr N0,λ_ _ hv=>NU.2 hv⟩
theorem aqJ (ok:Ok G)(hi:G.ins≠[]){h:Int}{b:Nat}:(G.defer h b).2.S=G.S:=by
 unfold Gr.defer;split
 ·rfl
 ·show jH G.S (gone (G.add h b).q)=G.S;rw [Pc λw hw=>?_]
  ·rfl
  ·rcases dV.1 hw with hw|hw
   ·exact ok.full w hw
   ·simp only [fo] at hw;subst hw;exact hi
theorem ahA {t:Tk}{x:List Int}:tx S (t.step c S).2.2 x:=by
 unfold Tk.step;split
 ·exact .acc
 ·split
  ·split<;>exact .acc
  ·exact .refl
theorem auN (ok:Ok G)(hi:G.ins≠[])(hf:G.S.fresh):∀nx:Nx,tx G.S (cd c nx q G b).2.S (nx.aB q.made):=by
 intro nx;cases nx with
 |none=>exact .refl
 |enter t k=>exact ahA
 |make=>
  show tx G.S (if (G.S.make b.1 3).1.2≠0 then _ else _:Qr×Gr).2.S _;have hk:∀x,tx G.S (G.S.make b.1 3).2 x:=λx=>by
   unfold Sm.make;split
   ·exact .refl
   ·split
    ·exact .refl
    ·refine ⟨.inl rfl,λh _ hv=>?_⟩;show (G.S.mk' _ _).V h≠none;rw [TV _ _ hf];split
     ·simp
     ·exact hv
  split<;>exact hk _
 |space=>
  show tx G.S (Qr.space c q (G.S.acc c.h 0 true id).1.1 (G.mem (G.S.acc c.h 0 true id).2)).2.S (Nx.space.aB q.made);unfold Qr.space;split
  ·exact .acc
  ·split
   ·show tx G.S (if 0<q.made then _ else _:Gr).S (if q.made=0 then [] else [q.made]);split
    ·rename_i hm;rw [an (show ¬q.made=0 by omega)];refine ⟨.inr N0,λh hh hv=>?_⟩;show ((G.S.acc c.h 0 true id).2.free q.made).2.V h≠none;rw [NW,an (by simpa using hh)];exact NU.2 hv
    ·exact .acc
   ·exact .acc
 |after f=>
  cases f with
  |add=>
   show tx G.S (kR c .add q G.S).2 _;unfold kR;dsimp only;split<;>exact .acc
  |drop=>exact .acc
  |take _=>exact .acc
 |iD v w=>
  show tx G.S ((G.mem (G.S.acc q.ah q.ai true λ_=>v).2).defer q.cur b.1).2.S _;rw [aqJ (G:=G.mem (G.S.acc q.ah q.ai true λ_=>v).2) ⟨⟨ok.ind,ok.nd,ok.ws⟩,ok.full⟩ hi];exact .acc
 |_=>exact .acc
theorem W5 (ok:Ok G)(hi:G.ins≠[])(hf:G.S.fresh):tx G.S (q.step c G b).2.S q.aB:=by
 unfold Qr.step;split
 ·exact .refl
 ·exact auN (q:={q with aj:=false}) ok hi hf q.nx
theorem ahB {z:Vz}{x:List Int}:tx S (z.step c S).2 x:=by
 unfold Vz.step;split
 ·exact .refl
 ·unfold Vz.go;split
  ·exact ahA
  ·exact .acc
  ·exact .acc
  ·exact .acc
  ·exact .refl
theorem arJ {t:Bool}(h:q.made=0):(q.found t).aB=[]:=by
 have e:=arH (q:=q) (t:=t);unfold Qr.aB;rw [e,h];unfold Qr.found;repeat' split
 all_goals rfl
theorem aeo {cb:Cb}{t:Bool}(h:q.made=0):(q.cb cb t).aB=[]:=by
 cases cb with
 |find=>exact arJ h
 |next r=>unfold Qr.cb;dsimp only;split<;>rfl
theorem aij {w k:Wd}{bh:Bool}{cb:Cb}(h:q.made=0):(q.di w k bh cb).aB=[]:=by
 unfold Qr.di;split
 ·exact aeo (q:=({q with cur:=IntKind.i64.wrap w.toNat}:Qr).to (.ask k bh cb)) h
 ·rfl
theorem apz {w k:Wd}{bh:Bool}{cb:Cb}(h:q.made=0):(q.asked w k bh cb).aB=[]:=by
 unfold Qr.asked;split
 ·exact aeo (q:={q with key:=w}) h
 ·rfl
theorem akV {r:Int}{bh:Bool}{b0:Nat}:(q.search c r bh b0).aB=[]:=by unfold Qr.search;split<;>rfl
theorem akq (W:World N c cap au A G rs ks M)(ha:rs[a]? =some q)(hd:q.dn=false):∀h∈(q.step c G b).1.aB,h∈q.aB∨h=G.S.made+1:=by
 have hF:∃i:Nat,_:=(W.fact a q ha).resolve_left (by rw [hd];exact jY);have⟨i,hF⟩:=hF;have mT:∀{q':Qr},q'.aB=[]->∀h∈q'.aB,h∈q.aB∨h=G.S.made+1:=λe h hh=>by rw [e] at hh;cases hh
 cases hn:q.nx with
 |none=>rw [hn] at hF;exact hF.elim
 |enter t th=>
  rw [aK hd hn];refine mT ?_;show (Qr.to _ _).aB=[];unfold Qr.aB Qr.to;dsimp only;split<;>rfl
 |th th=>
  rw [hn] at hF;rw [aK hd hn];have hm:q.made=0:=hF.2.2.2.1;refine mT ?_;show (Qr.di _ _ _ _ _).aB=[];exact aij hm
 |load _ _ _=>
  rw [hn] at hF;rw [aK hd hn];exact mT (aij (q:={q with aj:=false}) hF.1)
 |ask _ _ _=>
  rw [hn] at hF;rw [aK hd hn];exact mT (apz (q:={q with aj:=false}) hF.1)
 |set=>rw [aK hd hn];exact mT rfl
 |look=>rw [aK hd hn];exact mT rfl
 |space=>
  rw [aK hd hn];intro h hh;have e:q.aB=if q.made=0 then [] else [q.made]:=by unfold Qr.aB;rw [hn];rfl
  have hh:h∈(Qr.space c {q with aj:=false} (G.S.acc c.h 0 true id).1.1 (G.mem (G.S.acc c.h 0 true id).2)).1.aB:=hh;left;rw [e];unfold Qr.space at hh;split at hh
  ·by_cases hm:q.made=0
   ·have:(Qr.to {({q with aj:=false}:Qr) with bg:=(G.S.acc c.h 0 true id).1.1&&&bD} (if q.made=0 then Nx.make else .after .add)).aB=[]:=by
     rw [ar hm];rfl
    have hh:h∈(Qr.to {({q with aj:=false}:Qr) with bg:=(G.S.acc c.h 0 true id).1.1&&&bD} (if q.made=0 then Nx.make else .after .add)).aB:=hh;rw [this] at hh;cases hh
   ·have:(Qr.to {({q with aj:=false}:Qr) with bg:=(G.S.acc c.h 0 true id).1.1&&&bD} (if q.made=0 then Nx.make else .after .add)).aB=[q.made]:=by
     rw [an hm];rfl
    have hh:h∈(Qr.to {({q with aj:=false}:Qr) with bg:=(G.S.acc c.h 0 true id).1.1&&&bD} (if q.made=0 then Nx.make else .after .add)).aB:=hh;rw [this] at hh;rw [an hm];exact hh
  ·split at hh
   ·cases hh
   ·have hh:h∈q.nx.aB q.made:=hh;rw [hn] at hh;exact hh
 |make=>
  rw [aK hd hn];intro h hh;have hb:=W.mem.bk;rcases W.mem.make b.1 with ⟨h1,h2⟩|⟨h1,h2,_⟩
  ·have e1:(cd c .make {q with aj:=false} G b).1=({q with aj:=false}:Qr).fail 5:=by
    show (if (G.S.make b.1 3).1.2≠0 then _ else _:Qr×Gr).1=_;rw [h2];rfl
   rw [e1] at hh;cases hh
  ·have e1:(cd c .make {q with aj:=false} G b).1=(({({q with aj:=false}:Qr) with made:=G.S.made+1}:Qr).to (.words b.2.1 b.2.2 (G.S.made+1) [BitVec.ofInt 64 q.cur,q.ky,q.val] 3)):=by
    show (if (G.S.make b.1 3).1.2≠0 then _ else _:Qr×Gr).1=_;rw [h2];rfl
   rw [e1] at hh;right;have hh:h∈[G.S.made+1]:=hh;simpa using hh
 |words gw bw h0 all m=>
  rw [aK hd hn];intro h hh;left;unfold Qr.aB;rw [hn];have hh:h∈(if m=1 then Nx.change .add else .words gw bw h0 all (m - 1)).aB q.made:=hh;split at hh<;>exact hh
 |change f=>
  cases f with
  |add=>
   rw [aK hd hn];intro h hh;left;unfold Qr.aB;rw [hn];exact hh
  |drop=>rw [aK hd hn];exact mT rfl
  |take w=>rw [aK hd hn];exact mT rfl
 |after f=>
  cases f with
  |add=>
   rw [aK hd hn];intro h hh;left;unfold Qr.aB;rw [hn];have hh:h∈(kR c .add {q with aj:=false} G.S).1.aB:=hh;unfold kR at hh;dsimp only at hh;split at hh
   ·exact hh
   ·have hh:h∈(if q.made=0 then [] else [q.made]):=hh;split at hh
    ·cases hh
    ·exact hh
  |drop=>rw [aK hd hn];exact mT rfl
  |take _=>rw [aK hd hn];exact mT rfl
 |link=>rw [aK hd hn];exact mT rfl
 |drop=>rw [aK hd hn];exact mT rfl
 |take=>rw [aK hd hn];exact mT rfl
 |gp _=>rw [aK hd hn];exact mT rfl
 |iD _ w=>rw [aK hd hn];cases w<;>exact mT (by unfold Qr.aB cd Qr.aw;first|rfl|(dsimp only;rw [hn];rfl))
 |off _=>rw [aK hd hn];exact mT rfl
 |leave=>rw [aK hd hn];exact mT (by show q.nx.aB q.made=[];rw [hn];rfl)
 |begin=>rw [aK hd hn];exact mT akV
 |free _=>rw [aK hd hn];exact mT akV
 |k9=>
  rw [aK hd hn];refine mT ?_;show (if (Qr.still c {q with aj:=false} G.S).1 then _ else _:Qr).aB=[];split
  ·show q.nx.aB q.made=[];rw [hn];rfl
  ·rfl
 |kZ=>
  rw [aK hd hn];refine mT ?_;show (if (Qr.still c {q with aj:=false} G.S).1 then _ else _:Qr).aB=[];split<;>rfl
 |mn=>rw [aK hd hn];exact mT rfl
 |ot=>rw [hn] at hF;exact hF.elim
structure qY (c:Lc)(G:Gr)(rs:List Qr)(h:Int):Prop where
 live:G.S.V h≠none
 ne:h≠c.h
 out:h∉rs.flatMap Qr.aB
theorem World.AJ (W:World N c cap au A G rs ks M){h:Int}:G.S.V h≠none↔h=c.h∨h∈A.av.map El.h∨h∈rs.flatMap Qr.aB∨h∈G.q.map Wt.h:=by
 rw [II,W.mem.bk.perm.mem_iff,dU,dV,dV,or_assoc]
theorem qY.mem (W:World N c cap au A G rs ks M){h:Int}(p:qY c G rs h):h∈A.av.map El.h++rs.flatMap Qr.aB++G.q.map Wt.h:=by
 rcases W.AJ.1 p.live with h1|h1|h1|h1
 ·exact absurd h1 p.ne
 ·simp [h1]
 ·exact absurd h1 p.out
 ·simp [h1]
theorem akp {h:Int}(ha:rs[a]? =some q)(h1:h∉rs.flatMap Qr.aB)(h2:h∉q'.aB):h∉(rs.set a q').flatMap Qr.aB:=λhh=>by
 rcases dV.1 ((afm (q':=q') ha).mem_iff.1 hh) with h3|h3
 ·exact h2 h3
 ·exact h1 ((D4 ha).mem_iff.2 (mE _ h3))
theorem qY.step (W:World N c cap au A G rs ks M)(hi:G.ins≠[])(ha:rs[a]? =some q)(hd:q.dn=false){h:Int}(p:qY c G rs h):qY c (q.step c G b).2 (rs.set a (q.step c G b).1) h:=by
 have hb:=W.mem.bk;have hk:=W5 (c:=c) (q:=q) (b:=b) hb.ok hi hb.fresh;have hm:=hb.sL h (II.1 p.live);refine ⟨?_,p.ne,akp ha p.out λhh=>?_⟩
 ·exact hk.live h (λhh=>p.out ((D4 ha).mem_iff.2 (iZ _ hh))) p.live
 ·rcases akq W ha hd h hh with h1|h1
  ·exact p.out ((D4 ha).mem_iff.2 (iZ _ h1))
  ·omega
end
section
variable {N:Nm} {c:Lc} {A:Ab} {G G':Gr} {cap:Int} {q q' x:Qr} {i j:Nat} {n k' a au δ:Nat} {rs:List Qr} {M:List (List El)} {ks:Nat->Nat} {b:Bs} {S:Sm}
def rM (ks:Nat->Nat)(a k':Nat):Nat->Nat:=λb=>if b=a then k' else ks b+0
theorem HB (W:World N c cap au A G rs ks M)(ha:rs[a]? =some q):gA (rM ks a k') N.n+ks a=gA ks N.n+k':=by
 have aE:a<N.n:=by rw [W.nn];exact (bJ.1 ha).1
 have h:=Rh ks a k' 0 N.n;rw [ar aE,ar aE] at h;unfold rM;omega
theorem World.start (W:World N c cap au A G rs ks M)(D:tp rs)(ha:rs[a]? =some q)(gH:q.dn=true)(h:Dz c q')(ke:au+1<2305843009213692000) :
  World N c cap (au+1) A G (rs.set a q') (rM ks a (Nm.st N)) M/\tp (rs.set a q'):=by
 have⟨h1,h2,h3,h4⟩:=QI (D a q ha gH) gH;have⟨o1,o2,o3,o4,o5,o6,o7⟩:=h.out;have M0:=W.jN ha;rw [h3] at M0;refine ⟨W.dt ha (gX.same W ha (by rw [o3];exact M0) rfl rfl rfl (by omega) (W.Rv ha rfl rfl (D a q ha gH) o4) (λ_ _=>rfl) ?_ (by rw [o1,h1]) (by rw [o2,h2]) (λhp=>by rw [h4] at hp;cases hp) (λhc=>by rw [o7] at hc;cases hc) (js (o6 _))) ke,λa2 x hx mr=>?_⟩
 ·rcases h.nx with ⟨t,r,hn,hp,ht,hr,hb,aE,hk⟩|⟨hn,hk⟩
  ·refine .inr ⟨r,?_⟩;rw [hn];refine ⟨hr,by have:=W.mem.lH;omega,ht,.inl hp,⟨hk,hb,rfl,rfl⟩,h.made,?_⟩;show 3+Nm.w _+Nm.op _<=Nm.st _+t.ph;unfold Nm.st;omega
  ·refine .inr ⟨0,?_⟩;rw [hn];exact ⟨hk,h.made,by unfold Nm.st;omega⟩
 ·rcases (f_ ha).1 hx with ⟨rfl,rfl⟩|⟨_,hx⟩
  ·rw [h.dn] at mr;cases mr
  ·exact D a2 x hx mr
structure qZ (q:Qr):Prop where
 dn:q.dn=false
 hl:q.nx.holds=true
 hi:q.nx.hi=0
 of:q.nx.kG=0
 pe:q.nx.nD=false
 ch:q.ie=false
 pr:q.aB=[]
theorem qZ.holds (h:qZ q):q.holds=true:=by rw [holds_of h.dn];exact h.hl
theorem Yb (hd:q.dn=false)(hn:q.nx=.leave):qZ q:=⟨hd,by rw [hn];rfl,by rw [hn];rfl,by rw [hn];rfl,by rw [hn];rfl,by unfold Qr.ie;rw [hn];rfl,by unfold Qr.aB;rw [hn];rfl⟩
theorem awE {th:Th}(hd:q.dn=false)(hn:q.nx=.th th):qZ q:=⟨hd,by rw [hn];rfl,by rw [hn];rfl,by rw [hn];rfl,by rw [hn];rfl,by unfold Qr.ie;rw [hn];rfl,by unfold Qr.aB;rw [hn];rfl⟩
theorem awC (hd:q.dn=false)(hn:q.nx=.look):qZ q:=⟨hd,by rw [hn];rfl,by rw [hn];rfl,by rw [hn];rfl,by rw [hn];rfl,by unfold Qr.ie;rw [hn];rfl,by unfold Qr.aB;rw [hn];rfl⟩
theorem awD (hd:q.dn=false)(hn:q.nx=.take):qZ q:=⟨hd,by rw [hn];rfl,by rw [hn];rfl,by rw [hn];rfl,by rw [hn];rfl,by unfold Qr.ie;rw [hn];rfl,by unfold Qr.aB;rw [hn];rfl⟩
theorem World.alq (W:World N c cap au A G rs ks M)(D:tp rs)(ha:rs[a]? =some q)(h:qZ q)(h':qZ q')(hr:q'.room=q.room)(aW:∀t th,q'.nx≠.enter t th)(hs:q'.nx.scan N.B q'.room=none)(hm:Mem c cap A (rs.flatMap Qr.aB) G')(hV:∀h,G'.S.V h=G.S.V h)(hf:Fact N c A M G.S.V q' k')(ke:au+1<2305843009213692000) :
  World N c cap (au+1) A G' (rs.set a q') (rM ks a k') M/\tp (rs.set a q'):=by
 have M0:Mem c cap A (q.aB++cT rs a) G':=hm.L5 (D4 ha);rw [h.pr] at M0;have eV:G'.S.V=G.S.V:=funext hV;refine ⟨W.dt ha (gX.same W ha (by rw [h'.pr];exact M0) rfl rfl rfl (by omega) (W.lG ha rfl rfl h.holds h'.holds hr aW) (λh _=>hV h) (by rw [eV];exact hf) (by rw [h.hi,h'.hi]) (by rw [h.of,h'.of]) (λhp=>by rw [h.pe] at hp;cases hp) (λhc=>by rw [h'.ch] at hc;cases hc) (js (lJ hs))) ke,λa2 x hx mr=>?_⟩;rcases (f_ ha).1 hx with ⟨rfl,rfl⟩|⟨_,hx⟩
 ·rw [h'.dn] at mr;cases mr
 ·exact D a2 x hx mr
theorem World.store (W:World N c cap au A G rs ks M){h:Int}(p:qY c G rs h)(w:Wd) :
  (G.S.acc h 2 true λ_=>w).1.2=true/\World N c cap au A (G.mem (G.S.acc h 2 true λ_=>w).2) rs ks M/\(∀h',h'≠h->(G.S.acc h 2 true λ_=>w).2.V h'=G.S.V h')/\val (G.S.acc h 2 true λ_=>w).2 h=w:=by
 have⟨s1,s2,s3,s4⟩:=W.mem.ak7 (p.mem W) w;refine ⟨s1,⟨s2,W.nn,W.nE,W.nB,W.wC,W.cx,W.tm,W.pR,λb x hx=>?_,W.ay,W.le,W.rel,W.iO,W.fj⟩,s3,s4⟩;refine (W.fact b x hx).iy (δ:=0) rfl (λ_ _ _=>⟨rfl,rfl⟩) (λh' hh=>s3 h' λe=>p.out ?_) ⟨.inl rfl,.inl rfl,.inl rfl⟩ λ_ hs=>?_
 ·rw [<-e];exact zk.2 ⟨x,dF hx,hh⟩
 ·have⟨r,hr⟩:=dG.1 hs;exact (W.fj b x hx r hr).1
theorem World.di (W:World N c cap au A G rs ks M){h:Int}(p:qY c G rs h) :
  (G.S.acc h 2 true id).1=(val G.S h,true)/\World N c cap au A (G.mem (G.S.acc h 2 true id).2) rs ks M/\∀h',(G.S.acc h 2 true id).2.V h'=G.S.V h':=by
 have⟨s1,s2,s3⟩:=W.mem.Xm (p.mem W);have eV:(G.S.acc h 2 true id).2.V=G.S.V:=funext s3;refine ⟨s1,⟨s2,W.nn,W.nE,W.nB,W.wC,W.cx,W.tm,W.pR,λb x hx=>?_,W.ay,W.le,W.rel,W.iO,W.fj⟩,s3⟩;show Fact N c A M (G.S.acc h 2 true id).2.V x (ks b);rw [eV];exact W.fact b x hx
theorem qY.set {S':Sm}(p:qY c G rs j)(ha:rs[a]? =some q)(h':q'.aB=[])(hl:∀h,G.S.V h≠none->S'.V h≠none):qY c (G.mem S') (rs.set a q') j:=
 ⟨hl _ p.live,p.ne,akp ha p.out (by rw [h'];simp)⟩
theorem World.Yk (W:World N c cap au A G rs ks M)(ha:rs[a]? =some q)(h:qZ q)(hr:q.room=(i:Int))(hi:i<A.ls.length):M[i]? =A.ls[i]? :=
 W.u5 ha h.holds h.pe hr hi
theorem World.ax5 (W:World N c cap au A G rs ks M)(ha:rs[a]? =some q)(hd:q.dn=false)(hn:q.nx=.th .op):∃i:Nat,q.room=i/\i<A.ls.length/\1+N.w+N.op<=ks a:=by
 rcases W.fact a q ha with h|⟨i,h⟩
 ·rw [hd] at h;cases h
 rw [hn] at h;have⟨a1,a2,_,_,a5⟩:=h;refine ⟨i,a1,a2,?_⟩;have a5:3+N.w+N.op<=ks a+2:=a5;omega
theorem World.Xn (W:World N c cap au A G rs ks M)(ha:rs[a]? =some q)(hd:q.dn=false)(hn:q.nx=.leave):∃i:Nat,q.room=i/\i<A.ls.length/\1<=ks a:=by
 rcases W.fact a q ha with h|⟨i,h⟩
 ·rw [hd] at h;cases h
 rw [hn] at h;exact ⟨i,h⟩
theorem afc {V:View}(hn:q'.nx=.leave)(hr:q'.room=(i:Int))(hi:i<A.ls.length)(hk:1<=k'):Fact N c A M V q' k':=.inr ⟨i,by rw [hn];exact ⟨hr,hi,hk⟩⟩
theorem arq {V:View}(hn:q'.nx=.look)(h:qW c A i q')(h1:q'.kd=1)(hk:2<=k'):Fact N c A M V q' k':=.inr ⟨i,by rw [hn];exact ⟨h,h1,hk⟩⟩
theorem ars {V:View}(hn:q'.nx=.take)(h:qW c A i q')(h1:q'.kd=5)(hk:7+N.cr+2*N.c2<=k'):Fact N c A M V q' k':=.inr ⟨i,by rw [hn];exact ⟨h,by rw [h1];decide,by rw [h1];decide,by rw [h1];decide,by rw [h1];decide,hk⟩⟩
end
section
variable {c:Lc} {A:Ab} {G:Gr} {cap:Int} {q:Qr} {i:Nat} {P:List Int} {k:Nat} {b:Bs} {S:Sm} {z:Vz} {pre rest:List El} {e:El}
def zJ.more (rest:List El):zJ->Prop
 |.load=>True
 |.ask w=>∃e r,rest=e::r/\w=BitVec.ofInt 64 e.h
 |_=>False
def zJ.kF (rest:List El):zJ->Nat
 |.load=>2*rest.length+2
 |_=>2*rest.length+1
structure IJ (c:Lc)(A:Ab)(i:Nat)(z:Vz)(pre rest:List El):Prop where
 dn:z.dn=false
 room:z.room=(i:Int)
 ls:A.ls[i]? =some (pre++rest)
 keys:z.keys=pre.map El.k
 av:z.av=pre.map El.h
 ah:z.ah=gM c pre
 ai:z.ai=(mA i pre:Int)
 st:z.st.more rest
structure ND (z:Vz)(i:Nat)(l:List El):Prop where
 st:z.st=.pQ
 dn:z.dn=true
 aj:z.aj=true
 room:z.room=(i:Int)
 keys:z.keys=l.map El.k
 av:z.av=l.map El.h
theorem aik (Me:Mem c cap A P G)(P6:z.dn=false)(hr:z.room=(i:Int))(hl:A.ls[i]? =some (pre++rest))(hk:z.keys=pre.map El.k)(he:z.av=pre.map El.h)(h1:z.ah=gM c pre)(h2:z.ai=(mA i pre:Int))(Wf:z.aj=false) :
  (rest≠[]/\IJ c A i (z.di (first rest)) pre rest/\(z.di (first rest)).st≠.load/\(z.di (first rest)).aj=false)∨(rest=[]/\ND (z.di (first rest)) i (pre++rest)):=by
 cases rest with
 |nil=>
  right;have e0:z.di (first [])={z with st:=.pQ,aj:=true,dn:=true}:=ar rfl;rw [e0];exact ⟨rfl,rfl,rfl,rfl,hr,by rw [C7];exact hk,by rw [C7];exact he⟩
 |cons e r=>
  left;have hb:=Me.JD (e:=e) (Ab.mem hl (by simp));have hw:=(VX hb).2;have e0:z.di (first (e::r))={z with st:=.ask (BitVec.ofInt 64 e.h)}:=an hw;rw [e0];exact ⟨by simp,⟨P6,hr,hl,hk,he,h1,h2,e,r,rfl,rfl⟩,(by intro h;cases h),Wf⟩
theorem RU:gM c (pre++[e])=e.h/\mA i (pre++[e])=0:=by
 unfold gM mA;rw [aau];exact ⟨rfl,rfl⟩
theorem aCI (Me:Mem c cap A P G)(h:IJ c A i z pre rest) :
  Mem c cap A P (G.mem (z.step c G.S).2)/\(∀h,(z.step c G.S).2.V h=G.S.V h)/\
  ((∃vo pS,vo++pS=pre++rest/\IJ c A i (z.step c G.S).1 vo pS/\(z.step c G.S).1.st.kF pS<z.st.kF rest/\(z.step c G.S).1.aj=false)∨ND (z.step c G.S).1 i (pre++rest)):=by
 have es:z.step c G.S=Vz.go c {z with aj:=false} G.S:=by unfold Vz.step;rw [an (by rw [h.dn];exact jY)]
 have cB:=h.st;cases hs:z.st with
 |enter t=>rw [hs] at cB;exact cB.elim
 |th=>rw [hs] at cB;exact cB.elim
 |pQ=>rw [hs] at cB;exact cB.elim
 |load=>
  have eg:Vz.go c {z with aj:=false} G.S=(Vz.di {z with aj:=false} (G.S.acc z.ah z.ai true id).1.1,(G.S.acc z.ah z.ai true id).2):=by
   unfold Vz.go;dsimp only;rw [hs]
  rw [es,eg];have⟨l1,l2,l3⟩:=Me.Xl h.ls h.ah h.ai;rw [l1];refine ⟨l2,l3,?_⟩;rcases aik (z:={z with aj:=false}) Me h.dn h.room h.ls h.keys h.av h.ah h.ai rfl with ⟨g1,g2,g3,g4⟩|⟨g1,g2⟩
  ·refine .inl ⟨pre,rest,rfl,g2,?_,g4⟩;have hm:=g2.st;show zJ.kF rest _<2*rest.length+2;cases hq:(Vz.di {z with aj:=false} (first rest)).st with
   |load=>exact absurd hq g3
   |ask w=>show 2*rest.length+1<_;omega
   |enter t=>rw [hq] at hm;exact hm.elim
   |th=>rw [hq] at hm;exact hm.elim
   |pQ=>rw [hq] at hm;exact hm.elim
  ·exact .inr g2
 |ask w=>
  rw [hs] at cB;obtain ⟨e,r,rfl,rfl⟩:=cB;have hb:=Me.JD (e:=e) (Ab.mem h.ls (by simp));have hw:ww (BitVec.ofInt 64 e.h)=e.h:=(VX hb).1;have eg:Vz.go c {z with aj:=false} G.S=({({z with aj:=false}:Vz) with keys:=z.keys++[(G.S.acc e.h 1 true id).1.1],av:=z.av++[e.h],st:=.load,ah:=e.h,ai:=0},(G.S.acc e.h 1 true id).2):=by
   unfold Vz.go;dsimp only;rw [hs];dsimp only;rw [hw]
  rw [es,eg];have⟨l1,l2,l3⟩:=Me.ah4 h.ls;rw [l1];refine ⟨l2,l3,.inl ⟨pre++[e],r,by simp,⟨h.dn,h.room,by rw [mC];exact h.ls,?_,?_,?_,?_,trivial⟩,?_,rfl⟩⟩
  ·show z.keys++[e.k]=_;rw [h.keys,fh];rfl
  ·show z.av++[e.h]=_;rw [h.av,fh];rfl
  ·exact (RU (c:=c) (i:=i) (pre:=pre) (e:=e)).1.symm
  ·show (0:Int)=_;rw [(RU (c:=c) (i:=i) (pre:=pre) (e:=e)).2];rfl
  ·show 2*r.length+2<2*(e::r).length+1;simp only [gU];omega
theorem ax6 (Me:Mem c cap A P G){l:List El}(hs:z.st=.th)(P6:z.dn=false)(hr:z.room=(i:Int))(hl:A.ls[i]? =some l)(hk:z.keys=[])(he:z.av=[]) :
  Mem c cap A P (G.mem (z.step c G.S).2)/\(∀h,(z.step c G.S).2.V h=G.S.V h)/\
  ((IJ c A i (z.step c G.S).1 [] l/\(z.step c G.S).1.st.kF l<=2*l.length+1/\(z.step c G.S).1.aj=false)∨ND (z.step c G.S).1 i l):=by
 have es:z.step c G.S=Vz.go c {z with aj:=false} G.S:=by unfold Vz.step;rw [an (by rw [P6];exact jY)]
 have eg:Vz.go c {z with aj:=false} G.S=(Vz.di {({z with aj:=false}:Vz) with st:=.load,ah:=c.h,ai:=hd z.room} (G.S.acc c.h (hd z.room) true id).1.1,(G.S.acc c.h (hd z.room) true id).2):=by
  unfold Vz.go;dsimp only;rw [hs]
 have Ea:i<100:=by
  have:=Me.lH;have:=(bJ.1 hl).1;omega
 have ea:hd z.room=(mA i []:Int):=by rw [hr,Wc Ea];rfl
 rw [es,eg];have⟨l1,l2,l3⟩:=Me.Xl (pre:=[]) (rest:=l) hl (ah:=c.h) (ai:=hd z.room) rfl ea;rw [l1];refine ⟨l2,l3,?_⟩;rcases aik (pre:=[]) (rest:=l) (z:={({z with aj:=false}:Vz) with st:=.load,ah:=c.h,ai:=hd z.room}) Me P6 hr hl (by show z.keys=_;rw [hk];rfl) (by show z.av=_;rw [he];rfl) rfl ea rfl with ⟨g1,g2,g3,g4⟩|⟨g1,g2⟩
 ·refine .inl ⟨g2,?_,g4⟩;have hm:=g2.st;cases hq:(Vz.di {({z with aj:=false}:Vz) with st:=.load,ah:=c.h,ai:=hd z.room} (first l)).st with
  |load=>exact absurd hq g3
  |ask w=>exact bq _
  |enter t=>rw [hq] at hm;exact hm.elim
  |th=>rw [hq] at hm;exact hm.elim
  |pQ=>rw [hq] at hm;exact hm.elim
 ·exact .inr g2
structure SV (z:Vz)(q:Qr):Prop where
 dn:z.dn=false
 yY:q.dn=false
 room:z.room=q.room
 keys:z.keys=[]
 av:z.av=[]
 st:(∃t,z.st=.enter t/\q.nx=.enter t .op)∨(z.st=.th/\q.nx=.th .op)
theorem arb {t:Tk}(h:SV z q)(hs:z.st=.enter t)(hn:q.nx=.enter t .op) :
  (q.step c G b).2=G.mem (z.step c G.S).2/\SV (z.step c G.S).1 (q.step c G b).1/\(z.step c G.S).1.aj=false/\(q.step c G b).1.aj=false/\(q.step c G b).1.room=q.room:=by
 have es:z.step c G.S=Vz.go c {z with aj:=false} G.S:=by unfold Vz.step;rw [an (by rw [h.dn];exact jY)]
 have eg:Vz.go c {z with aj:=false} G.S=({({z with aj:=false}:Vz) with st:=if (t.step c G.S).1 then .th else .enter (t.step c G.S).2.1},(t.step c G.S).2.2):=by
  unfold Vz.go;dsimp only;rw [hs]
 rw [es,eg,aK h.yY hn];refine ⟨rfl,⟨h.dn,h.yY,h.room,h.keys,h.av,?_⟩,rfl,rfl,rfl⟩;show (∃t',(if (t.step c G.S).1 then zJ.th else .enter (t.step c G.S).2.1)=.enter t'/\(if (t.step c G.S).1 then Nx.th .op else .enter (t.step c G.S).2.1 .op)=.enter t' .op)∨((if (t.step c G.S).1 then zJ.th else .enter (t.step c G.S).2.1)=.th/\(if (t.step c G.S).1 then Nx.th .op else .enter (t.step c G.S).2.1 .op)=.th .op);cases (t.step c G.S).1 with
 |true=>exact .inr ⟨rfl,rfl⟩
 |false=>exact .inl ⟨_,rfl,rfl⟩
inductive Vr (p q:Qr):Prop where
 |look:p.nx=.ot->q.nx=.look->p.cur=q.cur->Vr p q
 |change:p.nx=.change (.take .done)->q.nx=.change (.take .gZ)->p.cur=q.cur->p.ah=q.ah->p.ai=q.ai->Vr p q
 |after:p.nx=.after (.take .done)->q.nx=.after (.take .gZ)->p.cur=q.cur->p.ah=q.ah->p.ai=q.ai->Vr p q
 |off:p.nx=.off .done->q.nx=.off .gZ->p.cur=q.cur->p.ah=q.ah->p.ai=q.ai->Vr p q
 |gp:p.nx=.gp .done->q.nx=.gp .gZ->p.cur=q.cur->p.ah=q.ah->p.ai=q.ai->Vr p q
 |iD {v:Wd}:p.nx=.iD v .done->q.nx=.iD v .gZ->p.cur=q.cur->p.ah=q.ah->p.ai=q.ai->Vr p q
 |leave:p.nx=.leave->q.nx=.leave->p.room=q.room->Vr p q
theorem Fq {p:Qr}(h:Vr p q)(hp:p.dn=false)(hq:q.dn=false) :
  (p.step c G b).2=(q.step c G b).2/\(p.step c G b).1.aj=(q.step c G b).1.aj/\(q.step c G b).1.room=q.room/\
  ((p.step c G b).1.aj=true->(p.step c G b).1.no=(q.step c G b).1.no/\(p.step c G b).1.rv=(q.step c G b).1.rv/\(p.step c G b).1.rk=(q.step c G b).1.rk/\(p.step c G b).1.el=(q.step c G b).1.el)/\
  (((p.step c G b).1.dn=false/\(q.step c G b).1.dn=false/\Vr (p.step c G b).1 (q.step c G b).1)∨
   ((p.step c G b).1.dn=true/\q.nx≠.leave/\(q.step c G b).1.nx=.leave/\(q.step c G b).1.dn=false)∨
   ((p.step c G b).1.dn=true/\q.nx=.leave/\(q.step c G b).1.dn=true)):=by
 cases h with
 |look h1 h2 h3=>
  rw [aK hp h1,aK hq h2];have e1:cd c .ot {p with aj:=false} G b=({({p with aj:=false}:Qr).dH 0 [(G.S.acc q.cur 2 true id).1.1] 0 (Qr.elem c {q with aj:=false} (G.S.acc q.cur 2 true id).1.1) with dn:=true},G.mem (G.S.acc q.cur 2 true id).2):=by
   rw [<-h3];rfl
  rw [e1];exact ⟨rfl,rfl,rfl,λ_=>⟨rfl,rfl,rfl,rfl⟩,.inr (.inl ⟨rfl,(by rw [h2];intro h;cases h),rfl,hq⟩)⟩
 |change h1 h2 h3 h4 h5=>
  rw [aK hp h1,aK hq h2];exact ⟨rfl,rfl,rfl,λh=>(by cases h),.inl ⟨hp,hq,.after rfl rfl h3 h4 h5⟩⟩
 |after h1 h2 h3 h4 h5=>
  rw [aK hp h1,aK hq h2];have e1:cd c (.after (.take .done)) {p with aj:=false} G b=((({p with aj:=false}:Qr).dH 0 [(G.S.acc q.cur 2 true id).1.1] 0 0).to (.off .done),G.mem (G.S.acc q.cur 2 true id).2):=by
   rw [<-h3];rfl
  rw [e1];exact ⟨rfl,rfl,rfl,λ_=>⟨rfl,rfl,rfl,rfl⟩,.inl ⟨hp,hq,.off rfl rfl h3 h4 h5⟩⟩
 |off h1 h2 h3 h4 h5=>
  rw [aK hp h1,aK hq h2];exact ⟨rfl,rfl,rfl,λh=>(by cases h),.inl ⟨hp,hq,.gp rfl rfl h3 h4 h5⟩⟩
 |gp h1 h2 h3 h4 h5=>
  rw [aK hp h1,aK hq h2];have e1:cd c (.gp .done) {p with aj:=false} G b=(({p with aj:=false}:Qr).to (.iD (G.S.acc q.cur 0 true id).1.1 .done),G.mem (G.S.acc q.cur 0 true id).2):=by
   rw [<-h3];rfl
  rw [e1];exact ⟨rfl,rfl,rfl,λh=>(by cases h),.inl ⟨hp,hq,.iD rfl rfl h3 h4 h5⟩⟩
 |@iD v h1 h2 h3 h4 h5=>
  rw [aK hp h1,aK hq h2];have e1:cd c (.iD v .done) {p with aj:=false} G b=({({p with aj:=false}:Qr) with dn:=true},((G.mem (G.S.acc q.ah q.ai true λ_=>v).2).defer q.cur b.1).2):=by
   rw [<-h3,<-h4,<-h5];rfl
  rw [e1];exact ⟨rfl,rfl,rfl,λh=>(by cases h),.inr (.inl ⟨rfl,(by rw [h2];intro h;cases h),rfl,hq⟩)⟩
 |leave h1 h2 h3=>
  rw [aK hp h1,aK hq h2];have e1:cd c .leave {p with aj:=false} G b=({({p with aj:=false}:Qr) with dn:=true},G.mem (pF c {q with aj:=false} G.S)):=by
   unfold cd pF;dsimp only;rw [h3]
  rw [e1];exact ⟨rfl,rfl,rfl,λh=>(by cases h),.inr (.inr ⟨rfl,h2,rfl⟩)⟩
end
section
variable {N:Nm} {c:Lc} {A A':Ab} {G:Gr} {cap:Int} {q q' x:Qr} {i j:Nat} {n k k' a au δ:Nat} {rs:List Qr} {M M':List (List El)} {ks ks':Nat->Nat} {b:Bs} {S:Sm} {pre rest vo pS:List El} {e e':El} {st:Option (Int×Wd)}
theorem Zu:∀{pre vo:List El}{e e':El}{rest pS:List El},(pre++e::rest).Pairwise (λa b=>a.k.toNat<b.k.toNat)->pre++e::rest=vo++e'::pS->e.k=e'.k->pre=vo/\e=e'/\rest=pS
 |[],[],e,e',rest,pS,_,h,_=>by
  simp only [rQ,zj] at h
  exact ⟨rfl,h.1,h.2⟩
 |[],y::ys,e,e',rest,pS,hp,h,hk=>by
  simp only [rQ,rR,zj] at h
  obtain ⟨rfl,rfl⟩:=h
  have:=(Bf.1 hp).1 e' (by simp)
  rw [hk] at this;omega
 |y::ys,[],e,e',rest,pS,hp,h,hk=>by
  simp only [rQ,rR,zj] at h
  obtain ⟨rfl,rfl⟩:=h
  have:=(Bf.1 hp).1 e (by simp)
  rw [hk] at this;omega
 |y::ys,u::us,e,e',rest,pS,hp,h,hk=>by
  simp only [rR,zj] at h
  obtain ⟨rfl,h2⟩:=h
  have⟨h3,h4,h5⟩:=Zu (Bf.1 hp).2 h2 hk
  exact ⟨by rw [h3],h4,h5⟩
theorem Vd {t:Bool}:q.found t=q.fail 3∨q.found t=q.fail 2∨∃n,q.found t=q.to n:=by
 unfold Qr.found
 repeat' split
 all_goals first
  |exact .inl rfl
  |exact .inr (.inl rfl)
  |exact .inr (.inr ⟨_,rfl⟩)
theorem arF {t:Bool}(h:(q.found t).aj=true):q.aj=true∨(q.found t).no≠0:=by
 rcases Vd (q:=q) (t:=t) with e|e|⟨n,e⟩
 ·right;rw [e];show (3:Int)≠0;decide
 ·right;rw [e];show (2:Int)≠0;decide
 ·left;rw [e] at h;exact h
theorem ael {cb:Cb}{t:Bool}(h:(q.cb cb t).aj=true):q.aj=true∨(q.cb cb t).no≠0:=by
 cases cb with
 |find=>exact arF h
 |next r=>
  left;unfold Qr.cb at h;dsimp only at h;split at h<;>exact h
theorem aif {w k:Wd}{bh:Bool}{cb:Cb}(h0:q.aj=false)(h:(q.di w k bh cb).aj=true):(q.di w k bh cb).no≠0:=by
 unfold Qr.di at h⊢;split at h
 ·rename_i e;rw [ar e];rcases ael h with h|h
  ·have h:q.aj=true:=h;rw [h0] at h;cases h
  ·exact h
 ·have h:q.aj=true:=h;rw [h0] at h;cases h
theorem apw {w k:Wd}{bh:Bool}{cb:Cb}(h0:q.aj=false)(h:(q.asked w k bh cb).aj=true):(q.asked w k bh cb).no≠0:=by
 unfold Qr.asked at h⊢;split at h
 ·rename_i e;rw [ar e];rcases ael h with h|h
  ·have h:q.aj=true:=h;rw [h0] at h;cases h
  ·exact h
 ·have h:q.aj=true:=h;rw [h0] at h;cases h
theorem RK {r:Int}{bh:Bool}{b0:Nat}:(q.search c r bh b0).aj=q.aj:=by unfold Qr.search;split<;>rfl
theorem aqZ (W:World N c cap au A G rs ks M)(ha:rs[a]? =some q)(hd:q.dn=false)(h2:q.kd=2)(hm:yj c M q.ky)(he:(q.step c G b).1.aj=true)(h0:(q.step c G b).1.no=0):q.aB=[q.made]/\(q.step c G b).1.nx=.link/\(q.step c G b).1.made=q.made/\(q.step c G b).1.dn=false:=by
 have hF:∃i:Nat,_:=(W.fact a q ha).resolve_left (by rw [hd];exact jY);have⟨i,hF⟩:=hF;have av1:q.holds=true->q.nx.nD=false->qW c A i q->False:=λhh hp ⟨pre,e,rest,I,hu,ek,hb⟩=>by
  have hM:M[i]? =some (pre++e::rest):=by rw [W.u5 ha hh hp I.room I.lt];exact I.ls
  have⟨i2,l,h3,h4,h5⟩:=hm
  have:i2=i:=by rw [hb] at h3;omega
  subst this;rw [hM] at h4;obtain rfl:=dM h4;exact h5 e (by simp) ek
 cases hn:q.nx with
 |none=>rw [hn] at hF;exact hF.elim
 |enter t th=>rw [aK hd hn] at he;cases he
 |th th=>
  rw [aK hd hn] at he h0;have h0:(Qr.di _ _ _ _ _).no=0:=h0;exact absurd h0 (aif rfl he)
 |load _ _ _=>
  rw [aK hd hn] at he h0;have h0:(Qr.di _ _ _ _ _).no=0:=h0;exact absurd h0 (aif rfl he)
 |ask _ _ _=>
  rw [aK hd hn] at he h0;have h0:(Qr.asked _ _ _ _ _).no=0:=h0;exact absurd h0 (apw rfl he)
 |set=>
  rw [hn] at hF;exact (av1 (by rw [holds_of hd,hn];rfl) (by rw [hn];rfl) hF.1).elim
 |look=>rw [hn] at hF;have:=hF.2.1;omega
 |drop=>rw [hn] at hF;have:=hF.2.1;omega
 |take=>rw [hn] at hF;have:=hF.2.2.1;omega
 |space=>
  rw [aK hd hn] at he h0;have he:(Qr.space c {q with aj:=false} (G.S.acc c.h 0 true id).1.1 (G.mem (G.S.acc c.h 0 true id).2)).1.aj=true:=he;have h0:(Qr.space c {q with aj:=false} (G.S.acc c.h 0 true id).1.1 (G.mem (G.S.acc c.h 0 true id).2)).1.no=0:=h0;unfold Qr.space at he h0;split at he
  ·cases he
  ·rename_i e1;split at he
   ·rename_i e2;rw [an e1,ar e2] at h0;cases h0
   ·cases he
 |make=>
  rw [aK hd hn] at he h0;have he:(if (G.S.make b.1 3).1.2≠0 then _ else _:Qr×Gr).1.aj=true:=he;have h0:(if (G.S.make b.1 3).1.2≠0 then _ else _:Qr×Gr).1.no=0:=h0;split at he
  ·rename_i e1;rw [ar e1] at h0;cases h0
  ·cases he
 |words _ _ _ _ _=>rw [aK hd hn] at he;cases he
 |change f=>rw [aK hd hn] at he;cases he
 |after f=>
  cases f with
  |add=>
   have hp:q.aB=[q.made]:=by unfold Qr.aB;rw [hn];rfl
   rw [aK hd hn] at he⊢;have he:(kR c .add {q with aj:=false} G.S).1.aj=true:=he;show q.aB=[q.made]/\(kR c .add {q with aj:=false} G.S).1.nx=.link/\(kR c .add {q with aj:=false} G.S).1.made=q.made/\(kR c .add {q with aj:=false} G.S).1.dn=false;unfold kR at he⊢;dsimp only at he⊢;split at he
   ·rename_i e1;rw [ar e1];exact ⟨hp,rfl,rfl,hd⟩
   ·cases he
  |drop=>rw [hn] at hF;have:=hF.2.1;omega
  |take w=>rw [hn] at hF;have:=hF.2.2.2.1;omega
 |link=>rw [aK hd hn] at he;cases he
 |gp _=>rw [aK hd hn] at he;cases he
 |iD v w=>rw [aK hd hn] at he;cases w<;>cases he
 |off _=>rw [aK hd hn] at he;cases he
 |leave=>rw [aK hd hn] at he;cases he
 |begin=>rw [hn] at hF;have:=hF.1;omega
 |free _=>rw [hn] at hF;have:=hF.1;omega
 |k9=>rw [hn] at hF;have:=hF.1;omega
 |kZ=>rw [hn] at hF;have:=hF.1;omega
 |mn=>rw [hn] at hF;have:=hF.2.2.1;omega
 |ot=>rw [hn] at hF;exact hF.elim
theorem ayd (W:World N c cap au A G rs ks M)(D:tp rs)(ha:rs[a]? =some q)(ke:au+1<2305843009213692000)(b:Bs) :
  ∃A' M' ks' st,yl N c cap au A G rs ks M a q (q.step c G b).1 (q.step c G b).2 A' M' ks' st/\(∀j:Nat,A'.ls[j]? ≠A.ls[j]? ∨M'[j]? ≠M[j]? ->q.holds=true/\q.room=(j:Int))/\(∀b2,b2≠a->ks b2<=ks' b2)/\A'.ls.length=A.ls.length:=by
 by_cases hd:q.dn=true
 ·have e:q.step c G b=(q,G):=by unfold Qr.step;rw [ar hd]
  rw [e];refine ⟨A,M,ks,none,⟨by rw [nF ha];exact W.Oo ke,by rw [nF ha];exact D,.inr ⟨.inl hd,rfl,rfl,rfl,rfl,rfl,rfl⟩,λh=>?_,λ_=>⟨rfl,rfl,rfl,rfl,rfl⟩,λh=>?_,λh=>?_,rfl,⟨rfl,rfl,rfl,rfl⟩⟩,λj hj=>?_,λ_ _=>bq _,rfl⟩
  ·rw [hd] at h;cases h
  ·rw [hd] at h;cases h
  ·rw [hd] at h;cases h
  ·rcases hj with h|h<;>exact absurd rfl h
 ·have hd:q.dn=false:=by simpa using hd
  have⟨A',M',k',δ,st,S⟩:=al8 (b:=b) W ha hd;refine ⟨A',M',_,st,⟨W.dt ha S.dt ke,λa2 x hx mr=>?_,?_,λ_=>S.CY,λh=>(by rw [hd] at h;cases h),λ_=>S.aj,λ_=>S.one,S.ins,S.qI⟩,S.dt.own,λb2 J9=>?_,S.dt.len⟩
  ·rcases (f_ ha).1 hx with ⟨rfl,rfl⟩|⟨_,hx⟩
   ·exact OO W ha hd mr
   ·exact D a2 x hx mr
  ·rcases akl W ha S with h|⟨h1,h2,h3,h4,h5,h6⟩
   ·exact .inl h
   ·refine .inr ⟨.inr h1,h2,h3,h4,h5,h6,?_⟩;cases Eo:(q.step c G b).1.dn with
    |false=>rw [hd]
    |true=>
     have h7:=OO W ha hd Eo;exfalso;have h8:q.dh=true:=by
      rcases h1 with ⟨t,th,_,hn,hp,_⟩|⟨hn,_⟩
      ·unfold Qr.dh;rw [hn];simp [Nx.waits,hp]
      ·exact Am (by rw [holds_of hd,hn];rfl)
     have h9:(q.step c G b).1.dh=true:=by
      rcases h1 with ⟨t,th,_,hn,hp,_⟩|⟨hn,_⟩
      ·unfold Qr.dh;rw [h5,hn];simp [Nx.waits,hp]
      ·unfold Qr.dh Qr.holds;rw [h5,hn];simp [Nx.holds,Nx.lv]
     rw [h7] at h9;cases h9
  ·show ks b2<=if b2=a then k' else ks b2+δ;rw [an J9];omega
theorem awo (W:World N c cap au A G rs ks M)(hl:A'.ls.length=A.ls.length)(Ex:M'.length=M.length)(ho:∀j:Nat,A'.ls[j]? ≠A.ls[j]? ∨M'[j]? ≠M[j]? ->q.holds=true/\q.room=(j:Int))(ha:rs[a]? =some q){b:Nat}(hb:rs[b]? =some x)(aW:b≠a)(hh:x.holds=true)(hr:x.room=(i:Int)) :
  A'.ls[i]? =A.ls[i]? /\M'[i]? =M[i]? :=by
 have key:¬(A'.ls[i]? ≠A.ls[i]? ∨M'[i]? ≠M[i]?):=λhn=>by
  have⟨h1,h2⟩:=ho i hn;by_cases hi:i<A.ls.length
  ·have⟨Q,hQ,_⟩:=W.pR i hi;exact aW (hQ.one hb ha hh h1 hr h2)
  ·have e1:A'.ls[i]? =A.ls[i]? :=by rw [ji (by rw [hl];omega),ji (by omega)]
   have e2:M'[i]? =M[i]? :=by rw [ji (by rw [Ex,W.cx];omega),ji (by rw [W.cx];omega)]
   rcases hn with h|h
   ·exact h e1
   ·exact h e2
 exact ⟨rT λh=>key (.inl h),rT λh=>key (.inr h)⟩
structure m0 (c:Lc)(G:Gr)(rs:List Qr)(h:Int):Prop where
 live:G.S.V h≠none
 ne:h≠c.h
 own:∀(a:Nat)(q:Qr),rs[a]? =some q->h∈q.aB->q.nx=.link
theorem m0.step (W:World N c cap au A G rs ks M)(hi:G.ins≠[])(ha:rs[a]? =some q)(hd:q.dn=false){h:Int}(p:m0 c G rs h):m0 c (q.step c G b).2 (rs.set a (q.step c G b).1) h:=by
 have hb:=W.mem.bk;have hk:=W5 (c:=c) (q:=q) (b:=b) hb.ok hi hb.fresh;have hm:=hb.sL h (II.1 p.live);refine ⟨?_,p.ne,λa2 x hx hh=>?_⟩
 ·by_cases hp:h∈q.aB
  ·have hn:=p.own a q ha hp;rw [aK hd hn];exact NU.2 p.live
  ·exact hk.live h hp p.live
 ·rcases (f_ ha).1 hx with ⟨rfl,rfl⟩|⟨_,hx⟩
  ·rcases akq W ha hd h hh with h1|h1
   ·have hn:=p.own a2 q ha h1;rw [aK hd hn] at hh;cases hh
   ·omega
  ·exact p.own a2 x hx hh
theorem m0.set {S':Sm}{h:Int}(p:m0 c G rs h)(ha:rs[a]? =some q)(h':q'.aB=[])(hl:∀h,G.S.V h≠none->S'.V h≠none):m0 c (G.mem S') (rs.set a q') h:=
 ⟨hl _ p.live,p.ne,λa2 x hx hh=>by
  rcases (f_ ha).1 hx with ⟨rfl,rfl⟩|⟨_,hx⟩
  ·rw [h'] at hh;cases hh
  ·exact p.own a2 x hx hh⟩
end
end Go.Proofs.YtjggeoghlicmdaaGreat
namespace Go.AS
open Go.RowKit
section
variable {H H0:aa} {L:List ax}
def old (H0:aa):ax:=⟨List.range H0.next,λH=>∀i,i<H0.next->H.get i=H0.get i,λh k i hi=>by rw [h i (Ie.2 hi)];exact k i hi⟩
theorem Sep.start (H0:aa):Sep H0 [old H0]:=by
 refine ⟨λA hA=>?_,?_,λi hi=>?_⟩
 ·obtain rfl:=fo.1 hA;exact λi _=>rfl
 ·have:ly [old H0]=List.range H0.next:=by simp [ly,old]
  rw [this];exact List.nodup_range
 ·have:ly [old H0]=List.range H0.next:=by simp [ly,old]
  rw [this] at hi;exact Ie.1 hi
theorem aj8 {i:Nat}{o:Obj}(h:Sep H L)(hm:old H0∈L)(hi:i<H0.next)(hg:H0.get i=some o):H.get i=some o:=by
 rw [h.all _ hm i hi,hg]
structure oE (H0:aa)(a:Option Addr)(n:Nat)(css:List (List Value)):Prop where
 len:n=css.length
 ex:css=[]/\a=none∨∃i,a=some ⟨i,0,none⟩/\i<H0.next/\H0.get i=some (.cells false 0 css.flatten)
theorem oE.row {a:Option Addr}{n w:Nat}{css:List (List Value)}(o:oE H0 a n css)(h:Sep H L)(hm:old H0∈L)(hw:∀c∈css,c.length=w){j:Nat}{r:List Value}(hj:css[j]? =some r) :
  ∃i,a=some ⟨i,0,none⟩/\H.aM i (0+j*w) w=some r/\∀k v,r[k]? =some v->H.cell i (0+j*w+k)=some v:=by
 have⟨hl,hg⟩:=bJ.1 hj;rcases o.ex with ⟨e,_⟩|⟨i,rfl,h1,h2⟩
 ·rw [e] at hl;simp at hl
 ·have h3:=aj8 h hm h1 h2;refine ⟨i,rfl,?_,λk v hk=>?_⟩
  ·rw [nT h3,cG,aw3 hw hl,hg]
  ·have bj:k<w:=by
    have:=(bJ.1 hk).1
    rw [<-hg,hw _ (SL hl)] at this;exact this
   rw [cell_of h3,cG,akI hw hl bj,hg,hk]
theorem oE.Ug {a:Option Addr}{n w:Nat}{css:List (List Value)}(o:oE H0 a n css)(h:Sep H L)(hm:old H0∈L)(hw:∀c∈css,c.length=w){j:Nat}{r:List Value}(hj:css[j]? =some r){v:Value}(hv:r[0]? =some v) :
  ∃i,a=some ⟨i,0,none⟩/\H.cell i (0+j*w)=some v:=by
 have⟨i,e,_,h2⟩:=o.row h hm hw hj;exact ⟨i,e,h2 0 v hv⟩
end
end Go.AS
namespace Go.Proofs.YtjggeoghlicmdaaGreat
open Go Go.AS Go.RowKit
section
variable {H H' H0:aa} {R:Value->aa->Prop} {L:List ax} {a b:Option Addr} {ws:List (BitVec 64)}
def lO (L:List ax)(a:Option Addr)(ws:List (BitVec 64)):Prop:=
 ∀H',Sep H' L->∀(j:Nat) w,ws[j]? =some w->∃i,a=some ⟨i,0,none⟩/\H'.cell i (0+j*1)=some (W w)
abbrev bS (ws:List (BitVec 64)):List Value:=ws.map W
theorem HE {q:Option Nat}(hm:gl 1 q (bS ws)∈L)(hq:q=none->ws=[]):lO L (addr q) ws:=by
 intro H' hs j x hx;cases q with
 |none=>rw [hq rfl] at hx;simp at hx
 |some q=>
  have hg:H'.get q=some (.cells true 1 (bS ws)):=(hs.all _ hm) (bx q (.cells true 1 (bS ws))) (by simp);exact ⟨q,rfl,by rw [cell_of hg,cG,ou,jg,hx];rfl⟩
theorem awM {n:Nat}(o:oE H0 a n (ws.map λw=>[W w]))(hm:old H0∈L):lO L a ws:=by
 intro H' hs j x hx;exact o.Ug hs hm (aCM ws) (by rw [jg,hx];rfl) rfl
theorem lO.MF {A:ax}(h:lO L a ws):lO (A::L) a ws:=λH' hs=>h H' hs.tail
theorem Ny {n:Nat}(h:Sep H L)(ra:lO L a ws)(Ah:n=ws.length)(hn:ws.length<1000000000)(hR:∀H' q,(q=none->ws=[])->Sep H' (gl 1 q (bS ws)::L)->R (.slice (addr q) ws.length 0) H'):CA en F.F8 [.slice a n 0] H R:=by
 subst Ah;apply azK;refine ayl (λk t3 ki t4 H=>∃(j:Nat)(q:Option Nat),j<=ws.length/\k=ws.length - j/\t4=(j:Int)/\t3=addr q/\ki=j/\(q=none->j=0)/\Sep H (gl 1 q (bS (ws.take j))::L)) ws.length ⟨0,none,by omega,rfl,rfl,rfl,rfl,λ_=>rfl,kx.2 h⟩ ?_;clear h;rintro k t3 ki t4 ys H3 ⟨j,q,hj,rfl,rfl,rfl,rfl,hq,hs⟩;refine aI (λh1=>?_) λh1=>?_
 ·have hG:ki<ws.length:=by simp only [gf] at h1;omega
  have⟨x,hx⟩:∃x,ws[ki]? =some x:=⟨_,cM hG⟩;obtain ⟨i,rfl,e1⟩:=ra _ hs.tail ki x hx;refine ⟨by unfold az;omega,bG ⟨_,e1,Sep.nw hs λi4 H5 h5=>⟨[W x],oO (es:=1) (n:=1) (b:=i4) (Sep.gL h5) (by decide) rfl,?_⟩⟩⟩;refine qo (b:=q) (len:=ki) (n:=1) (cs:=bS (ws.take ki)) (new:=[W x]) (Sep.iE h5) (λh=>by rw [hq h];rfl) (by decide) (by rw [gb,km];omega) (by decide) rfl (by omega) λH' q' h'=>⟨ws.length - (ki+1),by omega,ki+1,some q',by omega,rfl,by rw [wrap_i64 (by omega)];omega,rfl,rfl,(λh=>by cases h),?_⟩
  rw [vC,hx];have e:bS (ws.take ki++(some x).toList)=bS (ws.take ki)++[W x]:=by simp
  rw [e];exact Sep.AL h'
 ·have e:ki=ws.length:=by simp only [jF] at h1;omega
  subst e;rw [wM] at hs;exact T8 (hR H3 q (λh=>zB (hq h)) hs)
theorem aa4 {q:Option Nat}{n:Nat}(Ah:n=ws.length)(hl:ws.length<100000)(n1:q=none->ws=[])(hs:Sep H (gl 1 q (bS ws)::L))(hR:∀H',Sep H' L->R undef H'):CA en F.DQ [.slice (addr q) n 0] H R:=by
 subst Ah;apply azO;refine ayo (λk t2 H=>∃(j:Nat)(c:List Value),c.length=ws.length/\j<=ws.length/\k=ws.length - j/\t2=(j:Int)/\Sep H (gl 1 q c::L)) ws.length ⟨0,bS ws,by simp,by omega,rfl,rfl,hs⟩ ?_;clear hs;rintro k t2 ys H3 ⟨j,c,ct,hj,rfl,rfl,hs⟩;refine aI (λh1=>?_) λh1=>hR H3 hs.tail
 have hG:j<ws.length:=by simp only [gf] at h1;omega
 apply azP;refine ⟨_,rfl,by unfold az;omega,?_⟩;cases q with
 |none=>rw [n1 rfl] at hG;simp at hG
 |some q=>
  refine bG (Sep.dp (dN.1 hs) (by rw [dr];simp only [gU,nM];omega) λH6 h6=>⟨ws.length - (j+1),by omega,j+1,_,?_,by omega,rfl,by rw [wrap_i64 (by omega)];omega,dN.2 h6⟩);rw [Mn];exact ct
theorem aa3 {n k:Nat}(h:Sep H L)(ra:lO L a ws)(rb:lO L b ws)(Ah:n=ws.length)(nX:k=ws.length)(hn:ws.length<1000000000)(hR:∀H',Sep H' L->R (.bool true) H'):CA en F.Ow [.slice a n 0,.slice b k 0] H R:=by
 subst Ah nX;apply azN;refine bl (by simp) ?_;refine ayn (λk _ t5 H=>∃j:Nat,j<=ws.length/\k=ws.length - j/\t5=(j:Int)/\Sep H L) ws.length ⟨0,by omega,rfl,rfl,h⟩ ?_;clear h;rintro k t4 t5 ys H3 ⟨j,hj,rfl,rfl,hs⟩;refine aI (λh1=>?_) λh1=>uK (hR H3 hs)
 have hG:j<ws.length:=by simp only [gf] at h1;omega
 have⟨x,hx⟩:∃x,ws[j]? =some x:=⟨_,cM hG⟩;have hB:=hs.ae 9;obtain ⟨i,rfl,e1⟩:=ra _ hB j x hx;obtain ⟨i',rfl,e2⟩:=rb _ hB j x hx;exact ⟨by unfold az;omega,bG ⟨_,e1,by unfold az;omega,bG ⟨_,e2,⟨bl (by simp) ⟨ws.length - (j+1),by omega,j+1,by omega,rfl,by rw [wrap_i64 (by omega)];omega,hB⟩,trivial⟩⟩⟩⟩
abbrev opV (kind key flag bW:Int)(a:Option Addr)(n:Nat):List Value:=[I kind,.int .u64 key,.slice a n 0,I flag,I bW]
theorem XZ {α β:Type}{P:α->β->Prop}:∀(css:List β),(∀c∈css,∃o,P o c)->∃l:List α,l.length=css.length/\∀(j:Nat) o,l[j]? =some o->∃c,css[j]? =some c/\P o c
 |[],_=>⟨[],rfl,by simp⟩
 |c::css,h=>by
  have⟨o,ho⟩:=h c (by simp)
  have⟨l,h1,h2⟩:=XZ css λc hc=>h c (jh _ hc)
  refine ⟨o::l,by simp [h1],λj x hx=>?_⟩
  cases j with
  |zero=>simp at hx;subst hx;exact ⟨c,rfl,ho⟩
  |succ j=>exact h2 j x (by simpa using hx)
structure Op where
 kind:Int
 key:BitVec 64
 val:List (BitVec 64)
 flag:Int
 bW:Int
def OpC (H0:aa)(o:Op)(c:List Value):Prop:=∃a n,c=opV o.kind o.key.toNat o.flag o.bW a n/\oE H0 a n (o.val.map λw=>[W w])
end
section
variable {H H':aa} {L:List ax} {vs:List (BitVec 64)}
theorem Sep.av3 {o:AS.Obj}{K:Nat->aa->Prop}(h:Sep H L)(k:Sep (H.new o) (bx H.next o::L)->K H.next (H.new o)):aC H o K:=k (h.new o)
section
variable {i w k j o n:Nat} {ow:Bool} {css:List (List Value)} {row:List Value}
theorem fk {v:Value}(h:Sep H L)(j:Nat)(hj:L[j]? =some (bx i (.cells ow w (css.set k row).flatten)))(hw:∀c∈css,c.length=w)(hr:row.length=w)(hk:k<css.length)(ho:row[o]? =some v):H.cell i (0+k*w+o)=some v:=by
 have aE:o<w:=by have:=(bJ.1 ho).1;omega
 have nX:k<(css.set k row).length:=by simpa using hk
 rw [cell_of (h.get j hj),cG,akI (RM hw hr) nX aE];simpa using ho
theorem EP {v:Value}(h:Sep H L)(j:Nat)(hj:L[j]? =some (bx i (.cells ow w (css.set k row).flatten)))(hw:∀c∈css,c.length=w)(hr:row.length=w)(hk:k<css.length)(ho:row[0]? =some v):H.cell i (0+k*w)=some v:=fk (o:=0) h j hj hw hr hk ho
theorem ax2 {cs:List Value}{vs:List Value}(h:fm row o n=some vs):∃p q,row=p++(vs++q)/\p.length=o/\vs.length=n:=by
 unfold fm at h;split at h
 ·rename_i hl;obtain rfl:=dM h;refine ⟨row.take o,(row.drop o).drop n,?_,by rw [km];omega,by rw [km,C9];omega⟩;rw [wN,wN]
 ·cases h
theorem Ym {vs:List Value}(h:Sep H L)(j:Nat)(hj:L[j]? =some (bx i (.cells ow w (css.set k row).flatten)))(hw:∀c∈css,c.length=w)(hr:row.length=w)(hk:k<css.length)(ho:fm row o n=some vs):H.aM i (0+k*w+o) n=some vs:=by
 have nX:k<(css.set k row).length:=by simpa using hk
 have h1:=HJ _ (RM (k:=k) hw hr);have hle:k*w+w<=(css.set k row).length*w:=by rw [<-Ns];exact x_ _ nX
 rw [nT (h.get j hj),cG];unfold fm at ho⊢;split at ho
 ·rename_i hl;rw [ar (by omega),<-A_,Mg _ k (RM hw hr),zy nX,s_];have e:(css.set k row)[k]=row:=by simp
  rw [e,FD (by omega),SQ (by rw [C9];omega)];exact ho
 ·cases ho
theorem Zh:∀(vs:List Value)(p m q:List Value),m.length=vs.length->setAt (p++(m++q)) p.length vs=p++(vs++q)
 |[],p,m,q,h=>by
  have:m=[]:=zB h
  subst this;rfl
 |v::vs,p,m,q,h=>by
  cases m with
  |nil=>simp at h
  |cons x m=>
   have e1:(p++(x::m++q)).set p.length v=(p++[v])++(m++q):=by simp
   show setAt ((p++(x::m++q)).set p.length v) (p.length+1) vs=_;have e2:p.length+1=(p++[v]).length:=by simp
   rw [e1,e2,Zh vs (p++[v]) m q (by simpa using h)];simp
theorem kI {vs:List Value}{K:aa->Prop}(h:Sep H L)(j:Nat)(hj:L[j]? =some (bx i (.cells true w (css.set k row).flatten)))(hw:∀c∈css,c.length=w)(hr:row.length=w)(hk:k<css.length)(ho:o+vs.length<=w)
  (r:∀H',Sep H' (L.set j (bx i (.cells true w (css.set k (setAt row o vs)).flatten)))->K H'):aq H i (0+k*w+o) vs K:=by
 have nX:k<(css.set k row).length:=by simpa using hk
 have hlen:=HJ _ (RM (k:=k) hw hr);have hle:k*w+w<=(css.set k row).length*w:=by rw [<-Ns];exact x_ _ nX
 refine Sep.st h j hj (by omega) λH' h'=>r H' ?_
 have e:setAt (css.set k row).flatten (0+k*w+o) vs=(css.set k (setAt row o vs)).flatten:=by
  have hkc:(css.set k row)[k]? =some row:=by rw [vD hk]
  have s1:css.set k row=css.take k++row::css.drop (k+1):=by rw [amE,ar hk]
  have s2:css.set k (setAt row o vs)=css.take k++setAt row o vs::css.drop (k+1):=by rw [amE,ar hk]
  have l1:(css.take k).flatten.length=k*w:=by
   rw [HJ (w:=w) _ λc hc=>hw c (Sx hc),km,Nl (by omega)]
  have⟨p,q,ep,lp,lm⟩:=ax2 (row:=row) (o:=o) (n:=vs.length) (cs:=row) (vs:=(row.drop o).take vs.length) (by unfold fm;rw [ar (by omega)]);rw [s1,s2,SD,SD,s_,s_];generalize hm:(row.drop o).take vs.length=m at *;have e3:setAt row o vs=p++(vs++q):=by
   conv=>lhs;rw [ep]
   rw [<-lp];exact Zh vs p m q lm
  rw [e3];have e4:(css.take k).flatten++(row++(css.drop (k+1)).flatten)=((css.take k).flatten++p)++(m++(q++(css.drop (k+1)).flatten)):=by
   conv=>lhs;rw [ep]
   simp
  have e5:0+k*w+o=((css.take k).flatten++p).length:=by rw [e_,l1,lp];omega
  rw [e4,e5,Zh vs _ m _ lm];simp
 rw [e] at h';exact h'
end
end
section
variable (H:aa)(R:VH)
set_option maxRecDepth 100000
set_option maxHeartbeats 2000000
noncomputable def TF:Code:=kE Go.Proofs.Tryz.f42 0
noncomputable def TG:Code:=kE Go.Proofs.Tryz.f42 1
theorem aAj (x0:Oa)(a_:Nat)(x1:Oa)(l4:Nat) :
  (bif (decide ((a_:Int)<1)) then (R (bb true) H) else (bif (decide ((a_:Int)>4)) then (R (bb true) H) else (bif (decide ((l4:Int)>600)) then (R (bb true) H) else (LA en TF [(sl x0 a_),(sl x1 l4),ud,ud,(bb false),(iI 0),ud,(sl x0 a_),(iI (a_:Int)),(bb (decide ((a_:Int)<1))),(bb false),(sl x0 a_),(iI (a_:Int)),(bb (decide ((a_:Int)>4))),(bb (decide ((a_:Int)>4))),(bb false),(sl x1 l4),(iI (l4:Int)),(bb (decide ((l4:Int)>600))),(bb false),ud,ud,ud,ud,ud,ud,ud,ud,ud,ud,ud,ud,ud,ud,ud,ud,ud,ud,ud,ud,ud,ud,ud,ud,ud,ud,ud,ud,ud,ud,ud,ud] H [(X.exit 0,λ(y1:Fr)(H2:aa)=>AS.asBool (y1.getD 4 undef) λb3=>R (bb false) H2),(X.ret,λ(y4:Fr)(H5:aa)=>AS.asBool (y4.getD 4 undef) λb6=>R (bb b6) H5),(X.ret,λ(y7:Fr)(H8:aa)=>AS.asBool (y7.getD 4 undef) λb9=>R (bb b9) H8)]))))->
  CA en F.Uz [(sl x0 a_),(sl x1 l4)] H R:=vz [[(4,(bb false))],[(4,(bb false))]] (by kernel_rfl)
theorem ayA {t0:Oa}{aU:Nat}{t1:Oa}{sW:Nat}{t7:Oa}{Ff:Nat}{t8:Int}{t9:Bool}{t11:Oa}{Fc:Nat}{t12:Int}{t13 t14:Bool}{t16:Oa}{Fe:Nat}{t17:Int}{t18:Bool}{K0 K1 K2:FH}{t4:Bool}{t5:Int}{t6 t20 t21 t22 t23 t24 t25 t26 t27 t28 t29 t30 t31 t32 t33 t34 t35 t36 t37 t38 t39 t40 t41 t42 t43 t44 t45 t46 t47 t48 t49 t50 t51:Value}{H:aa}(I:Nat->Bool->Int->aa->Prop)(n:Nat)(h0:I n t4 t5 H)
  (cY:∀(n:Nat)(t4:Bool)(t5:Int)(ys:Fr)(H:aa),I n t4 t5 H->
  (bif (decide (t5<(aU:Int))) then (az t5 aU/\aV t0 λi1 i2=>∃a3 i4,H.cell i1 (i2+(t5.toNat*1))=some (sl a3 i4)/\bif (decide ((i4:Int)>12)) then (K1 ([(sl t0 aU),(sl t1 sW),ud,ud,(bb true),(iI t5),(gd ys 6),(sl t7 Ff),(iI t8),(bb t9),(bb false),(sl t11 Fc),(iI t12),(bb t13),(bb t14),(bb false),(sl t16 Fe),(iI t17),(bb t18),(bb false),(iI t5),(sl t0 aU),(iI (aU:Int)),(bb true),(gd ys 24),(gd ys 25),(sl t0 aU),(iI t5),(pA i1 (i2+(t5.toNat*1))),(sl a3 i4),(iI (i4:Int)),(bb true)]++gs ys 32 20) H) else (LA en TG [(sl t0 aU),(sl t1 sW),ud,ud,(bb t4),(iI t5),(iI 0),(sl t7 Ff),(iI t8),(bb t9),(bb false),(sl t11 Fc),(iI t12),(bb t13),(bb t14),(bb false),(sl t16 Fe),(iI t17),(bb t18),(bb false),(iI t5),(sl t0 aU),(iI (aU:Int)),(bb true),(gd ys 24),(gd ys 25),(sl t0 aU),(iI t5),(pA i1 (i2+(t5.toNat*1))),(sl a3 i4),(iI (i4:Int)),(bb false),(gd ys 32),(gd ys 33),(gd ys 34),(gd ys 35),(gd ys 36),(gd ys 37),(gd ys 38),(gd ys 39),(gd ys 40),(gd ys 41),(gd ys 42),(gd ys 43),(gd ys 44),(gd ys 45),(gd ys 46),(gd ys 47),(gd ys 48),(gd ys 49),(gd ys 50),(gd ys 51)] H [(X.exit 2,λ(y5:Fr)(H6:aa)=>AS.asBool (y5.getD 4 undef) λb7=>∃k8,k8<n/\I k8 b7 (IntKind.i64.wrap (t5+1)) H6),(X.ret,λ(y9:Fr)(eO:aa)=>AS.asBool (y9.getD 4 undef) λDI=>K1 ([(sl t0 aU),(sl t1 sW),ud,ud,(bb DI),(iI t5),(gd y9 6),(sl t7 Ff),(iI t8),(bb t9),(bb false),(sl t11 Fc),(iI t12),(bb t13),(bb t14),(bb false),(sl t16 Fe),(iI t17),(bb t18),(bb false),(iI t5),(sl t0 aU),(iI (aU:Int)),(bb true),(gd ys 24),(gd ys 25),(sl t0 aU),(iI t5),(pA i1 (i2+(t5.toNat*1))),(sl a3 i4),(iI (i4:Int)),(bb false)]++gs y9 32 20) eO)])) else (K0 ([(sl t0 aU),(sl t1 sW),ud,ud,(bb t4),(iI t5),(gd ys 6),(sl t7 Ff),(iI t8),(bb t9),(bb false),(sl t11 Fc),(iI t12),(bb t13),(bb t14),(bb false),(sl t16 Fe),(iI t17),(bb t18),(bb false),(iI t5),(sl t0 aU),(iI (aU:Int)),(bb false)]++gs ys 24 28) H))) :
  LA en TF [(sl t0 aU),(sl t1 sW),ud,ud,(bb t4),(iI t5),t6,(sl t7 Ff),(iI t8),(bb t9),(bb false),(sl t11 Fc),(iI t12),(bb t13),(bb t14),(bb false),(sl t16 Fe),(iI t17),(bb t18),(bb false),t20,t21,t22,t23,t24,t25,t26,t27,t28,t29,t30,t31,t32,t33,t34,t35,t36,t37,t38,t39,t40,t41,t42,t43,t44,t45,t46,t47,t48,t49,t50,t51] H [(X.exit 0,K0),(X.ret,K1),(X.ret,K2)]:=by
 refine ko (Z:=[[(4,(bb false))]]) (λm xs H'=>AS.asBool (xs.getD 4 undef) λt4=>AS.asInt .i64 (xs.getD 5 undef) λt5=>I m t4 t5 H') ?_ n H ?_
 ·intro n H
  suffices hs:∀db dC dS dT eS eT fF fG eU fH s4 s6 fI eW eY eZ fJ fK fL fO iB iC ju jv jw jx jy jz jA jB fM fN dD dE s5:Value,((AS.asBool s4 λt4=>AS.asInt .i64 s5 λt5=>I n t4 t5 H)->gr en TF [[(4,(bb false))]] [(sl t0 aU),(sl t1 sW),ud,ud,s4,s5,s6,(sl t7 Ff),(iI t8),(bb t9),(bb false),(sl t11 Fc),(iI t12),(bb t13),(bb t14),(bb false),(sl t16 Fe),(iI t17),(bb t18),(bb false),db,dC,dS,dT,dD,dE,eS,eT,fF,fG,eU,fH,fI,eW,eY,eZ,fJ,fK,fL,fM,fN,fO,iB,iC,ju,jv,jw,jx,jy,jz,jA,jB] H (kh (λm xs H'=>AS.asBool (xs.getD 4 undef) λt4=>AS.asInt .i64 (xs.getD 5 undef) λt5=>I m t4 t5 H') n [(X.exit 0,K0),(X.ret,K1),(X.ret,K2)])) by
   apply bL hs
   kernel_rfl
  intro db dC dS dT eS eT fF fG eU fH s4 s6 fI eW eY eZ fJ fK fL fO iB iC ju jv jw jx jy jz jA jB fM fN dD dE s5 hP;replace hP:=uJ hP;obtain ⟨t4,rfl,hP⟩:=hP;replace hP:=gF hP;obtain ⟨t5,rfl,hP⟩:=hP;apply bL (cY n t4 t5 [(sl t0 aU),(sl t1 sW),ud,ud,(bb t4),(iI t5),s6,(sl t7 Ff),(iI t8),(bb t9),(bb false),(sl t11 Fc),(iI t12),(bb t13),(bb t14),(bb false),(sl t16 Fe),(iI t17),(bb t18),(bb false),db,dC,dS,dT,dD,dE,eS,eT,fF,fG,eU,fH,fI,eW,eY,eZ,fJ,fK,fL,fM,fN,fO,iB,iC,ju,jv,jw,jx,jy,jz,jA,jB] H hP);kernel_rfl
 ·apply bL h0
  kernel_rfl
theorem ayB {t1 t7 t8 t9 t10 t11 t12 t13 t14 t15 t16 t17 t18 t19 t20 t21 t22 t23 t26 t27 t28 t29 t30 t31:Value}{t0:Oa}{aU:Nat}{t5:Int}{t24 t25:Value}{K0 K1:FH}{t4:Bool}{t6:Int}{t32 t33 t34 t35 t36 t37 t38 t39 t40 t41 t42 t43 t44 t45 t46 t47 t48 t49 t50 t51:Value}{H:aa}(I:Nat->Bool->Int->aa->Prop)(n:Nat)(h0:I n t4 t6 H)
  (cY:∀(n:Nat)(t4:Bool)(t6:Int)(ys:Fr)(H:aa),I n t4 t6 H->
  (az t5 aU/\aV t0 λi1 i2=>∃a3 i4,H.cell i1 (i2+(t5.toNat*1))=some (sl a3 i4)/\bif (decide (t6<(i4:Int))) then (az t5 aU/\aV t0 λi5 i6=>∃a7 i8,H.cell i5 (i6+(t5.toNat*1))=some (sl a7 i8)/\az t6 i8/\aV a7 λi9 i10=>∃cu i12,H.cell i9 (((i10+(t6.toNat*7))+1)+2)=some (sl cu i12)/\bif (decide ((i12:Int)>8)) then (K1 [(sl t0 aU),t1,ud,ud,(bb true),(iI t5),(iI t6),t7,t8,t9,t10,t11,t12,t13,t14,t15,t16,t17,t18,t19,t20,t21,t22,t23,t24,t25,t26,t27,t28,t29,t30,t31,(iI t6),(sl t0 aU),(iI t5),(pA i1 (i2+(t5.toNat*1))),(sl a3 i4),(iI (i4:Int)),(bb true),(gd ys 39),(gd ys 40),(sl t0 aU),(iI t5),(pA i5 (i6+(t5.toNat*1))),(sl a7 i8),(iI t6),(pA i9 (i10+(t6.toNat*7))),(pA i9 ((i10+(t6.toNat*7))+1)),(pt (some ⟨i9,(((i10+(t6.toNat*7))+1)+2),none⟩)),(sl cu i12),(iI (i12:Int)),(bb true)] H) else (∃k13,k13<n/\I k13 t4 (IntKind.i64.wrap (t6+1)) H)) else (K0 ([(sl t0 aU),t1,ud,ud,(bb t4),(iI t5),(iI t6),t7,t8,t9,t10,t11,t12,t13,t14,t15,t16,t17,t18,t19,t20,t21,t22,t23,t24,t25,t26,t27,t28,t29,t30,t31,(iI t6),(sl t0 aU),(iI t5),(pA i1 (i2+(t5.toNat*1))),(sl a3 i4),(iI (i4:Int)),(bb false)]++gs ys 39 13) H))) :
  LA en TG [(sl t0 aU),t1,ud,ud,(bb t4),(iI t5),(iI t6),t7,t8,t9,t10,t11,t12,t13,t14,t15,t16,t17,t18,t19,t20,t21,t22,t23,t24,t25,t26,t27,t28,t29,t30,t31,t32,t33,t34,t35,t36,t37,t38,t39,t40,t41,t42,t43,t44,t45,t46,t47,t48,t49,t50,t51] H [(X.exit 2,K0),(X.ret,K1)]:=by
 refine ko (Z:=[]) (λm xs H'=>AS.asBool (xs.getD 4 undef) λt4=>AS.asInt .i64 (xs.getD 6 undef) λt6=>I m t4 t6 H') ?_ n H ?_
 ·intro n H
  suffices hs:∀fI eW eY eZ fJ fK fL fO iB iC ju jv jw jx jy jz jA jB s4 fM fN s6:Value,((AS.asBool s4 λt4=>AS.asInt .i64 s6 λt6=>I n t4 t6 H)->gr en TG [] [(sl t0 aU),t1,ud,ud,s4,(iI t5),s6,t7,t8,t9,t10,t11,t12,t13,t14,t15,t16,t17,t18,t19,t20,t21,t22,t23,t24,t25,t26,t27,t28,t29,t30,t31,fI,eW,eY,eZ,fJ,fK,fL,fM,fN,fO,iB,iC,ju,jv,jw,jx,jy,jz,jA,jB] H (kh (λm xs H'=>AS.asBool (xs.getD 4 undef) λt4=>AS.asInt .i64 (xs.getD 6 undef) λt6=>I m t4 t6 H') n [(X.exit 2,K0),(X.ret,K1)])) by
   apply bL hs
   kernel_rfl
  intro fI eW eY eZ fJ fK fL fO iB iC ju jv jw jx jy jz jA jB s4 fM fN s6 hP;replace hP:=uJ hP;obtain ⟨t4,rfl,hP⟩:=hP;replace hP:=gF hP;obtain ⟨t6,rfl,hP⟩:=hP;apply bL (cY n t4 t6 [(sl t0 aU),t1,ud,ud,(bb t4),(iI t5),(iI t6),t7,t8,t9,t10,t11,t12,t13,t14,t15,t16,t17,t18,t19,t20,t21,t22,t23,t24,t25,t26,t27,t28,t29,t30,t31,fI,eW,eY,eZ,fJ,fK,fL,fM,fN,fO,iB,iC,ju,jv,jw,jx,jy,jz,jA,jB] H hP);kernel_rfl
 ·apply bL h0
  kernel_rfl
theorem aAo (x0:Oa)(a_:Nat)(x1 x2:Int) :
  (bif (decide (x1<(a_:Int))) then (az x1 a_/\aV x0 λi1 i2=>∃n3,H.cell i1 (i2+(x1.toNat*1))=some (iI n3)/\CA en F.F9 [(iI n3),(iI x2)] H λv4 H5=>∃n6,v4=(iI n6)/\R (iI n6) H5) else (nz x2/\R (iI (Int.tmod x1 x2)) H))->
  CA en F.UD [(sl x0 a_),(iI x1),(iI x2)] H R:=vk (by kernel_rfl)
theorem aAn (x0:Oa)(a_:Nat)(x1 qP qQ:Int)(qR:Oa)(C5:Nat)(qS uz:Int) :
  (aC H (.cells true 0 [(iI qP),(iU qQ),(sl qR C5),(iI qS),(iI uz)]) λi1 H2=>CA en F.OI [(sl x0 a_),(iI x1)] H2 λv3 H4=>∃a5 n6,v3=(.tuple #[(pt a5),(iI n6)])/\bif (n6==0) then (∃n7 n8 a9 i10 bI bH,H4.aM i1 0 5=some [(iI n7),(iU n8),(sl a9 i10),(iI bI),(iI bH)]/\CA en F.Jy [(pt a5),(iI 1),(.agg #[(iI n7),(iU n8),(sl a9 i10),(iI bI),(iI bH)])] H4 λjC bt=>∃bC jR i17 aY fi,jC=(.agg #[(iI bC),(sl jR i17),(iU aY),(iI fi)])/\R (bb (bC !=1)) bt) else (R (bb false) H4))->
  CA en F.UC [(sl x0 a_),(iI x1),(.agg #[(iI qP),(iU qQ),(sl qR C5),(iI qS),(iI uz)])] H R:=vk (by kernel_rfl)
noncomputable def TH:Code:=kE Go.Proofs.Tryz.f142 0
theorem aAl (x0:Oa)(x1:Int) :
  (LA en TH [(pt x0),(iI x1),ud,ud,(iI 0),(iI 0),ud,ud,ud,ud,ud,ud,ud,ud,ud,ud,ud,ud,ud,ud,ud,ud,ud,ud,ud,ud,ud,ud,ud,ud,ud] H [(X.exit 0,λ(y1:Fr)(H2:aa)=>AS.asInt .i64 (y1.getD 4 undef) λn3=>R (iI 0) H2),(X.ret,λ(y4:Fr)(H5:aa)=>AS.asInt .i64 (y4.getD 4 undef) λn6=>R (iI n6) H5)])->
  CA en F.OK [(pt x0),(iI x1)] H R:=vz [[(4,(iI 0))]] (by kernel_rfl)
theorem ayC {t0:Oa}{t1:Int}{K0 K1:FH}{t4 t5:Int}{t6 t7 t8 t9 t10 t11 t12 t13 t14 t15 t16 t17 t18 t19 t20 t21 t22 t23 t24 t25 t26 t27 t28 t29 t30:Value}{H:aa}(I:Nat->Int->Int->aa->Prop)(n:Nat)(h0:I n t4 t5 H)
  (cY:∀(n:Nat)(t4 t5:Int)(ys:Fr)(H:aa),I n t4 t5 H->
  (aA t0 λi1 i2=>∃a3 i4,H.cell i1 i2=some (sl a3 i4)/\bif (decide (t5<(i4:Int))) then (aA t0 λi5 i6=>∃a7 i8,H.cell i5 i6=some (sl a7 i8)/\az t5 i8/\aV a7 λi9 i10=>∃bI,H.cell i9 (i10+(t5.toNat*1))=some (iI bI)/\bif (bI==t1) then (aA t0 λi12 i13=>∃cI i15,H.cell i12 (i13+1)=some (sl cI i15)/\az t5 i15/\aV cI λi16 i17=>∃aY,H.cell i16 (i17+(t5.toNat*1))=some (iI aY)/\K1 [(pt t0),(iI t1),ud,ud,(iI aY),(iI t5),(iI t5),(pt t0),(pA i1 i2),(pA i1 i2),(sl a3 i4),(iI (i4:Int)),(bb true),(gd ys 13),(gd ys 14),(pt t0),(pA i5 i6),(pA i5 i6),(sl a7 i8),(iI t5),(pA i9 (i10+(t5.toNat*1))),(iI bI),(iI t1),(bb true),(pt t0),(pA i12 i13),(pA i12 (i13+1)),(sl cI i15),(iI t5),(pA i16 (i17+(t5.toNat*1))),(iI aY)] H) else (∃KM,KM<n/\I KM t4 (IntKind.i64.wrap (t5+1)) H)) else (K0 ([(pt t0),(iI t1),ud,ud,(iI t4),(iI t5),(iI t5),(pt t0),(pA i1 i2),(pA i1 i2),(sl a3 i4),(iI (i4:Int)),(bb false)]++gs ys 13 18) H))) :
  LA en TH [(pt t0),(iI t1),ud,ud,(iI t4),(iI t5),t6,t7,t8,t9,t10,t11,t12,t13,t14,t15,t16,t17,t18,t19,t20,t21,t22,t23,t24,t25,t26,t27,t28,t29,t30] H [(X.exit 0,K0),(X.ret,K1)]:=by
 refine ko (Z:=[]) (λm xs H'=>AS.asInt .i64 (xs.getD 4 undef) λt4=>AS.asInt .i64 (xs.getD 5 undef) λt5=>I m t4 t5 H') ?_ n H ?_
 ·intro n H
  suffices hs:∀s6 s7 s8 s9 dR dz c6 dA c9 cH c_ dB db dC dS dT dD dE eS eT fF fG eU s4 c7 c8 s5:Value,((AS.asInt .i64 s4 λt4=>AS.asInt .i64 s5 λt5=>I n t4 t5 H)->gr en TH [] [(pt t0),(iI t1),ud,ud,s4,s5,s6,s7,s8,s9,dR,dz,c6,c7,c8,dA,c9,cH,c_,dB,db,dC,dS,dT,dD,dE,eS,eT,fF,fG,eU] H (kh (λm xs H'=>AS.asInt .i64 (xs.getD 4 undef) λt4=>AS.asInt .i64 (xs.getD 5 undef) λt5=>I m t4 t5 H') n [(X.exit 0,K0),(X.ret,K1)])) by
   apply bL hs
   kernel_rfl
  intro s6 s7 s8 s9 dR dz c6 dA c9 cH c_ dB db dC dS dT dD dE eS eT fF fG eU s4 c7 c8 s5 hP;replace hP:=gF hP;obtain ⟨t4,rfl,hP⟩:=hP;replace hP:=gF hP;obtain ⟨t5,rfl,hP⟩:=hP;apply bL (cY n t4 t5 [(pt t0),(iI t1),ud,ud,(iI t4),(iI t5),s6,s7,s8,s9,dR,dz,c6,c7,c8,dA,c9,cH,c_,dB,db,dC,dS,dT,dD,dE,eS,eT,fF,fG,eU] H hP);kernel_rfl
 ·apply bL h0
  kernel_rfl
theorem aAk (x0:Oa)(fc:Int)(fe:Oa)(uy:Nat)(fg fP qP:Int)(qQ:Oa)(amu:Nat)(qR qS:Int) :
  (aC H (.cells true 0 [(iI fc),(sl fe uy),(iU fg),(iI fP)]) λi1 H2=>aC H2 (.cells true 0 [(iI qP),(sl qQ amu),(iU qR),(iI qS)]) λi3 H4=>∃n5,H4.cell i1 0=some (iI n5)/\∃n6,H4.cell i3 0=some (iI n6)/\bif (n5==n6) then (∃n7,H4.cell i1 2=some (iU n7)/\∃n8,H4.cell i3 2=some (iU n8)/\bif (n7==n8) then (∃a9 i10,H4.cell i1 1=some (sl a9 i10)/\∃cu i12,H4.cell i3 1=some (sl cu i12)/\CA en F.Ow [(sl a9 i10),(sl cu i12)] H4 λjC bt=>∃uN,jC=(bb uN)/\bif uN then (∃dy,bt.cell i1 3=some (iI dy)/\∃dQ,bt.cell i3 3=some (iI dQ)/\CA en F.UB [(pt x0),(iI dy),(iI dQ)] bt λoY bf=>∃nS,oY=(bb nS)/\R (bb nS) bf) else (R (bb false) bt)) else (R (bb false) H4)) else (R (bb false) H4))->
  CA en F.UA [(pt x0),(.agg #[(iI fc),(sl fe uy),(iU fg),(iI fP)]),(.agg #[(iI qP),(sl qQ amu),(iU qR),(iI qS)])] H R:=vk (by kernel_rfl)
noncomputable def TI:Code:=kE Go.Proofs.Tryz.f253 0
theorem aAm (x0:Oa)(x1 x2:Int) :
  (bif (x1==0) then (R (bb (x1==x2)) H) else (bif (x2==0) then (R (bb (x1==x2)) H) else (LA en TI [(pt x0),(iI x1),(iI x2),ud,ud,ud,(bb false),(iI 0),(iI x1),(bb (x1==0)),(bb false),(iI x2),(bb (x2==0)),(bb false),ud,ud,ud,ud,ud,ud,ud,ud,ud,ud,ud,ud,ud,ud,ud,ud,ud,ud,ud,ud,ud,ud,ud,ud,ud,ud,ud,ud,ud,ud,ud,ud,ud,ud,ud,ud,ud,ud,ud,ud,ud,ud,ud,ud,ud,ud,ud,ud,ud,ud,ud,ud,ud,ud,ud,ud,ud,ud,ud,ud,ud,ud,ud,ud,ud,ud,ud,ud,ud,ud,ud,ud] H [(X.exit 0,λ(y1:Fr)(H2:aa)=>AS.asBool (y1.getD 6 undef) λb3=>aA x0 λi4 i5=>∃a6 i7,H2.cell i4 i5=some (sl a6 i7)/\aC H2 (.cells true 1 [(iI x1)]) λi8 H9=>∃l10,rowOf H9 1 (ad i8) 1=some l10/\iT H9 8 1 a6 i7 1 l10 λcu i12 cE=>aA x0 λi14 i15=>aq cE i14 i15 [(sl cu i12)] λgC=>aA x0 λi17 i18=>∃j5 i20,gC.cell i17 (i18+1)=some (sl j5 i20)/\aC gC (.cells true 1 [(iI x2)]) λi21 gg=>∃l23,rowOf gg 1 (ad i21) 1=some l23/\iT gg 8 1 j5 i20 1 l23 λoG i25 eC=>aA x0 λi27 i28=>aq eC i27 (i28+1) [(sl oG i25)] λfq=>R (bb true) fq),(X.ret,λ(y30:Fr)(ft:aa)=>AS.asBool (y30.getD 6 undef) λb32=>R (bb b32) ft)])))->
  CA en F.UB [(pt x0),(iI x1),(iI x2)] H R:=vz [[(6,(bb false))]] (by kernel_rfl)
theorem ayD {t8 t9 t10 t11 t12 t13:Value}{t0:Oa}{t1 t2:Int}{K0 K1:FH}{t6:Bool}{t7:Int}{t17 t18 t19 t20 t21 t22 t23 t24 t25 t26 t27 t28 t29 t30 t31 t32 t33 t34 t35 t36 t37 t38 t39 t40 t41 t42 t43 t44 t45 t46 t47 t48 t49 t50 t51 t52 t53 t54 t55 t56 t57 t58 t59 t60 t61 t62 t63 t64 t65:Value}{H:aa}(I:Nat->Bool->Int->aa->Prop)(n:Nat)(h0:I n t6 t7 H)
  (cY:∀(n:Nat)(t6:Bool)(t7:Int)(ys:Fr)(H:aa),I n t6 t7 H->
  (aA t0 λi1 i2=>∃a3 i4,H.cell i1 i2=some (sl a3 i4)/\bif (decide (t7<(i4:Int))) then (aA t0 λi5 i6=>∃a7 i8,H.cell i5 i6=some (sl a7 i8)/\az t7 i8/\aV a7 λi9 i10=>∃bI,H.cell i9 (i10+(t7.toNat*1))=some (iI bI)/\bif (bI==t1) then (aA t0 λi12 i13=>∃cI i15,H.cell i12 i13=some (sl cI i15)/\az t7 i15/\aV cI λi16 i17=>∃aY,H.cell i16 (i17+(t7.toNat*1))=some (iI aY)/\bif (aY==t1) then (aA t0 λi19 i20=>∃fR i22,H.cell i19 (i20+1)=some (sl fR i22)/\az t7 i22/\aV fR λi23 i24=>∃cc,H.cell i23 (i24+(t7.toNat*1))=some (iI cc)/\K1 ([(pt t0),(iI t1),(iI t2),ud,ud,ud,(bb (cc==t2)),(iI t7),t8,t9,t10,t11,t12,t13,ud,ud,ud,(iI t7),(pt t0),(pA i1 i2),(pA i1 i2),(sl a3 i4),(iI (i4:Int)),(bb true),(gd ys 24),(gd ys 25),(pt t0),(pA i5 i6),(pA i5 i6),(sl a7 i8),(iI t7),(pA i9 (i10+(t7.toNat*1))),(iI bI),(iI t1),(bb (bI==t1)),(bb true)]++us 9++[(bb true),(pt t0),(pA i12 i13),(pA i12 i13),(sl cI i15),(iI t7),(pA i16 (i17+(t7.toNat*1))),(iI aY),(iI t1),(bb (aY==t1)),(bb true),(pt t0),(pA i19 i20),(pA i19 (i20+1)),(sl fR i22),(iI t7),(pA i23 (i24+(t7.toNat*1))),(iI cc),(iI t2),(bb (cc==t2)),(bb (cc==t2))]++us 20) H) else (K1 ([(pt t0),(iI t1),(iI t2),ud,ud,ud,(bb false),(iI t7),t8,t9,t10,t11,t12,t13,ud,ud,ud,(iI t7),(pt t0),(pA i1 i2),(pA i1 i2),(sl a3 i4),(iI (i4:Int)),(bb true),(gd ys 24),(gd ys 25),(pt t0),(pA i5 i6),(pA i5 i6),(sl a7 i8),(iI t7),(pA i9 (i10+(t7.toNat*1))),(iI bI),(iI t1),(bb (bI==t1)),(bb true)]++us 9++[(bb true),(pt t0),(pA i12 i13),(pA i12 i13),(sl cI i15),(iI t7),(pA i16 (i17+(t7.toNat*1))),(iI aY),(iI t1),(bb (aY==t1)),(bb false)]++us 9++[(bb false)]++us 20) H)) else (aA t0 λi26 i27=>∃eF i29,H.cell i26 (i27+1)=some (sl eF i29)/\az t7 i29/\aV eF λi30 i31=>∃fZ,H.cell i30 (i31+(t7.toNat*1))=some (iI fZ)/\bif (fZ==t2) then (aA t0 λi33 i34=>∃iS i36,H.cell i33 i34=some (sl iS i36)/\az t7 i36/\aV iS λi37 i38=>∃jV,H.cell i37 (i38+(t7.toNat*1))=some (iI jV)/\bif (jV==t1) then (aA t0 λi40 i41=>∃mI i43,H.cell i40 (i41+1)=some (sl mI i43)/\az t7 i43/\aV mI λi44 i45=>∃iA,H.cell i44 (i45+(t7.toNat*1))=some (iI iA)/\K1 ([(pt t0),(iI t1),(iI t2),ud,ud,ud,(bb (iA==t2)),(iI t7),t8,t9,t10,t11,t12,t13,ud,ud,ud,(iI t7),(pt t0),(pA i1 i2),(pA i1 i2),(sl a3 i4),(iI (i4:Int)),(bb true),(gd ys 24),(gd ys 25),(pt t0),(pA i5 i6),(pA i5 i6),(sl a7 i8),(iI t7),(pA i9 (i10+(t7.toNat*1))),(iI bI),(iI t1),(bb (bI==t1)),(bb false),(pt t0),(pA i26 i27),(pA i26 (i27+1)),(sl eF i29),(iI t7),(pA i30 (i31+(t7.toNat*1))),(iI fZ),(iI t2),(bb (fZ==t2)),(bb true),(pt t0),(pA i33 i34),(pA i33 i34),(sl iS i36),(iI t7),(pA i37 (i38+(t7.toNat*1))),(iI jV),(iI t1),(bb (jV==t1)),(bb true),(pt t0),(pA i40 i41),(pA i40 (i41+1)),(sl mI i43),(iI t7),(pA i44 (i45+(t7.toNat*1))),(iI iA),(iI t2),(bb (iA==t2)),(bb (iA==t2))]++us 20) H) else (K1 ([(pt t0),(iI t1),(iI t2),ud,ud,ud,(bb false),(iI t7),t8,t9,t10,t11,t12,t13,ud,ud,ud,(iI t7),(pt t0),(pA i1 i2),(pA i1 i2),(sl a3 i4),(iI (i4:Int)),(bb true),(gd ys 24),(gd ys 25),(pt t0),(pA i5 i6),(pA i5 i6),(sl a7 i8),(iI t7),(pA i9 (i10+(t7.toNat*1))),(iI bI),(iI t1),(bb (bI==t1)),(bb false),(pt t0),(pA i26 i27),(pA i26 (i27+1)),(sl eF i29),(iI t7),(pA i30 (i31+(t7.toNat*1))),(iI fZ),(iI t2),(bb (fZ==t2)),(bb true),(pt t0),(pA i33 i34),(pA i33 i34),(sl iS i36),(iI t7),(pA i37 (i38+(t7.toNat*1))),(iI jV),(iI t1),(bb (jV==t1)),(bb false)]++us 9++[(bb false)]++us 20) H)) else (∃k47,k47<n/\I k47 t6 (IntKind.i64.wrap (t7+1)) H))) else (K0 ([(pt t0),(iI t1),(iI t2),ud,ud,ud,(bb t6),(iI t7),t8,t9,t10,t11,t12,t13,ud,ud,ud,(iI t7),(pt t0),(pA i1 i2),(pA i1 i2),(sl a3 i4),(iI (i4:Int)),(bb false)]++gs ys 24 42++us 20) H))) :
  LA en TI [(pt t0),(iI t1),(iI t2),ud,ud,ud,(bb t6),(iI t7),t8,t9,t10,t11,t12,t13,ud,ud,ud,t17,t18,t19,t20,t21,t22,t23,t24,t25,t26,t27,t28,t29,t30,t31,t32,t33,t34,t35,t36,t37,t38,t39,t40,t41,t42,t43,t44,t45,t46,t47,t48,t49,t50,t51,t52,t53,t54,t55,t56,t57,t58,t59,t60,t61,t62,t63,t64,t65,ud,ud,ud,ud,ud,ud,ud,ud,ud,ud,ud,ud,ud,ud,ud,ud,ud,ud,ud,ud] H [(X.exit 0,K0),(X.ret,K1)]:=by
 refine ko (Z:=[]) (λm xs H'=>AS.asBool (xs.getD 6 undef) λt6=>AS.asInt .i64 (xs.getD 7 undef) λt7=>I m t6 t7 H') ?_ n H ?_
 ·intro n H
  suffices hs:∀cH c_ dB db dC dS dT eS eT fF fG eU fH fI eW eY eZ fJ fK fL fM fN fO iB iC ju jv jw jx jy jz jA jB oQ oR oS oT oU oV sP sQ sR sS xR xS sT sU s6 dD dE s7:Value,((AS.asBool s6 λt6=>AS.asInt .i64 s7 λt7=>I n t6 t7 H)->gr en TI [] ([(pt t0),(iI t1),(iI t2),ud,ud,ud,s6,s7,t8,t9,t10,t11,t12,t13,ud,ud,ud,cH,c_,dB,db,dC,dS,dT,dD,dE,eS,eT,fF,fG,eU,fH,fI,eW,eY,eZ,fJ,fK,fL,fM,fN,fO,iB,iC,ju,jv,jw,jx,jy,jz,jA,jB,oQ,oR,oS,oT,oU,oV,sP,sQ,sR,sS,xR,xS,sT,sU]++us 20) H (kh (λm xs H'=>AS.asBool (xs.getD 6 undef) λt6=>AS.asInt .i64 (xs.getD 7 undef) λt7=>I m t6 t7 H') n [(X.exit 0,K0),(X.ret,K1)])) by
   apply bL hs
   kernel_rfl
  intro cH c_ dB db dC dS dT eS eT fF fG eU fH fI eW eY eZ fJ fK fL fM fN fO iB iC ju jv jw jx jy jz jA jB oQ oR oS oT oU oV sP sQ sR sS xR xS sT sU s6 dD dE s7 hP;replace hP:=uJ hP;obtain ⟨t6,rfl,hP⟩:=hP;replace hP:=gF hP;obtain ⟨t7,rfl,hP⟩:=hP;apply bL (cY n t6 t7 ([(pt t0),(iI t1),(iI t2),ud,ud,ud,(bb t6),(iI t7),t8,t9,t10,t11,t12,t13,ud,ud,ud,cH,c_,dB,db,dC,dS,dT,dD,dE,eS,eT,fF,fG,eU,fH,fI,eW,eY,eZ,fJ,fK,fL,fM,fN,fO,iB,iC,ju,jv,jw,jx,jy,jz,jA,jB,oQ,oR,oS,oT,oU,oV,sP,sQ,sR,sS,xR,xS,sT,sU]++us 20) H hP);kernel_rfl
 ·apply bL h0
  kernel_rfl
end
section
variable {H H' H0:aa} {R:Value->aa->Prop} {L M:List ax} {A B:ax} {val:List (BitVec 64)} {a:Option Addr}
theorem Q4 {k:Nat}(hk:M[k]? =some A)(h:Sep H (many M::L)):Sep H (A::many (M.eraseIdx k)::L):=by
 have h1:=Sep.fX.1 h;have h2:=h1.perm ((OV hk).append_right L);exact (Sep.fX.2 (h2.perm pf.symm)).swap
theorem aiH {k:Nat}(hk:k<M.length)(h:Sep H (B::many (M.eraseIdx k)::L)):Sep H (many (M.set k B)::L):=by
 have h1:=Sep.fX.1 h.swap;have h2:=h1.perm pf;exact Sep.fX.2 (h2.perm ((set_perm hk).append_right L).symm)
theorem aiI (h:Sep H (B::many M::L)):Sep H (many (M++[B])::L):=by
 have h1:=Sep.fX.1 h.swap;refine Sep.fX.2 ?_;rw [mC];exact h1
structure du where
 todo:Int
 o:Op
 v:BitVec 64
abbrev si (d:du)(a:Option Addr)(n:Nat):List Value:=[I d.todo,I d.o.kind,.int .u64 d.o.key.toNat,.slice a n 0,I d.o.flag,I d.o.bW,.int .u64 d.v.toNat]
def NA (H0:aa)(d:du)(c:List Value):Prop:=∃a n,c=si d a n/\oE H0 a n (d.o.val.map λw=>[W w])
structure FF (H0:aa)(a:Option Addr)(n:Nat)(l:List du):Prop where
 len:n=l.length
 ex:∃css,oE H0 a n css/\(∀c∈css,c.length=7)/\∀(j:Nat) o,l[j]? =some o->∃c,css[j]? =some c/\NA H0 o c
def SU (H0:aa)(l:List du)(c:List Value):Prop:=∃a n,c=[.slice a n 0]/\FF H0 a n l
structure zD (H0:aa)(a:Option Addr)(n:Nat)(ll:List (List du)):Prop where
 len:n=ll.length
 ex:∃css,oE H0 a n css/\(∀c∈css,c.length=1)/\∀(k:Nat) l,ll[k]? =some l->∃c,css[k]? =some c/\SU H0 l c
theorem zD.aP {n:Nat}{ll:List (List du)}(o:zD H0 a n ll)(hs:Sep H L)(hm:old H0∈L){k:Nat}{l:List du}(hk:ll[k]? =some l) :
  ∃i a' n',a=some ⟨i,0,none⟩/\H.cell i (0+k*1)=some (.slice a' n' 0)/\FF H0 a' n' l:=by
 have⟨css,h1,h2,h3⟩:=o.ex;obtain ⟨c,hc,a',n',rfl,h4⟩:=h3 k l hk;have⟨i,e,h5⟩:=h1.Ug hs hm h2 hc rfl;exact ⟨i,a',n',e,h5,h4⟩
theorem FF.aP {n:Nat}{l:List du}(o:FF H0 a n l)(hs:Sep H L)(hm:old H0∈L){j:Nat}{x:du}(hj:l[j]? =some x) :
  ∃i a' n',a=some ⟨i,0,none⟩/\H.aM i (0+j*7) 7=some (si x a' n')/\H.cell i (0+j*7+3)=some (.slice a' n' 0)/\n'=x.o.val.length/\∀L,old H0∈L->lO L a' x.o.val:=by
 have⟨css,h1,h2,h3⟩:=o.ex;obtain ⟨c,hc,a',n',rfl,h4⟩:=h3 j x hj;have⟨i,e,h5,h6⟩:=h1.row hs hm h2 hc;exact ⟨i,a',n',e,h5,h6 3 _ rfl,by rw [h4.len];simp,λL hL=>awM h4 hL⟩
theorem ayc {tn at_ n:Nat} {ts:List Int} (h:Sep H L) (hm:old H0∈L) (o:oE H0 a tn (ts.map λv=>[I v])) (hn:1<=n/\n<=4) (hR:∀b:Nat,b<n->(tn<=at_->b=at_ % n)->R (I b) H):CA en F.UD [.slice a tn 0,I at_,I n] H R:=by
 apply aAo;have hl:=o.len;rw [gb] at hl;refine aI (λz=>?_) λz=>⟨by show (n:Int)≠0;omega,?_⟩
 ·have z:at_<tn:=by have:=ga z;omega
  have⟨v,hv⟩:∃v,ts[at_]? =some v:=⟨_,cM (by omega)⟩;obtain ⟨i,rfl,e1⟩:=o.Ug (w:=1) h hm (λc hc=>by obtain ⟨v,_,rfl⟩:=cL.1 hc;rfl) (j:=at_) (r:=[I v]) (by rw [jg,hv];rfl) rfl;refine ⟨⟨by omega,by omega⟩,bG ⟨_,e1,NS (by omega) (by omega) ⟨_,rfl,?_⟩⟩⟩;have q1:=Np v (b:=(n:Int)) (by omega);have q2:=Int.emod_lt_of_pos v (b:=(n:Int)) (by omega);have⟨q,hq⟩:∃q:Nat,v % (n:Int)=(q:Int):=⟨(v % (n:Int)).toNat,by omega⟩;rw [hq];exact hR q (by omega) λe=>by omega
 ·have e:Int.tmod (at_:Int) (n:Int)=((at_ % n:Nat):Int):=by
   rw [Dj (by omega)];rfl
  rw [e];exact hR _ (FB _ (by omega)) λ_=>rfl
theorem arZ {ta:Option Addr}{tn n:Nat}{ll:List (List du)}(h:Sep H L)(hm:old H0∈L)(o:zD H0 a n ll)(sw:∀H',Sep H' L->R (.bool true) H')
  (mq:1<=n/\n<=4->tn<=600->(∀l∈ll,l.length<=12/\∀x∈l,x.o.val.length<=8)->∀H',Sep H' L->R (.bool false) H'):CA en F.Uz [.slice a n 0,.slice ta tn 0] H R:=by
 apply aAj;have tS:=o.len;refine aI (λz=>sw H h) λz=>aI (λz2=>sw H h) λz2=>aI (λz3=>sw H h) λz3=>?_
 have hn:1<=n/\n<=4:=by have:=fQ z;have:=fQ z2;omega
 have ht:tn<=600:=by have:=fQ z3;omega
 refine ayA (λk' t4 t5 H'=>∃j:Nat,j<=n/\k'=n - j/\t5=(j:Int)/\(∀(i:Nat) l,i<j->ll[i]? =some l->l.length<=12/\∀x∈l,x.o.val.length<=8)/\Sep H' L) n ⟨0,h_ _,rfl,rfl,λi l h=>absurd h (Nat.not_lt_zero _),h⟩ ?_;rintro k' t4 t5 ys H3 ⟨j,hj,rfl,rfl,pL,h3⟩;refine aI (λc=>?_) λc=>?_
 ·have c:j<n:=by have:=ga c;omega
  have⟨l,Wr⟩:∃l,ll[j]? =some l:=⟨_,cM (by omega)⟩;obtain ⟨i,a',n',rfl,e1,o'⟩:=o.aP h3 hm Wr;have Ah:=o'.len;refine ⟨⟨by omega,by omega⟩,bG ⟨_,_,e1,aI (λc2=>uK (sw H3 h3)) λc2=>?_⟩⟩;have c2:l.length<=12:=by have:=fQ c2;omega
  refine ayB (λk' t4 t6 H'=>∃q:Nat,q<=l.length/\k'=l.length - q/\t6=(q:Int)/\(∀(i:Nat) x,i<q->l[i]? =some x->x.o.val.length<=8)/\Sep H' L) l.length ⟨0,h_ _,rfl,rfl,λi l h=>absurd h (Nat.not_lt_zero _),h3⟩ ?_;rintro k2 t4 t6 ys2 H4 ⟨q,hq,rfl,rfl,Cc,h4⟩;have⟨i,a',n',e0,e1,o'⟩:=o.aP h4 hm Wr;cases e0;have Ah:=o'.len;refine ⟨⟨by omega,by omega⟩,bG ⟨_,_,e1,aI (λc3=>?_) λc3=>uK ⟨n - (j+1),by omega,j+1,by omega,rfl,by rw [wrap_i64 (by omega)];omega,λi2 l2 h1 h2=>?_,h4⟩⟩⟩
  ·have c3:q<l.length:=by have:=ga c3;omega
   have⟨x,hx⟩:∃x,l[q]? =some x:=⟨_,cM c3⟩;obtain ⟨i3,a3,n3,rfl,_,e4,en3,_⟩:=o'.aP h4 hm hx;refine ⟨⟨by omega,by omega⟩,bG ⟨_,_,e1,⟨by omega,by omega⟩,bG ⟨_,_,e4,aI (λc4=>uK (uK (sw H4 h4))) λc4=>⟨l.length - (q+1),by omega,q+1,by omega,rfl,by rw [wrap_i64 (by omega)];omega,λi2 x2 h1 h2=>?_,h4⟩⟩⟩⟩;by_cases e:i2=q
   ·subst e;rw [hx] at h2;obtain rfl:=dM h2
    have:=fQ c4;omega
   ·exact Cc i2 x2 (by omega) h2
  ·by_cases e:i2=j
   ·subst e;rw [Wr] at h2;obtain rfl:=dM h2;refine ⟨c2,λx hx=>?_⟩;obtain ⟨p,hp,rfl⟩:=zw.1 hx;have c3:=fQ c3;exact Cc p _ (by omega) (cM hp)
   ·exact pL i2 l2 (by omega) h2
 ·have c:=fQ c;refine uK (mq hn ht (λl hl=>?_) H3 h3);obtain ⟨p,hp,rfl⟩:=zw.1 hl;exact pL p _ (by omega) (cM hp)
end
section
variable (H:aa)(R:VH)
set_option maxRecDepth 100000
set_option maxHeartbeats 2000000
noncomputable def TD:Code:=kE Go.Proofs.Tryz.f86 0
theorem aAh (x0:Oa)(a_:Nat)(x1:Int) :
  (CA en F.Uq [(sl x0 a_)] H λv1 H2=>∃n3,v1=(iI n3)/\bif (n3 !=0) then (R (.tuple #[(pt none),(iI n3)]) H2) else (bif (decide (x1<1)) then (R (.tuple #[(pt none),(iI 1)]) H2) else (bif (decide (x1>4)) then (R (.tuple #[(pt none),(iI 1)]) H2) else (aC H2 (.cells true 0 [s0,(iI x1)]) λi4 H5=>LA en TD [(sl x0 a_),(iI x1),ud,ud,(pt none),(iI 0),(iI n3),(pt (ad i4)),(iI 0),(sl x0 a_),(iI n3),(iI n3),(bb false),ud,(iI x1),(bb (decide (x1<1))),(bb false),(iI x1),(bb (decide (x1>4))),(bb false),(iI x1),(.agg #[s0,(iI x1)]),(pt (ad i4)),ud,ud,ud,ud,ud,ud,ud,ud,ud,ud,ud,ud,ud,ud,ud,ud,ud,ud,ud,ud,ud,ud] H5 [(X.exit 0,λ(y6:Fr)(H7:aa)=>R (.tuple #[(pt (ad i4)),(iI 0)]) H7)]))))->
  CA en F.OI [(sl x0 a_),(iI x1)] H R:=vz [[]] (by kernel_rfl)
theorem ayz {t4 t5 t6 t9 t10 t11 t12 t14 t15 t16 t17 t18 t19 t20 t21 t22:Value}{t0:Oa}{aU:Nat}{t1:Int}{t7:Nat}{K0:FH}{t8:Int}{t23 t24 t25 t26 t27 t28 t29 t30 t31 t32 t33 t34 t35 t36 t37 t38 t39 t40 t41 t42 t43:Value}{H:aa}(I:Nat->Int->aa->Prop)(n:Nat)(h0:I n t8 H)
  (cY:∀(n:Nat)(t8:Int)(ys:Fr)(H:aa),I n t8 H->
  (bif (decide (t8<(aU:Int))) then (∃a1 i2,(H.ae 16).cell t7 0=some (sl a1 i2)/\az t8 aU/\aV t0 λi3 i4=>∃n5 n6 n7 n8 n9,(H.ae 16).aM i3 (i4+(t8.toNat*5)) 5=some [(iI n5),(iI n6),(iI n7),(iI n8),(iI n9)]/\CA en F.OJ [(.agg #[(iI n5),(iI n6),(iI n7),(iI n8),(iI n9)]),(iI t1)] (H.ae 16) λv10 cj=>∃bY,v10=(pt bY)/\aC cj (.cells true 1 [(pt bY)]) λi13 bt=>∃Cj,rowOf bt 1 (ad i13) 1=some Cj/\iT bt 8 1 a1 i2 1 Cj λjR i17 gv=>aq gv t7 0 [(sl jR i17)] λbf=>(∃KP,KP<n/\I KP (IntKind.i64.wrap (t8+1)) bf)/\((∃oG i25,(H.ae 16).cell t7 0=some (sl oG i25)/\(a1=oG/\i2=i25/\0=0))/\(∃fS i23,cj.cell t7 0=some (sl fS i23)/\(a1=fS/\i2=i23/\0=0))/\(∃qh i21,bt.cell t7 0=some (sl qh i21)/\(a1=qh/\i2=i21/\0=0))/\True)/\True) else (K0 ([(sl t0 aU),(iI t1),ud,ud,t4,t5,t6,(pt (ad t7)),(iI t8),t9,t10,t11,t12,ud,t14,t15,t16,t17,t18,t19,t20,t21,t22,(iI t8),(sl t0 aU),(iI (aU:Int)),(bb false)]++gs ys 27 17++[ud]) H))) :
  LA en TD [(sl t0 aU),(iI t1),ud,ud,t4,t5,t6,(pt (ad t7)),(iI t8),t9,t10,t11,t12,ud,t14,t15,t16,t17,t18,t19,t20,t21,t22,t23,t24,t25,t26,t27,t28,t29,t30,t31,t32,t33,t34,t35,t36,t37,t38,t39,t40,t41,t42,t43,ud] H [(X.exit 0,K0)]:=by
 refine ko (Z:=[]) (λm xs H'=>AS.asInt .i64 (xs.getD 8 undef) λt8=>I m t8 H') ?_ n H ?_
 ·intro n H
  suffices hs:∀dT dD dE eS fG eU fH fI eW eY eZ fJ fK fL fM fN fO iB iC eT fF s8:Value,((AS.asInt .i64 s8 λt8=>I n t8 H)->gr en TD [] [(sl t0 aU),(iI t1),ud,ud,t4,t5,t6,(pt (ad t7)),s8,t9,t10,t11,t12,ud,t14,t15,t16,t17,t18,t19,t20,t21,t22,dT,dD,dE,eS,eT,fF,fG,eU,fH,fI,eW,eY,eZ,fJ,fK,fL,fM,fN,fO,iB,iC,ud] H (kh (λm xs H'=>AS.asInt .i64 (xs.getD 8 undef) λt8=>I m t8 H') n [(X.exit 0,K0)])) by
   apply bL hs
   kernel_rfl
  intro dT dD dE eS fG eU fH fI eW eY eZ fJ fK fL fM fN fO iB iC eT fF s8 hP;replace hP:=gF hP;obtain ⟨t8,rfl,hP⟩:=hP;apply bL (cY n t8 [(sl t0 aU),(iI t1),ud,ud,t4,t5,t6,(pt (ad t7)),(iI t8),t9,t10,t11,t12,ud,t14,t15,t16,t17,t18,t19,t20,t21,t22,dT,dD,dE,eS,eT,fF,fG,eU,fH,fI,eW,eY,eZ,fJ,fK,fL,fM,fN,fO,iB,iC,ud] H hP);kernel_rfl
 ·apply bL h0
  kernel_rfl
noncomputable def TE:Code:=kE Go.Proofs.Tryz.f137 0
theorem alL (kJ kK nJ nK nL x1:Int) :
  (aC H (.cells true 0 [(iI kJ),(iI kK),(iI nJ),(iI nK),(iI nL)]) λi1 H2=>∃n3 n4 n5 n6 n7,H2.aM i1 0 5=some [(iI n3),(iI n4),(iI n5),(iI n6),(iI n7)]/\aC H2 (.cells true 0 [(iI n3),(iI n4),(iI n5),(iI n6),(iI n7),s0,s0]) λi8 H9=>∃NL:LH,(∃bI,H9.cell i1 0=some (iI bI)/\CA en F.aeG [(iI bI)] H9 λrN cE=>∃uM,rN=(bb uM)/\bif uM then (∃bC,cE.cell i1 1=some (iI bC)/\NL [(iI bC)] cE) else (∃dy,cE.cell i1 0=some (iI dy)/\bif (dy==9) then (∃dQ,cE.cell i1 1=some (iI dQ)/\NL [(iI dQ)] cE) else (NL [(iI 0)] cE)))/\∀(wJ:Fr)(bf:aa),∀cU,NL [(iI cU)] bf->∃Tf:LH,(∃jT,bf.cell i1 0=some (iI jT)/\bif (jT==2) then (Tf [(iI (IntKind.i64.wrap (cU*x1)))] bf) else (Tf [(iI cU)] bf))/\∀(C6:Fr)(bM:aa),∀cc,Tf [(iI cc)] bM->∃Ti:LH,(∃jL,bM.cell i1 0=some (iI jL)/\bif (jL==8) then (∃jU,bM.cell i1 3=some (iI jU)/\Ti [(iI jU)] bM) else (Ti [(iI cc)] bM))/\∀(Fu:Fr)(gI:aa),∀fY,Ti [(iI fY)] gI->LA en TE [(.agg #[(iI kJ),(iI kK),(iI nJ),(iI nK),(iI nL)]),(iI x1),(pt (ad i1)),ud,(pt none),(pt (ad i8)),(iI fY),(iI 0),ud,(.agg #[(iI n3),(iI n4),(iI n5),(iI n6),(iI n7)]),(.agg #[(iI n3),(iI n4),(iI n5),(iI n6),(iI n7),s0,s0]),(pt (ad i8)),(gd wJ 12),(gd wJ 13),(gd wJ 14),(gd wJ 15),(gd wJ 16),(gd wJ 17),(gd wJ 18),(gd wJ 19),(gd wJ 20),(gd wJ 21),(gd C6 22),(gd C6 23),(gd C6 24),(gd C6 25),(gd C6 26),(gd C6 27),(gd Fu 28),(gd Fu 29),(gd Fu 30),(gd Fu 31),(gd Fu 32),ud,ud,ud,ud,ud,ud,ud,ud,ud,ud,ud,ud,ud,ud,ud,ud,ud,ud,ud,ud,ud,ud,ud,ud,ud,ud,ud,ud,ud,ud,ud,ud,ud,ud,ud,ud,ud,ud,ud,ud,ud,ud] gI [(X.exit 0,λ(rO:Fr)(nO:aa)=>R (pt (ad i8)) nO)])->
  CA en F.OJ [(.agg #[(iI kJ),(iI kK),(iI nJ),(iI nK),(iI nL)]),(iI x1)] H R:=by
 intro h;refine amm (C:=[none,none,none,some [(6,(iI 0))],none,some [(6,(iI 0))],none,some [(6,(iI 0))],none,none,none,none]) (Z:=[[]]) (fn:=Go.Proofs.Tryz.f137) ?_ ?_ ?_
 ·kernel_rfl
 ·kernel_rfl
 ·apply bL h
  kernel_rfl
theorem aly {t0 t1 t4 t9 t10 t11:Value}{t2 t5:Nat}{t6:Int}{t12 t13 t14 t15 t16 t17 t18 t19 t20 t21 t22 t23 t24 t25 t26 t27 t28 t29 t30 t31 t32:Value}{K0:FH}{t7:Int}{t8 t33 t34 t35 t36 t37 t38 t39 t40 t41 t42 t43 t44 t45 t46 t47 t48 t49 t50 t51 t52 t53 t54 t55 t56 t57 t58 t59 t60 t61 t62 t63 t64 t65 t66 t67 t68 t69 t70 t71 t72 t73:Value}{H:aa}(I:Nat->Int->aa->Prop)(n:Nat)(h0:I n t7 H)
  (cY:∀(n:Nat)(t7:Int)(ys:Fr)(H:aa),I n t7 H->
  (bif (decide (t7<t6)) then (∃n1,H.cell t2 2=some (iI n1)/\Q7 8 n1 n1/\aC H (.cells true 1 (fE n1.toNat [(iU 0)])) λi2 H3=>aC H3 (.cells true 0 [(iU 0),s0,(iI 0)]) λi4 H5=>aq H5 i4 0 [(iU (IntKind.u64.wrap t7)),(.slice (ad i2) n1.toNat 0),(iI 0)] λH6=>∃n7,H6.cell t2 0=some (iI n7)/\bif (n7==1) then (aq H6 i4 2 [(iI (IntKind.i64.wrap (t7+1)))] λH8=>∃a9 i10,H8.cell t5 6=some (sl a9 i10)/\aC H8 (.cells true 1 [(iU 0)]) λi11 bO=>∃l13,rowOf bO 1 (ad i11) 1=some l13/\iT bO 8 1 a9 i10 1 l13 λcI i15 gC=>aq gC t5 6 [(sl cI i15)] λaQ=>∃de i19,(aQ.ae 11).cell t5 5=some (sl de i19)/\∃cU fR i22 lF,(aQ.ae 11).aM i4 0 3=some [(iU cU),(sl fR i22),(iI lF)]/\aC (aQ.ae 11) (.cells true 3 [(iU cU),(sl fR i22),(iI lF)]) λi24 cR=>∃l26,rowOf cR 3 (ad i24) 1=some l26/\iT cR 40 3 de i19 1 l26 λjb i28 fq=>aq fq t5 5 [(sl jb i28)] λgI=>(∃KR,KR<n/\I KR (IntKind.i64.wrap (t7+1)) gI)/\((∃lj i34,(aQ.ae 11).cell t5 5=some (sl lj i34)/\(de=lj/\i19=i34/\0=0))/\(∃fz i32,cR.cell t5 5=some (sl fz i32)/\(de=fz/\i19=i32/\0=0))/\True)/\True) else (∃nC,H6.cell t2 0=some (iI nC)/\bif (nC==2) then (aq H6 i4 2 [(iI (IntKind.i64.wrap (t7+1)))] λi_=>∃jm i39,i_.cell t5 6=some (sl jm i39)/\aC i_ (.cells true 1 [(iU 0)]) λi40 p8=>∃KW,rowOf p8 1 (ad i40) 1=some KW/\iT p8 8 1 jm i39 1 KW λmh i44 dw=>aq dw t5 6 [(sl mh i44)] λp9=>∃kO i48,(p9.ae 11).cell t5 5=some (sl kO i48)/\∃lX BB i51 xx,(p9.ae 11).aM i4 0 3=some [(iU lX),(sl BB i51),(iI xx)]/\aC (p9.ae 11) (.cells true 3 [(iU lX),(sl BB i51),(iI xx)]) λi53 Dx=>∃l55,rowOf Dx 3 (ad i53) 1=some l55/\iT Dx 40 3 kO i48 1 l55 λa56 i57 lh=>aq lh t5 5 [(sl a56 i57)] λoy=>(∃KS,KS<n/\I KS (IntKind.i64.wrap (t7+1)) oy)/\((∃kP i63,(p9.ae 11).cell t5 5=some (sl kP i63)/\(kO=kP/\i48=i63/\0=0))/\(∃uG i61,Dx.cell t5 5=some (sl uG i61)/\(kO=uG/\i48=i61/\0=0))/\True)/\True) else (∃r9 i66,(H6.ae 11).cell t5 5=some (sl r9 i66)/\∃xD wX i69 xF,(H6.ae 11).aM i4 0 3=some [(iU xD),(sl wX i69),(iI xF)]/\aC (H6.ae 11) (.cells true 3 [(iU xD),(sl wX i69),(iI xF)]) λi71 wQ=>∃l73,rowOf wQ 3 (ad i71) 1=some l73/\iT wQ 40 3 r9 i66 1 l73 λym i75 gW=>aq gW t5 5 [(sl ym i75)] λwR=>(∃k82,k82<n/\I k82 (IntKind.i64.wrap (t7+1)) wR)/\((∃a80 i81,(H6.ae 11).cell t5 5=some (sl a80 i81)/\(r9=a80/\i66=i81/\0=0))/\(∃IW i79,wQ.cell t5 5=some (sl IW i79)/\(r9=IW/\i66=i79/\0=0))/\True)/\True))) else (K0 ([t0,t1,(pt (ad t2)),ud,t4,(pt (ad t5)),(iI t6),(iI t7),(gd ys 8),t9,t10,t11,t12,t13,t14,t15,t16,t17,t18,t19,t20,t21,t22,t23,t24,t25,t26,t27,t28,t29,t30,t31,t32,(iI t7),(iI t6),(bb false)]++gs ys 36 38++[ud]) H))) :
  LA en TE [t0,t1,(pt (ad t2)),ud,t4,(pt (ad t5)),(iI t6),(iI t7),t8,t9,t10,t11,t12,t13,t14,t15,t16,t17,t18,t19,t20,t21,t22,t23,t24,t25,t26,t27,t28,t29,t30,t31,t32,t33,t34,t35,t36,t37,t38,t39,t40,t41,t42,t43,t44,t45,t46,t47,t48,t49,t50,t51,t52,t53,t54,t55,t56,t57,t58,t59,t60,t61,t62,t63,t64,t65,t66,t67,t68,t69,t70,t71,t72,t73,ud] H [(X.exit 0,K0)]:=by
 refine ko (Z:=[]) (λm xs H'=>AS.asInt .i64 (xs.getD 7 undef) λt7=>I m t7 H') ?_ n H ?_
 ·intro n H
  suffices hs:∀eW eY eZ fL fM fN fO iB iC s8 ju jv jw jx jy jz jA jB oQ oR oS oT oU oV sP sQ sR sS xR xS sT sU ET EU EV EW EX EY EZ E0 fJ fK s7:Value,((AS.asInt .i64 s7 λt7=>I n t7 H)->gr en TE [] [t0,t1,(pt (ad t2)),ud,t4,(pt (ad t5)),(iI t6),s7,s8,t9,t10,t11,t12,t13,t14,t15,t16,t17,t18,t19,t20,t21,t22,t23,t24,t25,t26,t27,t28,t29,t30,t31,t32,eW,eY,eZ,fJ,fK,fL,fM,fN,fO,iB,iC,ju,jv,jw,jx,jy,jz,jA,jB,oQ,oR,oS,oT,oU,oV,sP,sQ,sR,sS,xR,xS,sT,sU,ET,EU,EV,EW,EX,EY,EZ,E0,ud] H (kh (λm xs H'=>AS.asInt .i64 (xs.getD 7 undef) λt7=>I m t7 H') n [(X.exit 0,K0)])) by
   apply bL hs
   kernel_rfl
  intro eW eY eZ fL fM fN fO iB iC s8 ju jv jw jx jy jz jA jB oQ oR oS oT oU oV sP sQ sR sS xR xS sT sU ET EU EV EW EX EY EZ E0 fJ fK s7 hP;replace hP:=gF hP;obtain ⟨t7,rfl,hP⟩:=hP;apply bL (cY n t7 [t0,t1,(pt (ad t2)),ud,t4,(pt (ad t5)),(iI t6),(iI t7),s8,t9,t10,t11,t12,t13,t14,t15,t16,t17,t18,t19,t20,t21,t22,t23,t24,t25,t26,t27,t28,t29,t30,t31,t32,eW,eY,eZ,fJ,fK,fL,fM,fN,fO,iB,iC,ju,jv,jw,jx,jy,jz,jA,jB,oQ,oR,oS,oT,oU,oV,sP,sQ,sR,sS,xR,xS,sT,sU,ET,EU,EV,EW,EX,EY,EZ,E0,ud] H hP);kernel_rfl
 ·apply bL h0
  kernel_rfl
theorem alK (x0:Int) :
  (bif (x0==1) then (R (bb true) H) else (bif (x0==2) then (R (bb true) H) else (R (bb (x0==3)) H)))->
  CA en F.aeG [(iI x0)] H R:=vk (by kernel_rfl)
theorem aAg (x0:Oa)(x1 qP qQ:Int)(qR:Oa)(C5:Nat)(qS uz:Int) :
  (aC H (.cells true 0 [(iI qP),(iU qQ),(sl qR C5),(iI qS),(iI uz)]) λi1 H2=>bif (decide (x1<1)) then (R (bb false) H2) else (aA x0 λi3 i4=>∃a5 i6,H2.cell i3 i4=some (sl a5 i6)/\bif (decide (x1>(i6:Int))) then (R (bb false) H2) else (aA x0 λi7 i8=>∃a9 i10,H2.cell i7 i8=some (sl a9 i10)/\az (IntKind.i64.wrap (x1 - 1)) i10/\aV a9 λi11 i12=>∃iR,H2.cell i11 (i12+((IntKind.i64.wrap (x1 - 1)).toNat*1))=some (pt iR)/\aA iR λi14 i15=>∃dy dQ aY fi cU,H2.aM i14 i15 5=some [(iI dy),(iI dQ),(iI aY),(iI fi),(iI cU)]/\aC H2 (.cells true 0 [(iI 0),(iI 0),(iI 0),(iI 0),(iI 0)]) λi21 gg=>aq gg i21 0 [(iI dy),(iI dQ),(iI aY),(iI fi),(iI cU)] λaZ=>∃Tg:LH,(∃cc,(aZ.ae 25).cell i21 0=some (iI cc)/\∃dL,(aZ.ae 25).cell i1 0=some (iI dL)/\CA en F.Ur [(iI cc),(iI dL)] (aZ.ae 25) λwH bN=>∃Je,wH=(bb Je)/\bif (!Je) then ((R (bb false) bN)/\True) else (∃jf,bN.cell i21 0=some (iI jf)/\bif (jf==2) then (∃fY,bN.cell i1 4=some (iI fY)/\bif (decide (fY<0)) then ((R (bb false) bN)/\True) else (∃fZ,bN.cell i1 4=some (iI fZ)/\aA x0 λi33 i34=>∃qF,bN.cell i33 (i34+1)=some (iI qF)/\(bif (decide (fZ≥qF)) then (R (bb false) bN) else (Tg [] bN))/\True)) else ((Tg [] bN)/\True)))/\∀(aC8:Fr)(i_:aa),Tg [] i_->∃IA:LH,(∃jV,i_.cell i1 0=some (iI jV)/\bif (jV==2) then (IA [(bb true)] i_) else (∃fD,i_.cell i1 0=some (iI fD)/\bif (fD==6) then (IA [(bb true)] i_) else (∃kV,i_.cell i1 0=some (iI kV)/\bif (kV==8) then (∃kW,i_.cell i21 0=some (iI kW)/\IA [(bb (kW==8))] i_) else (IA [(bb false)] i_))))/\∀(aC9:Fr)(gV:aa),∀DJ,IA [(bb DJ)] gV->∃Tj:LH,(bif DJ then (∃kO i48,gV.cell i1 2=some (sl kO i48)/\∃lX,gV.cell i21 2=some (iI lX)/\bif ((i48:Int) !=lX) then (R (bb false) gV) else (Tj [] gV)) else (Tj [] gV))/\∀(aC_:Fr)(rV:aa),Tj [] rV->∃NM:LH,(∃kX,rV.cell i1 0=some (iI kX)/\bif (kX==2) then (∃jr,rV.cell i21 0=some (iI jr)/\CA en F.iH [(iI jr)] rV λMR lN=>∃F4,MR=(bb F4)/\bif F4 then (∃tB i59,lN.cell i1 2=some (sl tB i59)/\az 0 i59/\aV tB λi60 i61=>∃pP,lN.cell i60 i61=some (iU pP)/\bif (decide (pP<1)) then ((R (bb false) (lN.ae 39))/\True) else (aA x0 λi63 i64=>∃r9 i66,(lN.ae 39).cell i63 i64=some (sl r9 i66)/\bif (decide (pP>(IntKind.u64.wrap (i66:Int)))) then ((R (bb false) (lN.ae 39))/\True) else (aA x0 λi67 i68=>∃IV i70,(lN.ae 39).cell i67 i68=some (sl IV i70)/\az (IntKind.u64.wrap (pP - 1)) i70/\aV IV λi71 i72=>∃NZ,(lN.ae 39).cell i71 (i72+((IntKind.u64.wrap (pP - 1)).toNat*1))=some (pt NZ)/\aA NZ λi74 i75=>∃xH ug LR rF qG,(lN.ae 39).aM i74 i75 5=some [(iI xH),(iI ug),(iI LR),(iI rF),(iI qG)]/\aA x0 λi81 i82=>∃qj i84,(lN.ae 39).cell i81 i82=some (sl qj i84)/\∃oM,(lN.ae 39).cell i21 4=some (iI oM)/\az (IntKind.i64.wrap (oM - 1)) i84/\aV qj λi86 i87=>∃vM,(lN.ae 39).cell i86 (i87+((IntKind.i64.wrap (oM - 1)).toNat*1))=some (pt vM)/\aA vM λi89 i90=>∃xJ uh LS ui uj,(lN.ae 39).aM i89 i90 5=some [(iI xJ),(iI uh),(iI LS),(iI ui),(iI uj)]/\CA en F.Oy [(.agg #[(iI xH),(iI ug),(iI LR),(iI rF),(iI qG)]),(.agg #[(iI xJ),(iI uh),(iI LS),(iI ui),(iI uj)])] (lN.ae 39) λZU vH=>∃BN,ZU=(bb BN)/\(bif (!BN) then (R (bb false) vH) else (NM [] vH))/\True))) else (NM [] lN)) else (NM [] rV))/\∀(aDa:Fr)(yc:aa),NM [] yc->∃xu K6 tZ wv Cq,yc.aM i21 0 5=some [(iI xu),(iI K6),(iI tZ),(iI wv),(iI Cq)]/\∃Cr Cs uF i109 Ct xv,yc.aM i1 0 5=some [(iI Cr),(iU Cs),(sl uF i109),(iI Ct),(iI xv)]/\CA en F.Uy [(.agg #[(iI xu),(iI K6),(iI tZ),(iI wv),(iI Cq)]),(.agg #[(iI Cr),(iU Cs),(sl uF i109),(iI Ct),(iI xv)])] yc λZI Bm=>∃acj,ZI=(bb acj)/\R (bb acj) Bm)))->
  CA en F.Ux [(pt x0),(iI x1),(.agg #[(iI qP),(iU qQ),(sl qR C5),(iI qS),(iI uz)])] H R:=by
 intro h;refine amm (C:=[none,none,none,none,none,some [],none,none,some [(8,(bb false))],some [],none,none,some [],none,none,none,none,none]) (Z:=[]) (fn:=Go.Proofs.Tryz.f197) ?_ ?_ ?_
 ·kernel_rfl
 ·kernel_rfl
 ·apply bL h
  kernel_rfl
theorem az7 (x0:Oa)(fc fe:Int)(fg:Oa)(pY:Nat)(fP jD:Int) :
  (aC H (.cells true 0 [(iI fc),(iU fe),(sl fg pY),(iI fP),(iI jD)]) λi1 H2=>aC H2 (.cells true 0 [(iI 0),s0,(iU 0),(iI 0)]) λi3 H4=>∃n5,H4.cell i1 0=some (iI n5)/\bif (n5==4) then (∃n6 n7 a8 i9 fC bI,H4.aM i1 0 5=some [(iI n6),(iU n7),(sl a8 i9),(iI fC),(iI bI)]/\CA en F.Ut [(pt x0),(.agg #[(iI n6),(iU n7),(sl a8 i9),(iI fC),(iI bI)])] H4 λrN cE=>∃cO dX i16 dQ aY,rN=(.agg #[(iI cO),(sl dX i16),(iU dQ),(iI aY)])/\aq cE i3 0 [(iI cO),(sl dX i16),(iU dQ),(iI aY)] λbf=>∃cU fR i22 lF nA,bf.aM i3 0 4=some [(iI cU),(sl fR i22),(iU lF),(iI nA)]/\R (.agg #[(iI cU),(sl fR i22),(iU lF),(iI nA)]) bf) else (∃cc,H4.cell i1 0=some (iI cc)/\bif (cc==2) then (∃dL jL eF i29 jf fY,H4.aM i1 0 5=some [(iI dL),(iU jL),(sl eF i29),(iI jf),(iI fY)]/\CA en F.Uv [(pt x0),(.agg #[(iI dL),(iU jL),(sl eF i29),(iI jf),(iI fY)])] H4 λMN nO=>∃gn iS i36 iz mv,MN=(.agg #[(iI gn),(sl iS i36),(iU iz),(iI mv)])/\aq nO i3 0 [(iI gn),(sl iS i36),(iU iz),(iI mv)] λja=>∃fD gY i42 mw my,ja.aM i3 0 4=some [(iI fD),(sl gY i42),(iU mw),(iI my)]/\R (.agg #[(iI fD),(sl gY i42),(iU mw),(iI my)]) ja) else (∃ua,H4.cell i1 1=some (iU ua)/\CA en F.OC [(pt x0),(iU ua)] H4 λv46 Dw=>∃jW,v46=(iI jW)/\bif (decide (jW<0)) then (aq Dw i3 0 [(iI 2),s0,(iU 0),(iI 0)] λjl=>∃gS px i52 kX jr,jl.aM i3 0 4=some [(iI gS),(sl px i52),(iU kX),(iI jr)]/\R (.agg #[(iI gS),(sl px i52),(iU kX),(iI jr)]) jl) else (aA x0 λi55 i56=>∃wV i58,Dw.cell i55 (i56+5)=some (sl wV i58)/\az jW i58/\aV wV λi59 i60=>∃ue kP i63 xC,Dw.aM i59 (i60+(jW.toNat*3)) 3=some [(iU ue),(sl kP i63),(iI xC)]/\aC Dw (.cells true 0 [(iU 0),s0,(iI 0)]) λi65 pk=>aq pk i65 0 [(iU ue),(sl kP i63),(iI xC)] λuE=>∃iW,uE.cell i1 0=some (iI iW)/\bif (iW==1) then (CA en F.OF [(pt x0),(iI jW)] uE λZQ qc=>ZQ=undef/\∃xG vL i73 uf,((qc.ae 8).set (qc.next+6) (.cells true 0 [(iI 0),s0,(iU 0),(iI 0)])).aM i65 0 3=some [(iU xG),(sl vL i73),(iI uf)]/\CA en F.OG [(pt x0),(.agg #[(iU xG),(sl vL i73),(iI uf)])] ((qc.ae 8).set (qc.next+6) (.cells true 0 [(iI 0),s0,(iU 0),(iI 0)])) λMU gW=>∃BD i78,MU=(sl BD i78)/\∃rF,gW.cell i65 2=some (iI rF)/\aq gW (qc.next+6) 0 [(iI 0),(sl BD i78),(iU 0),(iI rF)] λmG=>(aA x0 λi85 i86=>∃CH,mG.cell i85 i86=some (iI CH)/\bif (CH==10) then (∃vM i89,mG.cell i65 1=some (sl vM i89)/\az 0 i89/\aV vM λi90 i91=>∃uh,mG.cell i90 i91=some (iU uh)/\aq mG (qc.next+6) 3 [(iI (IntKind.i64.wrap uh))] λnP=>∃ui a95 i96 LU xK,nP.aM (qc.next+6) 0 4=some [(iI ui),(sl a95 i96),(iU LU),(iI xK)]/\aq nP i3 0 [(iI ui),(sl a95 i96),(iU LU),(iI xK)] λpo=>∃Hd abi i102 tZ wv,po.aM i3 0 4=some [(iI Hd),(sl abi i102),(iU tZ),(iI wv)]/\R (.agg #[(iI Hd),(sl abi i102),(iU tZ),(iI wv)]) po) else (∃Cq abl i107 aiJ K7,mG.aM (qc.next+6) 0 4=some [(iI Cq),(sl abl i107),(iU aiJ),(iI K7)]/\aq mG i3 0 [(iI Cq),(sl abl i107),(iU aiJ),(iI K7)] λDs=>∃xv IN i113 xw K9,Ds.aM i3 0 4=some [(iI xv),(sl IN i113),(iU xw),(iI K9)]/\R (.agg #[(iI xv),(sl IN i113),(iU xw),(iI K9)]) Ds))/\((∃c82,((qc.ae 8).set (qc.next+6) (.cells true 0 [(iI 0),s0,(iU 0),(iI 0)])).get (qc.next+6)=some (.cells true 0 c82)/\fv.jP 8 [(iI 0),s0,(iU 0),(iI 0)] c82=true)/\(∃c81,gW.get (qc.next+6)=some (.cells true 0 c81)/\fv.jP 8 [(iI 0),s0,(iU 0),(iI 0)] c81=true)/\True)/\((∃n84,((qc.ae 8).set (qc.next+6) (.cells true 0 [(iI 0),s0,(iU 0),(iI 0)])).cell i65 2=some (iI n84)/\rF=n84)/\(∃xI,gW.cell i65 2=some (iI xI)/\rF=xI)/\True)/\True) else (bif (iW==5) then (CA en F.Gc [(pt x0),(iI jW)] uE λZJ Bn=>ZJ=undef/\∃t_ abr i120 aiL,Bn.aM i65 0 3=some [(iU t_),(sl abr i120),(iI aiL)]/\CA en F.OG [(pt x0),(.agg #[(iU t_),(sl abr i120),(iI aiL)])] Bn λayM Dt=>∃By i125,ayM=(sl By i125)/\aq Dt i3 0 [(iI 0),(sl By i125),(iU 0),(iI 0)] λFJ=>∃Lg abv i129 Lm Cx,FJ.aM i3 0 4=some [(iI Lg),(sl abv i129),(iU Lm),(iI Cx)]/\R (.agg #[(iI Lg),(sl abv i129),(iU Lm),(iI Cx)]) FJ) else (CA en F.Gc [(pt x0),(iI jW)] uE λayS Bp=>ayS=undef/\aq Bp i3 0 [(iI 0),s0,(iU 0),(iI 0)] λNG=>∃Lp abz i137 aiO Cy,NG.aM i3 0 4=some [(iI Lp),(sl abz i137),(iU aiO),(iI Cy)]/\R (.agg #[(iI Lp),(sl abz i137),(iU aiO),(iI Cy)]) NG))))))->
  CA en F.OD [(pt x0),(.agg #[(iI fc),(iU fe),(sl fg pY),(iI fP),(iI jD)])] H R:=vk (by kernel_rfl)
theorem aAi (kJ kK nJ nK nL fc fe:Int)(fg:Oa)(pY:Nat)(fP jD:Int) :
  (aC H (.cells true 0 [(iI kJ),(iI kK),(iI nJ),(iI nK),(iI nL)]) λi1 H2=>aC H2 (.cells true 0 [(iI fc),(iU fe),(sl fg pY),(iI fP),(iI jD)]) λi3 H4=>∃n5,H4.cell i3 0=some (iI n5)/\bif (n5==2) then (∃n6,H4.cell i3 3=some (iI n6)/\bif (decide (n6≥0)) then (∃n7,H4.cell i3 3=some (iI n7)/\R (bb (decide (n7<=2))) H4) else (R (bb false) H4)) else (bif (n5==6) then (∃n8,H4.cell i3 3=some (iI n8)/\bif (n8==0) then (R (bb true) H4) else (∃n9,H4.cell i3 3=some (iI n9)/\bif (n9==2) then (∃fC,H4.cell i1 0=some (iI fC)/\R (bb (fC !=8)) H4) else (R (bb false) H4))) else (bif (n5==4) then (∃bI,H4.cell i3 3=some (iI bI)/\bif (bI==0) then (R (bb true) H4) else (∃bH,H4.cell i3 3=some (iI bH)/\R (bb (bH==1)) H4)) else (∃gQ,H4.cell i3 3=some (iI gQ)/\R (bb (gQ==0)) H4))))->
  CA en F.Uy [(.agg #[(iI kJ),(iI kK),(iI nJ),(iI nK),(iI nL)]),(.agg #[(iI fc),(iU fe),(sl fg pY),(iI fP),(iI jD)])] H R:=vk (by kernel_rfl)
theorem aAc (x0:Oa)(fc:Int)(fe:Oa)(uy:Nat)(fg:Int) :
  (aC H (.cells true 0 [(iU fc),(sl fe uy),(iI fg)]) λi1 H2=>∃n3,H2.cell i1 2=some (iI n3)/\bif (decide (n3>0)) then (aA x0 λi4 i5=>∃a6 i7,(H2.ae 11).cell i4 (i5+6)=some (sl a6 i7)/\∃n8,(H2.ae 11).cell i1 2=some (iI n8)/\az (IntKind.i64.wrap (n8 - 1)) i7/\aV a6 λi9 i10=>∃bI,(H2.ae 11).cell i9 (i10+((IntKind.i64.wrap (n8 - 1)).toNat*1))=some (iU bI)/\aC (H2.ae 11) (.cells true 1 [(iU bI)]) λi12 cE=>(R (sl (ad i12) 1) cE)/\True) else (∃cI i15,H2.cell i1 1=some (sl cI i15)/\CA en F.F8 [(sl cI i15)] H2 λoX aQ=>∃de i19,oX=(sl de i19)/\R (sl de i19) aQ))->
  CA en F.OG [(pt x0),(.agg #[(iU fc),(sl fe uy),(iI fg)])] H R:=vk (by kernel_rfl)
theorem az_ (x0:Oa)(x1:Int)(x2:Oa)(pZ:Nat) :
  (aA x0 λi1 i2=>∃a3 i4,H.cell i1 (i2+5)=some (sl a3 i4)/\az x1 i4/\aV a3 λi5 i6=>∃n7,H.cell i5 ((i6+(x1.toNat*3))+2)=some (iI n7)/\bif (decide (n7>0)) then (aA x0 λi8 i9=>∃gx i11,(H.ae 18).cell i8 (i9+6)=some (sl gx i11)/\aA x0 λi12 i13=>∃cI i15,(H.ae 18).cell i12 (i13+5)=some (sl cI i15)/\az x1 i15/\aV cI λi16 i17=>∃aY,(H.ae 18).cell i16 ((i17+(x1.toNat*3))+2)=some (iI aY)/\az 0 pZ/\aV x2 λi19 i20=>∃bX,(H.ae 18).cell i19 i20=some (iU bX)/\az (IntKind.i64.wrap (aY - 1)) i11/\aV gx λi22 i23=>aq (H.ae 18) i22 (i23+((IntKind.i64.wrap (aY - 1)).toNat*1)) [(iU bX)] λbM=>(R undef bM)/\True) else (aA x0 λi25 i26=>∃jb i28,(H.ae 10).cell i25 (i26+5)=some (sl jb i28)/\CA en F.F8 [(sl x2 pZ)] (H.ae 10) λZM gI=>∃fz i32,ZM=(sl fz i32)/\az x1 i28/\aV jb λi33 i34=>aq gI i33 ((i34+(x1.toNat*3))+1) [(sl fz i32)] λjk=>(R undef jk)/\((∃jm i39,(H.ae 10).cell i25 (i26+5)=some (sl jm i39)/\(jb=jm/\i28=i39/\0=0))/\(∃kq i37,gI.cell i25 (i26+5)=some (sl kq i37)/\(jb=kq/\i28=i37/\0=0))/\True)/\True))->
  CA en F.Uu [(pt x0),(iI x1),(sl x2 pZ)] H R:=vk (by kernel_rfl)
noncomputable def TB:Code:=kE Go.Proofs.Tryz.f259 0
theorem az6 (x0:Oa)(x1:Int) :
  (LA en TB [(pt x0),(iI x1),ud,ud,s0,(iI 0),ud,ud,ud,ud,ud,ud,ud,ud,ud,ud,ud,ud,ud,ud,ud,ud,ud,ud,ud,ud,ud,ud,ud,ud,ud,ud] H [(X.exit 0,λ(y1:Fr)(H2:aa)=>q7 (y1.getD 4 undef) λa3 i4=>aA x0 λi5 i6=>aq H2 i5 (i6+5) [(sl a3 i4)] λH7=>R undef H7)])->
  CA en F.Gc [(pt x0),(iI x1)] H R:=vz [[(4,s0)]] (by kernel_rfl)
theorem ayx {t0:Oa}{t1:Int}{K0:FH}{t4:Oa}{rL:Nat}{t5:Int}{t6 t7 t8 t9 t10 t11 t12 t13 t14 t15 t16 t17 t18 t19 t20 t21 t22 t23 t24 t25 t26 t27:Value}{H:aa}(I:Nat->Oa->Nat->Int->aa->Prop)(n:Nat)(h0:I n t4 rL t5 H)
  (cY:∀(n:Nat)(t4:Oa)(rL:Nat)(t5:Int)(ys:Fr)(H:aa),I n t4 rL t5 H->
  (aA t0 λi1 i2=>∃a3 i4,H.cell i1 (i2+5)=some (sl a3 i4)/\bif (decide (t5<(i4:Int))) then (bif (t5 !=t1) then (aA t0 λi5 i6=>∃a7 i8,H.cell i5 (i6+5)=some (sl a7 i8)/\az t5 i8/\aV a7 λi9 i10=>∃bI bY i13 cO,H.aM i9 (i10+(t5.toNat*3)) 3=some [(iU bI),(sl bY i13),(iI cO)]/\aC H (.cells true 3 [(iU bI),(sl bY i13),(iI cO)]) λi15 gC=>∃G5,rowOf gC 3 (ad i15) 1=some G5/\iT gC 40 3 t4 rL 1 G5 λde i19 bu=>∃KN,KN<n/\I KN de i19 (IntKind.i64.wrap (t5+1)) bu) else (∃KO,KO<n/\I KO t4 rL (IntKind.i64.wrap (t5+1)) H)) else (K0 ([(pt t0),(iI t1),ud,ud,(sl t4 rL),(iI t5),(iI t5),(pt t0),(pA i1 i2),(pA i1 (i2+5)),(sl a3 i4),(iI (i4:Int)),(bb false)]++gs ys 13 15++[ud,ud,ud,ud]) H))) :
  LA en TB [(pt t0),(iI t1),ud,ud,(sl t4 rL),(iI t5),t6,t7,t8,t9,t10,t11,t12,t13,t14,t15,t16,t17,t18,t19,t20,t21,t22,t23,t24,t25,t26,t27,ud,ud,ud,ud] H [(X.exit 0,K0)]:=by
 refine ko (Z:=[]) (λm xs H'=>q7 (xs.getD 4 undef) λt4 rL=>AS.asInt .i64 (xs.getD 5 undef) λt5=>I m t4 rL t5 H') ?_ n H ?_
 ·intro n H
  suffices hs:∀s6 s7 s8 s9 dR dz c6 dA c9 cH c_ dB db dC dS dT dD dE eS eT s4 c7 c8 s5:Value,((q7 s4 λt4 rL=>AS.asInt .i64 s5 λt5=>I n t4 rL t5 H)->gr en TB [] [(pt t0),(iI t1),ud,ud,s4,s5,s6,s7,s8,s9,dR,dz,c6,c7,c8,dA,c9,cH,c_,dB,db,dC,dS,dT,dD,dE,eS,eT,ud,ud,ud,ud] H (kh (λm xs H'=>q7 (xs.getD 4 undef) λt4 rL=>AS.asInt .i64 (xs.getD 5 undef) λt5=>I m t4 rL t5 H') n [(X.exit 0,K0)])) by
   apply bL hs
   kernel_rfl
  intro s6 s7 s8 s9 dR dz c6 dA c9 cH c_ dB db dC dS dT dD dE eS eT s4 c7 c8 s5 hP;replace hP:=I4 hP;obtain ⟨t4,rL,rfl,hP⟩:=hP;replace hP:=gF hP;obtain ⟨t5,rfl,hP⟩:=hP;apply bL (cY n t4 rL t5 [(pt t0),(iI t1),ud,ud,(sl t4 rL),(iI t5),s6,s7,s8,s9,dR,dz,c6,c7,c8,dA,c9,cH,c_,dB,db,dC,dS,dT,dD,dE,eS,eT,ud,ud,ud,ud] H hP);kernel_rfl
 ·apply bL h0
  kernel_rfl
theorem az8 (x0:Oa)(x1:Int)(x2:Oa)(pZ:Nat) :
  (CA en F.F8 [(sl x2 pZ)] H λv1 H2=>∃a3 i4,v1=(sl a3 i4)/\aC H2 (.cells true 0 [(iU 0),s0,(iI 0)]) λi5 H6=>aq H6 i5 0 [(iU x1),(sl a3 i4),(iI 0)] λH7=>aA x0 λi8 i9=>∃fC,H7.cell i8 i9=some (iI fC)/\bif (fC==4) then (aA x0 λi11 i12=>∃iR i14,(H7.ae 13).cell i11 (i12+6)=some (sl iR i14)/\az 0 pZ/\aV x2 λi15 i16=>∃dQ,(H7.ae 13).cell i15 i16=some (iU dQ)/\aC (H7.ae 13) (.cells true 1 [(iU dQ)]) λi18 bf=>∃G6,rowOf bf 1 (ad i18) 1=some G6/\iT bf 8 1 iR i14 1 G6 λfR i22 aZ=>aA x0 λi24 i25=>aq aZ i24 (i25+6) [(sl fR i22)] λeC=>(aA x0 λi31 i32=>∃lj i34,eC.cell i31 (i32+6)=some (sl lj i34)/\aq eC i5 2 [(iI (i34:Int))] λjk=>aA x0 λi36 i37=>∃jm i39,(jk.ae 11).cell i36 (i37+5)=some (sl jm i39)/\∃fD gY i42 mw,(jk.ae 11).aM i5 0 3=some [(iU fD),(sl gY i42),(iI mw)]/\aC (jk.ae 11) (.cells true 3 [(iU fD),(sl gY i42),(iI mw)]) λi44 dw=>∃G7,rowOf dw 3 (ad i44) 1=some G7/\iT dw 40 3 jm i39 1 G7 λkO i48 jl=>aA x0 λi50 i51=>aq jl i50 (i51+5) [(sl kO i48)] λdW=>(R undef dW)/\((∃lQ i56,(jk.ae 11).cell i36 (i37+5)=some (sl lQ i56)/\(jm=lQ/\i39=i56/\0=0))/\(∃lr i54,dw.cell i36 (i37+5)=some (sl lr i54)/\(jm=lr/\i39=i54/\0=0))/\True)/\True)/\((∃gD i30,(H7.ae 13).cell i11 (i12+6)=some (sl gD i30)/\(iR=gD/\i14=i30/\0=0))/\(∃jb i28,bf.cell i11 (i12+6)=some (sl jb i28)/\(iR=jb/\i14=i28/\0=0))/\True)/\True) else (aA x0 λi57 i58=>∃uc,H7.cell i57 i58=some (iI uc)/\bif (uc==5) then (aA x0 λi60 i61=>∃kP i63,(H7.ae 13).cell i60 (i61+6)=some (sl kP i63)/\az 0 pZ/\aV x2 λi64 i65=>∃CE,(H7.ae 13).cell i64 i65=some (iU CE)/\aC (H7.ae 13) (.cells true 1 [(iU CE)]) λi67 yi=>∃l69,rowOf yi 1 (ad i67) 1=some l69/\iT yi 8 1 kP i63 1 l69 λqi i71 wQ=>aA x0 λi73 i74=>aq wQ i73 (i74+6) [(sl qi i71)] λBr=>(aA x0 λi80 i81=>∃a82 i83,Br.cell i80 (i81+6)=some (sl a82 i83)/\aq Br i5 2 [(iI (i83:Int))] λNK=>aA x0 λi85 i86=>∃DG i88,(NK.ae 11).cell i85 (i86+5)=some (sl DG i88)/\∃CI tC i91 uh,(NK.ae 11).aM i5 0 3=some [(iU CI),(sl tC i91),(iI uh)]/\aC (NK.ae 11) (.cells true 3 [(iU CI),(sl tC i91),(iI uh)]) λi93 Dy=>∃l95,rowOf Dy 3 (ad i93) 1=some l95/\iT Dy 40 3 DG i88 1 l95 λuH i97 Te=>aA x0 λi99 i100=>aq Te i99 (i100+5) [(sl uH i97)] λFI=>(R undef FI)/\((∃IL i105,(NK.ae 11).cell i85 (i86+5)=some (sl IL i105)/\(DG=IL/\i88=i105/\0=0))/\(∃wT i103,Dy.cell i85 (i86+5)=some (sl wT i103)/\(DG=wT/\i88=i103/\0=0))/\True)/\True)/\((∃IW i79,(H7.ae 13).cell i60 (i61+6)=some (sl IW i79)/\(kP=IW/\i63=i79/\0=0))/\(∃DE i77,yi.cell i60 (i61+6)=some (sl DE i77)/\(kP=DE/\i63=i77/\0=0))/\True)/\True) else (aA x0 λi106 i107=>∃uF i109,(H7.ae 11).cell i106 (i107+5)=some (sl uF i109)/\∃Ct IM i112 Cu,(H7.ae 11).aM i5 0 3=some [(iU Ct),(sl IM i112),(iI Cu)]/\aC (H7.ae 11) (.cells true 3 [(iU Ct),(sl IM i112),(iI Cu)]) λi114 wP=>∃ahM,rowOf wP 3 (ad i114) 1=some ahM/\iT wP 40 3 uF i109 1 ahM λaog i118 NF=>aA x0 λi120 i121=>aq NF i120 (i121+5) [(sl aog i118)] λBo=>(R undef Bo)/\((∃abt i126,(H7.ae 11).cell i106 (i107+5)=some (sl abt i126)/\(uF=abt/\i109=i126/\0=0))/\(∃IP i124,wP.cell i106 (i107+5)=some (sl IP i124)/\(uF=IP/\i109=i124/\0=0))/\True)/\True)))->
  CA en F.OE [(pt x0),(iU x1),(sl x2 pZ)] H R:=vk (by kernel_rfl)
noncomputable def TC:Code:=kE Go.Proofs.Tryz.f262 0
theorem az9 (x0:Oa)(fc fe:Int)(fg:Oa)(pY:Nat)(fP jD:Int) :
  (aC H (.cells true 0 [(iI fc),(iU fe),(sl fg pY),(iI fP),(iI jD)]) λi1 H2=>aC H2 (.cells true 0 [(iI 0),s0,(iU 0),(iI 0)]) λi3 H4=>LA en TC [(pt x0),(.agg #[(iI fc),(iU fe),(sl fg pY),(iI fP),(iI jD)]),ud,(pt (ad i1)),(pt (ad i3)),(iI (-1)),(iI 0),ud,ud,ud,ud,ud,ud,ud,ud,ud,ud,ud,ud,ud,ud,ud,ud,ud,ud,ud,ud,ud,ud,ud,ud,ud,ud,ud,ud,ud,ud,ud,ud,ud,ud,ud,ud,ud,ud,ud,ud,ud,ud,ud,ud,ud,ud,ud,ud,ud,ud,ud,ud,ud,ud,ud,ud,ud,ud,ud,ud,ud,ud,ud] H4 [(X.exit 0,λ(y5:Fr)(H6:aa)=>AS.asInt .i64 (y5.getD 5 undef) λn7=>bif (decide (n7<0)) then (aq H6 i3 0 [(iI 2),s0,(iU 0),(iI 0)] λH8=>∃n9 gx i11 bH gQ,H8.aM i3 0 4=some [(iI n9),(sl gx i11),(iU bH),(iI gQ)]/\R (.agg #[(iI n9),(sl gx i11),(iU bH),(iI gQ)]) H8) else (aA x0 λi14 i15=>∃jR i17,H6.cell i14 (i15+5)=some (sl jR i17)/\az n7 i17/\aV jR λi18 i19=>∃cU,H6.cell i18 (i19+(n7.toNat*3))=some (iU cU)/\aq H6 i3 0 [(iI 0),s0,(iU cU),(iI 0)] λjZ=>∃jT fT i24 cc dL,jZ.aM i3 0 4=some [(iI jT),(sl fT i24),(iU cc),(iI dL)]/\R (.agg #[(iI jT),(sl fT i24),(iU cc),(iI dL)]) jZ))])->
  CA en F.Ut [(pt x0),(.agg #[(iI fc),(iU fe),(sl fg pY),(iI fP),(iI jD)])] H R:=vz [[(5,(iI 0))]] (by kernel_rfl)
theorem ayy {t1 t4:Value}{t0:Oa}{t3:Nat}{K0:FH}{t5 t6:Int}{t7 t8 t9 t10 t11 t12 t13 t14 t15 t16 t17 t18 t19 t20 t21 t22 t23 t24 t25 t26 t27 t28 t29 t30 t31 t32 t33 t34 t35 t36 t37 t38 t39 t40 t41 t42 t43 t44 t45 t46 t47 t48 t49 t50 t51 t52 t53 t54 t55 t56 t57:Value}{H:aa}(I:Nat->Int->Int->aa->Prop)(n:Nat)(h0:I n t5 t6 H)
  (cY:∀(n:Nat)(t5 t6:Int)(ys:Fr)(H:aa),I n t5 t6 H->
  (aA t0 λi1 i2=>∃a3 i4,H.cell i1 (i2+5)=some (sl a3 i4)/\bif (decide (t6<(i4:Int))) then (aA t0 λi5 i6=>∃a7 i8,H.cell i5 (i6+5)=some (sl a7 i8)/\az t6 i8/\aV a7 λi9 i10=>∃bI,H.cell i9 (i10+(t6.toNat*3))=some (iU bI)/\∃bH,(H.ae 14).cell t3 3=some (iI bH)/\bif (bH !=1) then (aA t0 λi13 i14=>∃bC dy dQ aY fi,(H.ae 14).aM i13 i14 5=some [(iI bC),(iI dy),(iI dQ),(iI aY),(iI fi)]/\∃cU,(H.ae 14).cell t3 1=some (iU cU)/\CA en F.Jx [(.agg #[(iI bC),(iI dy),(iI dQ),(iI aY),(iI fi)]),(iU cU),(iU bI)] (H.ae 14) λAV gg=>∃Jd,AV=(bb Jd)/\(bif (!Jd) then (∃k24,k24<n/\I k24 t5 (IntKind.i64.wrap (t6+1)) gg) else (bif (decide (t5<0)) then ((∃k25,k25<n/\I k25 t6 (IntKind.i64.wrap (t6+1)) (gg.ae 18))/\True) else (aA t0 λi26 i27=>∃jU gm jf fY fZ,(gg.ae 18).aM i26 i27 5=some [(iI jU),(iI gm),(iI jf),(iI fY),(iI fZ)]/\aA t0 λi33 i34=>∃iS i36,(gg.ae 18).cell i33 (i34+5)=some (sl iS i36)/\az t5 i36/\aV iS λi37 i38=>∃jV,(gg.ae 18).cell i37 (i38+(t5.toNat*3))=some (iU jV)/\CA en F.Jx [(.agg #[(iI jU),(iI gm),(iI jf),(iI fY),(iI fZ)]),(iU bI),(iU jV)] (gg.ae 18) λR8 p8=>∃b42,R8=(bb b42)/\(bif b42 then (∃k43,k43<n/\I k43 t6 (IntKind.i64.wrap (t6+1)) p8) else (∃k44,k44<n/\I k44 t5 (IntKind.i64.wrap (t6+1)) p8))/\True)))/\True) else ((bif (decide (t5<0)) then ((∃k45,k45<n/\I k45 t6 (IntKind.i64.wrap (t6+1)) ((H.ae 14).ae 18))/\True) else (aA t0 λi46 i47=>∃jW lX gS ub xx,((H.ae 14).ae 18).aM i46 i47 5=some [(iI jW),(iI lX),(iI gS),(iI ub),(iI xx)]/\aA t0 λi53 i54=>∃lQ i56,((H.ae 14).ae 18).cell i53 (i54+5)=some (sl lQ i56)/\az t5 i56/\aV lQ λi57 i58=>∃uc,((H.ae 14).ae 18).cell i57 (i58+(t5.toNat*3))=some (iU uc)/\CA en F.Jx [(.agg #[(iI jW),(iI lX),(iI gS),(iI ub),(iI xx)]),(iU bI),(iU uc)] ((H.ae 14).ae 18) λv60 uD=>∃Jk,v60=(bb Jk)/\(bif Jk then (∃k63,k63<n/\I k63 t6 (IntKind.i64.wrap (t6+1)) uD) else (∃KS,KS<n/\I KS t5 (IntKind.i64.wrap (t6+1)) uD))/\True))/\True)) else (K0 ([(pt t0),t1,ud,(pt (ad t3)),t4,(iI t5),(iI t6),(gd ys 7),(iI t6),(pt t0),(pA i1 i2),(pA i1 (i2+5)),(sl a3 i4),(iI (i4:Int)),(bb false)]++gs ys 15 43++us 12) H))) :
  LA en TC [(pt t0),t1,ud,(pt (ad t3)),t4,(iI t5),(iI t6),t7,t8,t9,t10,t11,t12,t13,t14,t15,t16,t17,t18,t19,t20,t21,t22,t23,t24,t25,t26,t27,t28,t29,t30,t31,t32,t33,t34,t35,t36,t37,t38,t39,t40,t41,t42,t43,t44,t45,t46,t47,t48,t49,t50,t51,t52,t53,t54,t55,t56,t57,ud,ud,ud,ud,ud,ud,ud,ud,ud,ud,ud,ud] H [(X.exit 0,K0)]:=by
 refine ko (Z:=[]) (λm xs H'=>AS.asInt .i64 (xs.getD 5 undef) λt5=>AS.asInt .i64 (xs.getD 6 undef) λt6=>I m t5 t6 H') ?_ n H ?_
 ·intro n H
  suffices hs:∀s8 s9 dR dz c6 c7 c8 cH c_ dB db dC dS dT dD s7 dE eS eT fF fG eU fH fI eW eY eZ fJ fK fL fM fN fO iB iC ju jv jw jx jy jz jA jB oQ oR oS oT oU oV s5 dA c9 s6:Value,((AS.asInt .i64 s5 λt5=>AS.asInt .i64 s6 λt6=>I n t5 t6 H)->gr en TC [] ([(pt t0),t1,ud,(pt (ad t3)),t4,s5,s6,s7,s8,s9,dR,dz,c6,c7,c8,dA,c9,cH,c_,dB,db,dC,dS,dT,dD,dE,eS,eT,fF,fG,eU,fH,fI,eW,eY,eZ,fJ,fK,fL,fM,fN,fO,iB,iC,ju,jv,jw,jx,jy,jz,jA,jB,oQ,oR,oS,oT,oU,oV]++us 12) H (kh (λm xs H'=>AS.asInt .i64 (xs.getD 5 undef) λt5=>AS.asInt .i64 (xs.getD 6 undef) λt6=>I m t5 t6 H') n [(X.exit 0,K0)])) by
   apply bL hs
   kernel_rfl
  intro s8 s9 dR dz c6 c7 c8 cH c_ dB db dC dS dT dD s7 dE eS eT fF fG eU fH fI eW eY eZ fJ fK fL fM fN fO iB iC ju jv jw jx jy jz jA jB oQ oR oS oT oU oV s5 dA c9 s6 hP;replace hP:=gF hP;obtain ⟨t5,rfl,hP⟩:=hP;replace hP:=gF hP;obtain ⟨t6,rfl,hP⟩:=hP;apply bL (cY n t5 t6 ([(pt t0),t1,ud,(pt (ad t3)),t4,(iI t5),(iI t6),s7,s8,s9,dR,dz,c6,c7,c8,dA,c9,cH,c_,dB,db,dC,dS,dT,dD,dE,eS,eT,fF,fG,eU,fH,fI,eW,eY,eZ,fJ,fK,fL,fM,fN,fO,iB,iC,ju,jv,jw,jx,jy,jz,jA,jB,oQ,oR,oS,oT,oU,oV]++us 12) H hP);kernel_rfl
 ·apply bL h0
  kernel_rfl
theorem aAa (x0:Oa)(fc fe:Int)(fg:Oa)(pY:Nat)(fP jD:Int) :
  (aC H (.cells true 0 [(iI fc),(iU fe),(sl fg pY),(iI fP),(iI jD)]) λi1 H2=>aC H2 (.cells true 0 [(iI 0),s0,(iU 0),(iI 0)]) λi3 H4=>∃n5,H4.cell i1 1=some (iU n5)/\CA en F.OC [(pt x0),(iU n5)] H4 λv6 H7=>∃n8,v6=(iI n8)/\bif (decide (n8≥0)) then (∃n9,H7.cell i1 3=some (iI n9)/\bif (n9==1) then (aq H7 i3 0 [(iI 3),s0,(iU 0),(iI 0)] λeO=>∃bI bY i13 cO bC,eO.aM i3 0 4=some [(iI bI),(sl bY i13),(iU cO),(iI bC)]/\R (.agg #[(iI bI),(sl bY i13),(iU cO),(iI bC)]) eO) else (∃jR i17,H7.cell i1 2=some (sl jR i17)/\CA en F.Uu [(pt x0),(iI n8),(sl jR i17)] H7 λoY bf=>oY=undef/\CA en F.OF [(pt x0),(iI n8)] bf λv20 jZ=>v20=undef/\aq jZ i3 0 [(iI 0),s0,(iU 0),(iI 0)] λgg=>∃lF oG i25 dL jL,gg.aM i3 0 4=some [(iI lF),(sl oG i25),(iU dL),(iI jL)]/\R (.agg #[(iI lF),(sl oG i25),(iU dL),(iI jL)]) gg)) else (∃jU,H7.cell i1 3=some (iI jU)/\bif (jU==2) then (aq H7 i3 0 [(iI 2),s0,(iU 0),(iI 0)] λfq=>∃jf fz i32 jq gn,fq.aM i3 0 4=some [(iI jf),(sl fz i32),(iU jq),(iI gn)]/\R (.agg #[(iI jf),(sl fz i32),(iU jq),(iI gn)]) fq) else (aA x0 λi35 i36=>∃lq i38,(H7.ae 11).cell i35 (i36+5)=some (sl lq i38)/\aA x0 λi39 i40=>∃kV,(H7.ae 11).cell i39 (i40+1)=some (iI kV)/\(bif (decide ((i38:Int)≥kV)) then (aA x0 λi42 i43=>∃my,(H7.ae 11).cell i42 i43=some (iI my)/\bif (my !=5) then (aq (H7.ae 11) i3 0 [(iI 4),s0,(iU 0),(iI 0)] λdw=>∃iA kO i48 lX gS,dw.aM i3 0 4=some [(iI iA),(sl kO i48),(iU lX),(iI gS)]/\R (.agg #[(iI iA),(sl kO i48),(iU lX),(iI gS)]) dw) else (CA en F.Gc [(pt x0),(iI 0)] (H7.ae 11) λFp dW=>Fp=undef/\∃kX,dW.cell i1 1=some (iU kX)/\∃tA i55,dW.cell i1 2=some (sl tA i55)/\CA en F.OE [(pt x0),(iU kX),(sl tA i55)] dW λAY p_=>AY=undef/\aq p_ i3 0 [(iI 0),s0,(iU 0),(iI 0)] λlh=>∃uc uG i61 pP xB,lh.aM i3 0 4=some [(iI uc),(sl uG i61),(iU pP),(iI xB)]/\R (.agg #[(iI uc),(sl uG i61),(iU pP),(iI xB)]) lh)) else (∃xC,(H7.ae 11).cell i1 1=some (iU xC)/\∃r9 i66,(H7.ae 11).cell i1 2=some (sl r9 i66)/\CA en F.OE [(pt x0),(iU xC),(sl r9 i66)] (H7.ae 11) λMS yi=>MS=undef/\aq yi i3 0 [(iI 0),s0,(iU 0),(iI 0)] λmY=>∃xF oI i72 LP uf,mY.aM i3 0 4=some [(iI xF),(sl oI i72),(iU LP),(iI uf)]/\R (.agg #[(iI xF),(sl oI i72),(iU LP),(iI uf)]) mY))/\True)))->
  CA en F.Uv [(pt x0),(.agg #[(iI fc),(iU fe),(sl fg pY),(iI fP),(iI jD)])] H R:=vk (by kernel_rfl)
noncomputable def TA:Code:=kE Go.Proofs.Tryz.f264 0
theorem az5 (x0:Oa)(x1:Int) :
  (LA en TA [(pt x0),(iU x1),ud,ud,(iI 0),(iI 0),ud,ud,ud,ud,ud,ud,ud,ud,ud,ud,ud,ud,ud,ud,ud,ud,ud,ud,ud,ud] H [(X.exit 0,λ(y1:Fr)(H2:aa)=>AS.asInt .i64 (y1.getD 4 undef) λn3=>R (iI (-1)) H2),(X.ret,λ(y4:Fr)(H5:aa)=>AS.asInt .i64 (y4.getD 4 undef) λn6=>R (iI n6) H5)])->
  CA en F.OC [(pt x0),(iU x1)] H R:=vz [[(4,(iI 0))]] (by kernel_rfl)
theorem ayw {t0:Oa}{t1:Int}{K0 K1:FH}{t4 t5:Int}{t6 t7 t8 t9 t10 t11 t12 t13 t14 t15 t16 t17 t18 t19 t20 t21 t22 t23 t24 t25:Value}{H:aa}(I:Nat->Int->Int->aa->Prop)(n:Nat)(h0:I n t4 t5 H)
  (cY:∀(n:Nat)(t4 t5:Int)(ys:Fr)(H:aa),I n t4 t5 H->
  (aA t0 λi1 i2=>∃a3 i4,H.cell i1 (i2+5)=some (sl a3 i4)/\bif (decide (t5<(i4:Int))) then (aA t0 λi5 i6=>∃a7 i8,H.cell i5 (i6+5)=some (sl a7 i8)/\az t5 i8/\aV a7 λi9 i10=>∃bI,H.cell i9 (i10+(t5.toNat*3))=some (iU bI)/\bif (bI==t1) then (K1 [(pt t0),(iU t1),ud,ud,(iI t5),(iI t5),(iI t5),(pt t0),(pA i1 i2),(pA i1 (i2+5)),(sl a3 i4),(iI (i4:Int)),(bb true),(gd ys 13),(gd ys 14),(pt t0),(pA i5 i6),(pA i5 (i6+5)),(sl a7 i8),(iI t5),(pA i9 (i10+(t5.toNat*3))),(pA i9 (i10+(t5.toNat*3))),(iU bI),(iU t1),(bb true),(iI t5)] H) else (∃KL,KL<n/\I KL t4 (IntKind.i64.wrap (t5+1)) H)) else (K0 ([(pt t0),(iU t1),ud,ud,(iI t4),(iI t5),(iI t5),(pt t0),(pA i1 i2),(pA i1 (i2+5)),(sl a3 i4),(iI (i4:Int)),(bb false)]++gs ys 13 13) H))) :
  LA en TA [(pt t0),(iU t1),ud,ud,(iI t4),(iI t5),t6,t7,t8,t9,t10,t11,t12,t13,t14,t15,t16,t17,t18,t19,t20,t21,t22,t23,t24,t25] H [(X.exit 0,K0),(X.ret,K1)]:=by
 refine ko (Z:=[]) (λm xs H'=>AS.asInt .i64 (xs.getD 4 undef) λt4=>AS.asInt .i64 (xs.getD 5 undef) λt5=>I m t4 t5 H') ?_ n H ?_
 ·intro n H
  suffices hs:∀s6 s7 s8 s9 dR dz c6 dA c9 cH c_ dB db dC dS dT dD dE s4 c7 c8 s5:Value,((AS.asInt .i64 s4 λt4=>AS.asInt .i64 s5 λt5=>I n t4 t5 H)->gr en TA [] [(pt t0),(iU t1),ud,ud,s4,s5,s6,s7,s8,s9,dR,dz,c6,c7,c8,dA,c9,cH,c_,dB,db,dC,dS,dT,dD,dE] H (kh (λm xs H'=>AS.asInt .i64 (xs.getD 4 undef) λt4=>AS.asInt .i64 (xs.getD 5 undef) λt5=>I m t4 t5 H') n [(X.exit 0,K0),(X.ret,K1)])) by
   apply bL hs
   kernel_rfl
  intro s6 s7 s8 s9 dR dz c6 dA c9 cH c_ dB db dC dS dT dD dE s4 c7 c8 s5 hP;replace hP:=gF hP;obtain ⟨t4,rfl,hP⟩:=hP;replace hP:=gF hP;obtain ⟨t5,rfl,hP⟩:=hP;apply bL (cY n t4 t5 [(pt t0),(iU t1),ud,ud,(iI t4),(iI t5),s6,s7,s8,s9,dR,dz,c6,c7,c8,dA,c9,cH,c_,dB,db,dC,dS,dT,dD,dE] H hP);kernel_rfl
 ·apply bL h0
  kernel_rfl
theorem aAb (x0:Oa)(x1:Int) :
  (aA x0 λi1 i2=>∃n3,H.cell i1 i2=some (iI n3)/\bif (n3==5) then (aA x0 λi4 i5=>∃a6 i7,H.cell i4 (i5+5)=some (sl a6 i7)/\az x1 i7/\aV a6 λi8 i9=>∃fC cu i12 gQ,H.aM i8 (i9+(x1.toNat*3)) 3=some [(iU fC),(sl cu i12),(iI gQ)]/\aC H (.cells true 0 [(iU 0),s0,(iI 0)]) λi14 cz=>aq cz i14 0 [(iU fC),(sl cu i12),(iI gQ)] λgC=>CA en F.Gc [(pt x0),(iI x1)] gC λsY gv=>sY=undef/\aA x0 λi19 i20=>∃fR i22,(gv.ae 11).cell i19 (i20+5)=some (sl fR i22)/\∃lF oG i25 dL,(gv.ae 11).aM i14 0 3=some [(iU lF),(sl oG i25),(iI dL)]/\aC (gv.ae 11) (.cells true 3 [(iU lF),(sl oG i25),(iI dL)]) λi27 bN=>∃l29,rowOf bN 3 (ad i27) 1=some l29/\iT bN 40 3 fR i22 1 l29 λjc i31 bU=>aA x0 λi33 i34=>aq bU i33 (i34+5) [(sl jc i31)] λjk=>(R undef jk)/\((∃jm i39,(gv.ae 11).cell i19 (i20+5)=some (sl jm i39)/\(fR=jm/\i22=i39/\0=0))/\(∃kq i37,bN.cell i19 (i20+5)=some (sl kq i37)/\(fR=kq/\i22=i37/\0=0))/\True)/\True) else (R undef H))->
  CA en F.OF [(pt x0),(iI x1)] H R:=vk (by kernel_rfl)
theorem aAe (x0:Oa)(x1 x2:Int) :
  (bif (decide (x1<1)) then (R (.tuple #[(iU 0),(bb false)]) H) else (aA x0 λi1 i2=>∃a3 i4,H.cell i1 i2=some (sl a3 i4)/\bif (decide (x1>(i4:Int))) then (R (.tuple #[(iU 0),(bb false)]) H) else (bif (decide (x2<1)) then (R (.tuple #[(iU 0),(bb false)]) H) else (aA x0 λi5 i6=>∃a7 i8,H.cell i5 i6=some (sl a7 i8)/\az (IntKind.i64.wrap (x1 - 1)) i8/\aV a7 λi9 i10=>∃cu,H.cell i9 (i10+((IntKind.i64.wrap (x1 - 1)).toNat*1))=some (pt cu)/\aA cu λi12 i13=>∃cI i15,H.cell i12 (i13+6)=some (sl cI i15)/\bif (decide (x2>(i15:Int))) then (R (.tuple #[(iU 0),(bb false)]) H) else (aA x0 λi16 i17=>∃de i19,H.cell i16 i17=some (sl de i19)/\az (IntKind.i64.wrap (x1 - 1)) i19/\aV de λi20 i21=>∃fS,H.cell i20 (i21+((IntKind.i64.wrap (x1 - 1)).toNat*1))=some (pt fS)/\aA fS λi23 i24=>∃fu i26,H.cell i23 (i24+6)=some (sl fu i26)/\az (IntKind.i64.wrap (x2 - 1)) i26/\aV fu λi27 i28=>∃gm,H.cell i27 (i28+((IntKind.i64.wrap (x2 - 1)).toNat*1))=some (iU gm)/\R (.tuple #[(iU gm),(bb true)]) H)))))->
  CA en F.OH [(pt x0),(iI x1),(iI x2)] H R:=vk (by kernel_rfl)
theorem aAf (x0:Oa)(x1 x2 x3:Int) :
  (CA en F.OH [(pt x0),(iI x1),(iI x2)] H λv1 H2=>∃n3 b4,v1=(.tuple #[(iU n3),(bb b4)])/\bif b4 then (aA x0 λi5 i6=>∃a7 i8,H2.cell i5 i6=some (sl a7 i8)/\az (IntKind.i64.wrap (x1 - 1)) i8/\aV a7 λi9 i10=>∃cu,H2.cell i9 (i10+((IntKind.i64.wrap (x1 - 1)).toNat*1))=some (pt cu)/\aA cu λi12 i13=>∃cI i15,H2.cell i12 (i13+6)=some (sl cI i15)/\az (IntKind.i64.wrap (x2 - 1)) i15/\aV cI λi16 i17=>aq H2 i16 (i17+((IntKind.i64.wrap (x2 - 1)).toNat*1)) [(iU x3)] λgv=>R (bb b4) gv) else (R (bb b4) H2))->
  CA en F.Uw [(pt x0),(iI x1),(iI x2),(iU x3)] H R:=vk (by kernel_rfl)
theorem aAd (x0:Oa)(x1 qP qQ:Int)(qR:Oa)(C5:Nat)(qS uz:Int) :
  (aC H (.cells true 0 [(iI qP),(iU qQ),(sl qR C5),(iI qS),(iI uz)]) λi1 H2=>aC H2 (.cells true 0 [(iI 0),s0,(iU 0),(iI 0)]) λi3 H4=>∃n5 n6 a7 i8 n9 fC,H4.aM i1 0 5=some [(iI n5),(iU n6),(sl a7 i8),(iI n9),(iI fC)]/\CA en F.Ux [(pt x0),(iI x1),(.agg #[(iI n5),(iU n6),(sl a7 i8),(iI n9),(iI fC)])] H4 λv11 bO=>∃pB,v11=(bb pB)/\bif (!pB) then (aq bO i3 0 [(iI 1),s0,(iU 0),(iI 0)] λbt=>∃bC jR i17 aY fi,bt.aM i3 0 4=some [(iI bC),(sl jR i17),(iU aY),(iI fi)]/\R (.agg #[(iI bC),(sl jR i17),(iU aY),(iI fi)]) bt) else (aA x0 λi20 i21=>∃fS i23,bO.cell i20 i21=some (sl fS i23)/\az (IntKind.i64.wrap (x1 - 1)) i23/\aV fS λi24 i25=>∃mH,bO.cell i24 (i25+((IntKind.i64.wrap (x1 - 1)).toNat*1))=some (pt mH)/\aA mH λi27 i28=>∃gm,bO.cell i27 i28=some (iI gm)/\bif (gm==1) then (∃jf fY mg i33 gn qF,bO.aM i1 0 5=some [(iI jf),(iU fY),(sl mg i33),(iI gn),(iI qF)]/\CA en F.Oz [(pt mH),(.agg #[(iI jf),(iU fY),(sl mg i33),(iI gn),(iI qF)])] bO λFk i_=>∃mv jn i40 kV kW,Fk=(.agg #[(iI mv),(sl jn i40),(iU kV),(iI kW)])/\aq i_ i3 0 [(iI mv),(sl jn i40),(iU kV),(iI kW)] λmX=>∃my oH i46 gR jW,mX.aM i3 0 4=some [(iI my),(sl oH i46),(iU gR),(iI jW)]/\R (.agg #[(iI my),(sl oH i46),(iU gR),(iI jW)]) mX) else (bif (gm==2) then (∃lX gS px i52 kX jr,bO.aM i1 0 5=some [(iI lX),(iU gS),(sl px i52),(iI kX),(iI jr)]/\CA en F.Oz [(pt mH),(.agg #[(iI lX),(iU gS),(sl px i52),(iI kX),(iI jr)])] bO λMR lN=>∃xz tB i59 lY ue,MR=(.agg #[(iI xz),(sl tB i59),(iU lY),(iI ue)])/\aq lN i3 0 [(iI xz),(sl tB i59),(iU lY),(iI ue)] λFM=>∃xB IT i65 CE xD,FM.aM i3 0 4=some [(iI xB),(sl IT i65),(iU CE),(iI xD)]/\R (.agg #[(iI xB),(sl IT i65),(iU CE),(iI xD)]) FM) else (bif (gm==3) then (∃iW CF qi i71 LO LP,bO.aM i1 0 5=some [(iI iW),(iU CF),(sl qi i71),(iI LO),(iI LP)]/\CA en F.Oz [(pt mH),(.agg #[(iI iW),(iU CF),(sl qi i71),(iI LO),(iI LP)])] bO λv74 Br=>∃xH BD i78 rF qG,v74=(.agg #[(iI xH),(sl BD i78),(iU rF),(iI qG)])/\aq Br i3 0 [(iI xH),(sl BD i78),(iU rF),(iI qG)] λH81=>∃Hk qj i84 oM CG,H81.aM i3 0 4=some [(iI Hk),(sl qj i84),(iU oM),(iI CG)]/\R (.agg #[(iI Hk),(sl qj i84),(iU oM),(iI CG)]) H81) else (bif (gm==9) then (∃CH sI a89 i90 xJ uh,bO.aM i1 0 5=some [(iI CH),(iU sI),(sl a89 i90),(iI xJ),(iI uh)]/\CA en F.Oz [(pt mH),(.agg #[(iI CH),(iU sI),(sl a89 i90),(iI xJ),(iI uh)])] bO λZS Dy=>∃uj uH i97 xK CJ,ZS=(.agg #[(iI uj),(sl uH i97),(iU xK),(iI CJ)])/\aq Dy i3 0 [(iI uj),(sl uH i97),(iU xK),(iI CJ)] λyc=>∃xu wT i103 wv Cq,yc.aM i3 0 4=some [(iI xu),(sl wT i103),(iU wv),(iI Cq)]/\R (.agg #[(iI xu),(sl wT i103),(iU wv),(iI Cq)]) yc) else (bif (gm==6) then (∃Cr Cs uF i109 Ct xv,bO.aM i1 0 5=some [(iI Cr),(iU Cs),(sl uF i109),(iI Ct),(iI xv)]/\CA en F.aeF [(pt mH),(.agg #[(iI Cr),(iU Cs),(sl uF i109),(iI Ct),(iI xv)])] bO λZI Bm=>∃xw Bw i116 Cv t_,ZI=(.agg #[(iI xw),(sl Bw i116),(iU Cv),(iI t_)])/\aq Bm i3 0 [(iI xw),(sl Bw i116),(iU Cv),(iI t_)] λNF=>∃K_ Bx i122 Cw Ld,NF.aM i3 0 4=some [(iI K_),(sl Bx i122),(iU Cw),(iI Ld)]/\R (.agg #[(iI K_),(sl Bx i122),(iU Cw),(iI Ld)]) NF) else (bif (gm==7) then (∃Ay Le IQ i128 Ll Lm,bO.aM i1 0 5=some [(iI Ay),(iU Le),(sl IQ i128),(iI Ll),(iI Lm)]/\CA en F.aeF [(pt mH),(.agg #[(iI Ay),(iU Le),(sl IQ i128),(iI Ll),(iI Lm)])] bO λayR SZ=>∃Lo Bz i135 Lr Lt,ayR=(.agg #[(iI Lo),(sl Bz i135),(iU Lr),(iI Lt)])/\aq SZ i3 0 [(iI Lo),(sl Bz i135),(iU Lr),(iI Lt)] λaaP=>∃Cy abA i141 He Az,aaP.aM i3 0 4=some [(iI Cy),(sl abA i141),(iU He),(iI Az)]/\R (.agg #[(iI Cy),(sl abA i141),(iU He),(iI Az)]) aaP) else (bif (gm==8) then (∃aiR Lu abD i147 aiT Cz,bO.aM i1 0 5=some [(iI aiR),(iU Lu),(sl abD i147),(iI aiT),(iI Cz)]/\CA en F.aqx [(pt mH),(.agg #[(iI aiR),(iU Lu),(sl abD i147),(iI aiT),(iI Cz)])] bO λayY FL=>∃Lw abF i154 CB Lx,ayY=(.agg #[(iI Lw),(sl abF i154),(iU CB),(iI Lx)])/\aq FL i3 0 [(iI Lw),(sl abF i154),(iU CB),(iI Lx)] λNH=>∃Hf abG i160 CC aiX,NH.aM i3 0 4=some [(iI Hf),(sl abG i160),(iU CC),(iI aiX)]/\R (.agg #[(iI Hf),(sl abG i160),(iU CC),(iI aiX)]) NH) else (∃AA aiY abH i166 Lz LB,bO.aM i1 0 5=some [(iI AA),(iU aiY),(sl abH i166),(iI Lz),(iI LB)]/\CA en F.OD [(pt mH),(.agg #[(iI AA),(iU aiY),(sl abH i166),(iI Lz),(iI LB)])] bO λay3 am8=>∃LC IS i173 ai1 mu,ay3=(.agg #[(iI LC),(sl IS i173),(iU ai1),(iI mu)])/\aq am8 i3 0 [(iI LC),(sl IS i173),(iU ai1),(iI mu)] λaaS=>∃LD abI i179 LF Hg,aaS.aM i3 0 4=some [(iI LD),(sl abI i179),(iU LF),(iI Hg)]/\R (.agg #[(iI LD),(sl abI i179),(iU LF),(iI Hg)]) aaS)))))))))->
  CA en F.Jy [(pt x0),(iI x1),(.agg #[(iI qP),(iU qQ),(sl qR C5),(iI qS),(iI uz)])] H R:=vk (by kernel_rfl)
end
section
variable {H H' H0:aa} {R:Value->aa->Prop} {L:List ax} {A B:ax} {va:Option Addr} {y:Nat} {lb eb:Option Nat} {key val:BitVec 64}
structure Dk where
 kd:Int
 en:Int
 bk:Int
 jJ:Int
structure En where
 k:BitVec 64
 q:Nat
 w:BitVec 64
 el:Nat
structure Dm where
 es:List En
 vs:List (BitVec 64)
 lb:Option Nat
 eb:Option Nat
abbrev nj (e:En):List Value:=[W e.k,.slice (some ⟨e.q,0,none⟩) 1 0,I e.el]
abbrev j8 (es:List En):List (List Value):=es.map nj
abbrev lx (e:En):ax:=bx e.q (.cells true 1 [W e.w])
abbrev yE (y:Nat)(d:Dk)(D:Dm):ax:=bx y (.cells true 0 [I d.kd,I d.en,I 1,I d.bk,I d.jJ,.slice (addr D.lb) D.es.length 0,.slice (addr D.eb) D.vs.length 0])
abbrev lE (D:Dm):ax:=gl 3 D.lb (j8 D.es).flatten
abbrev vE (D:Dm):ax:=many (D.es.map lx)
abbrev xE (D:Dm):ax:=gl 1 D.eb (D.vs.map W)
structure Dm.Ok (d:Dk)(D:Dm):Prop where
 n1:D.lb=none->D.es=[]
 n2:D.eb=none->D.vs=[]
 le:D.es.length<=1000
 lv:D.vs.length<=1000000000
 el:∀e∈D.es,(d.kd=4/\1<=e.el/\e.el<=D.vs.length)∨(d.kd=10/\e.el=0)
variable {d:Dk} {D:Dm} {e:En}
theorem yv (es:List En):∀c∈j8 es,c.length=3:=by
 intro c hc;obtain ⟨q,_,rfl⟩:=cL.1 hc;rfl
theorem U1 (es:List En):(j8 es).flatten.length=es.length*3:=by rw [HJ _ (yv es),gb]
theorem U2 (es:List En)(e:En):(j8 (es++[e])).flatten=(j8 es).flatten++nj e:=by
 show ((es++[e]).map nj).flatten=(es.map nj).flatten++nj e;rw [fh,SD];simp
theorem glr {i w j k:Nat}{ow:Bool}{css:List (List Value)}{row:List Value}(h:Sep H L)(hk:L[k]? =some (bx i (.cells ow w css.flatten)))(hw:∀c∈css,c.length=w)(hj:css[j]? =some row):H.aM i (0+j*w) w=some row:=by
 have hr:=hw row (dF hj);have e:=RN hj;refine Ym (o:=0) (row:=row) (css:=css) h k (by rw [e];exact hk) hw hr (bJ.1 hj).1 ?_;unfold fm;rw [ar (by omega)];simp [<-hr]
theorem Gs {i w j k o:Nat}{ow:Bool}{css:List (List Value)}{row:List Value}{v:Value}(h:Sep H L)(hk:L[k]? =some (bx i (.cells ow w css.flatten)))(hw:∀c∈css,c.length=w)(hj:css[j]? =some row)(ho:row[o]? =some v):H.cell i (0+j*w+o)=some v:=by
 have e:=RN hj;exact fk (row:=row) (css:=css) h k (by rw [e];exact hk) hw (hw row (dF hj)) (bJ.1 hj).1 ho
theorem arj {α:Type}{qs:List α}{a j:Nat}{q:α}(hq:qs[j]? =some q)(h:j≠a):(qs.take (j+1)).eraseIdx a=(qs.take j).eraseIdx a++[q]:=by
 have hj:=(bJ.1 hq).1;have hl:(qs.take j).length=j:=by rw [km];omega
 rw [vC,hq];show (qs.take j++[q]).eraseIdx a=_;by_cases h1:a<j
 ·rw [List.eraseIdx_append_of_lt_length (by omega)]
 ·rw [Ng (by simp;omega),Ng (by omega)]
theorem U0 {α:Type}{qs:List α}{a:Nat}:(qs.take (a+1)).eraseIdx a=(qs.take a).eraseIdx a:=by
 rw [Ng (l:=qs.take a) (by rw [km];omega)];cases hq:qs[a]? with
 |none=>
  have hl:qs.length<=a:=List.getElem?_eq_none_iff.1 hq;rw [Nv (by omega),Nv (by omega),Ng (by omega)]
 |some q=>
  have hj:=(bJ.1 hq).1;have hl:(qs.take a).length=a:=by rw [km];omega
  rw [vC,hq];show (qs.take a++[q]).eraseIdx a=_;rw [List.eraseIdx_append_of_length_le (by omega),hl,x6];simp
theorem ari {α:Type}{qs:List α}{a j:Nat}(hj:j<=qs.length)(hb:qs.length<=1000):((qs.take j).eraseIdx a).length<=1000:=by
 have:=List.length_eraseIdx_le (qs.take j) a
 have h2:(qs.take j).length=j:=by rw [km];omega
 omega
theorem afg (o:D.Ok d)(h:Sep H (yE y d D::lE D::L))
  (h1:∀(i:Nat)(e:En),D.es[i]? =some e->e.k=key->(∀(j:Nat)(x:En),j<i->D.es[j]? =some x->x.k≠key)->R (I i) H)(h2:(∀x∈D.es,x.k≠key)->R (I (-1)) H) :
  CA en F.OC [P y,W key] H R:=by
 apply az5;refine ayw (λk t4 t5 H'=>H=H'/\∃j:Nat,j<=D.es.length/\k=D.es.length - j/\t5=(j:Int)/\∀x∈D.es.take j,x.k≠key) D.es.length ⟨rfl,0,h_ _,rfl,rfl,λx hx=>by simp at hx⟩ ?_;rintro k t4 t5 ys _ ⟨rfl,j,hj,rfl,rfl,fW⟩;refine af ⟨_,_,Sep.aG h rfl,aI (λz=>?_) λz=>?_⟩
 ·have z:j<D.es.length:=by have:=ga z;omega
  have⟨e,he⟩:∃e,D.es[j]? =some e:=⟨_,cM z⟩;have⟨b,hb⟩:∃b,D.lb=some b:=by
   cases hb:D.lb with
   |none=>have:=o.n1 hb;rw [this] at z;simp at z
   |some b=>exact ⟨b,rfl⟩
  have ht:D.es.take (j+1)=D.es.take j++[e]:=by rw [vC,he];rfl
  have hg:Sep H (lE D::yE y d D::L):=Sep.iE h;unfold lE at hg;rw [hb] at hg;refine af ⟨_,_,Sep.aG h rfl,⟨by omega,by omega⟩,?_⟩;rw [hb];refine bG ⟨_,by rw [dr];exact Gs (o:=0) (dN.1 hg) (k:=0) rfl (yv _) (by rw [jg,he];rfl) rfl,aI (λw=>?_) λw=>?_⟩
  ·have w:e.k=key:=by
    have w:(e.k.toNat:Int)=(key.toNat:Int):=by simpa using w
    exact tf (by omega)
   exact h1 j e he w λi x hi hx=>fW x (dF (i:=i) (by rw [Be,ar hi];exact hx))
  ·have w:e.k≠key:=λe2=>by rw [e2] at w;simp at w
   refine ⟨D.es.length - (j+1),by omega,rfl,j+1,z,rfl,by rw [wrap_i64 (by have:=o.le;omega)];omega,λx hx=>?_⟩;rw [ht] at hx;rcases dV.1 hx with hx|hx
   ·exact fW x hx
   ·simp only [fo] at hx;subst hx;exact w
 ·have z:j=D.es.length:=by have:=fQ z;omega
  subst z;rw [wM] at fW;exact wZ (h2 fW)
def kS (D:Dm)(e:En):BitVec 64:=if 0<e.el then D.vs.getD (e.el - 1) 0 else e.w
theorem ag1 (o:D.Ok d)(h:Sep H (yE y d D::lE D::vE D::xE D::L))(nr:e.el<=D.vs.length)(ra:lO (yE y d D::lE D::vE D::xE D::L) (some ⟨e.q,0,none⟩) [e.w])
  (hR:∀H' g,Sep H' (gl 1 (some g) (bS [kS D e])::yE y d D::lE D::vE D::xE D::L)->R (.slice (some ⟨g,0,none⟩) 1 0) H') :
  CA en F.OG [P y,.agg #[W e.k,.slice (some ⟨e.q,0,none⟩) 1 0,I e.el]] H R:=by
 apply aAc;have wc:=o.lv;refine Sep.nw h λi1 H2 h2=>⟨_,Sep.aG h2 rfl,aI (λz=>?_) λz=>?_⟩
 ·have z:0<e.el:=by have:=ga z;omega
  have hB:=h2.ae 11;have ew:IntKind.i64.wrap ((e.el:Int) - 1)=((e.el - 1:Nat):Int):=by rw [wrap_i64 (by omega)];omega
  have⟨b,hb⟩:∃b,D.eb=some b:=by
   cases hb:D.eb with
   |none=>have:=o.n2 hb;rw [this] at nr;simp at nr;omega
   |some b=>exact ⟨b,rfl⟩
  have⟨v,hv⟩:∃v,D.vs[e.el - 1]? =some v:=⟨_,cM (by omega)⟩;have hg:Sep (H2.ae 11) (xE D::_):=Sep.wG hB;unfold xE at hg;rw [hb] at hg;have hg:=dN.1 hg;refine af ⟨_,_,Sep.bn hB rfl,_,Sep.aG hB rfl,?_⟩;rw [ew,hb];refine ⟨⟨by omega,by omega⟩,bG ⟨v.toNat,Sep.aG hg (by rw [dr,cG,ou,jg,hv];rfl),Sep.nw hB λg cE gP=>⟨?_,trivial⟩⟩⟩;refine hR cE g (dN.2 ?_);have ed:kS D e=v:=by unfold kS;rw [ar z,gu,hv];rfl
  rw [ed];exact Sep.AL gP
 ·have z:¬0<e.el:=by have:=fQ z;omega
  have ed:kS D e=e.w:=by unfold kS;rw [an z]
  refine ⟨_,_,Sep.aG h2 rfl,Ny h2 ra.MF rfl (by show 1<1000000000;decide) λaQ g hg g_=>⟨_,_,rfl,?_⟩⟩;cases g with
  |none=>cases hg rfl
  |some g=>
   refine hR aQ g ?_;rw [ed];exact Sep.AL g_
theorem aiy {α β:Type}(f:α->β):∀(l:List α)(k:Nat),(l.map f).eraseIdx k=(l.eraseIdx k).map f
 |[],k=>by simp
 |x::l,0=>rfl
 |x::l,k+1=>hZ (f x::·) (aiy f l k)
def Dm.cut (D:Dm)(a:Nat)(tX:Option Nat):Dm:={D with es:=D.es.eraseIdx a,lb:=tX}
theorem agr {a:Nat}(o:D.Ok d)(h:Sep H (yE y d D::lE D::vE D::xE D::L))(Pu:D.es[a]? =some e)
  (hR:∀H' tX,(D.cut a tX).Ok d->Sep H' (yE y d (D.cut a tX)::lE (D.cut a tX)::vE (D.cut a tX)::xE (D.cut a tX)::lx e::L)->R undef H') :
  CA en F.Gc [P y,I a] H R:=by
 apply az6;have⟨es,vs,lb,eb⟩:=D;have⟨n1,n2,le,lv,el⟩:=o;have n1:lb=none->es=[]:=n1;have le:es.length<=1000:=le;have Pu:es[a]? =some e:=Pu;have ha:a<es.length:=(bJ.1 Pu).1;obtain ⟨b,rfl⟩:∃b,lb=some b:=by
  cases lb with
  |none=>have:=n1 rfl;subst this;simp at ha
  |some b=>exact ⟨b,rfl⟩
 have h0:Sep H (gl 3 none (j8 ((es.take 0).eraseIdx a)).flatten::yE y d ⟨es,vs,some b,eb⟩::bx b (.cells true 3 (j8 es).flatten)::vE ⟨es,vs,some b,eb⟩::xE ⟨es,vs,some b,eb⟩::L):=kx.2 (Sep.pick (dN.1 (Sep.iE h)) 4 [1,0,2,3]);refine ayx (λk g n t H'=>∃(j:Nat)(o:Option Nat),j<=es.length/\k=es.length - j/\t=(j:Int)/\g=addr o/\n=((es.take j).eraseIdx a).length/\(o=none->(es.take j).eraseIdx a=[])/\
  Sep H' (gl 3 o (j8 ((es.take j).eraseIdx a)).flatten::yE y d ⟨es,vs,some b,eb⟩::bx b (.cells true 3 (j8 es).flatten)::vE ⟨es,vs,some b,eb⟩::xE ⟨es,vs,some b,eb⟩::L)) es.length ⟨0,none,h_ _,rfl,rfl,rfl,by simp,λ_=>by simp,h0⟩ ?_
 clear h0 h;rintro k g n t ys H ⟨j,o,hj,rfl,rfl,rfl,rfl,ho,h⟩;refine af ⟨_,_,Sep.bn h rfl,aI (λz=>?_) λz=>?_⟩
 ·have z:j<es.length:=by
   have z:(j:Int)<(es.length:Int):=ga z;omega
  have⟨q,hq⟩:∃q,es[j]? =some q:=⟨_,cM z⟩;have ew:IntKind.i64.wrap ((j:Int)+1)=((j+1:Nat):Int):=by rw [wrap_i64 (by omega)];omega
  refine aI (λz2=>?_) λz2=>?_
  ·have z2:j≠a:=by
    have:(j:Int)≠(a:Int):=by simpa using z2
    omega
   refine af ⟨_,_,Sep.bn h rfl,(by show az (j:Int) es.length;unfold az;omega),bG ⟨_,_,_,_,by rw [dr];exact glr (row:=nj q) h (k:=2) rfl (yv _) (by rw [jg,hq];rfl),?_⟩⟩;refine Sep.nw h λi15 gC iJ=>⟨nj q,oO (es:=3) (Sep.gL iJ) (by decide) rfl,?_⟩
   have nr:=ari (a:=a) hj le;refine qo (b:=o) (cs:=(j8 ((es.take j).eraseIdx a)).flatten) (new:=nj q) (Sep.iE iJ) (λe=>by rw [ho e];rfl) (by decide) (U1 _) (by decide) rfl (by omega) λbu q' fV=>?_
   have e1:=arj hq z2;refine ⟨es.length - (j+1),by omega,j+1,some q',z,rfl,ew,rfl,(by rw [e1,e_];rfl),(λe=>by cases e),?_⟩;have e2:(j8 ((es.take (j+1)).eraseIdx a)).flatten=(j8 ((es.take j).eraseIdx a)).flatten++nj q:=by
    rw [e1,U2]
   rw [e2];exact Sep.pick fV 6 [0,2,3,4,5]
  ·have z2:j=a:=by
    have:(j:Int)=(a:Int):=by simpa using z2
    omega
   subst z2;refine ⟨es.length - (j+1),by omega,j+1,o,z,rfl,ew,rfl,by rw [U0],λe=>by rw [U0];exact ho e,?_⟩;rw [U0];exact h
 ·have z:j=es.length:=by
   have z:¬(j:Int)<(es.length:Int):=fQ z;omega
  subst z;rw [wM] at ho h⊢;refine T8 (af (Sep.lK h (aS rfl) λH7 h7=>hR H7 o ⟨ho,n2,?_,lv,λe he=>el e (List.mem_of_mem_eraseIdx he)⟩ ?_))
  ·have:=List.length_eraseIdx_le es a
   show (es.eraseIdx a).length<=1000;omega
  ·have h8:=Q4 (k:=a) (A:=lx e) (by rw [jg,Pu];rfl) (Sep.pick h7 5 [3,0,1,2,4]);have e8:(es.map lx).eraseIdx a=(es.eraseIdx a).map lx:=aiy _ _ _;have h8:Sep H7 (lx e::many ((es.map lx).eraseIdx a)::_):=h8;rw [e8] at h8;exact Sep.pick h8 6 [3,2,1,5,0]
def Dm.lay (D:Dm)(d:Dk)(k:BitVec 64)(q:Nat)(w:BitVec 64)(b:Nat)(sk:Option Nat):Dm:=
 if d.kd=4 then ⟨D.es++[⟨k,q,w,D.vs.length+1⟩],D.vs++[w],some b,sk⟩ else ⟨D.es++[⟨k,q,w,0⟩],D.vs,some b,sk⟩
theorem atm (hk:d.kd=4∨d.kd=10)(o:D.Ok d)(h:Sep H (yE y d D::lE D::vE D::xE D::L))(hb:D.es.length<1000)(hv:D.vs.length<1000000000)(ra:∀L,old H0∈L->lO L va [val])(ho:old H0∈L)
  (hR:∀H' q b sk,(D.lay d key q val b sk).Ok d->Sep H' (yE y d (D.lay d key q val b sk)::lE (D.lay d key q val b sk)::vE (D.lay d key q val b sk)::xE (D.lay d key q val b sk)::L)->R undef H') :
  CA en F.OE [P y,W key,.slice va 1 0] H R:=by
 apply az8;have⟨es,vs,lb,eb⟩:=D;have⟨n1,n2,le,lv,el⟩:=o;have n1:lb=none->es=[]:=n1;have n2:eb=none->vs=[]:=n2;have hb:es.length<1000:=hb;have hv:vs.length<1000000000:=hv;refine Ny h (ra _ (by simp [ho])) rfl (by show 1<1000000000;decide) λH2 q hq h2=>⟨_,_,rfl,?_⟩
 obtain ⟨q,rfl⟩:∃v,q=some v:=by
  cases q with
  |none=>cases hq rfl
  |some v=>exact ⟨v,rfl⟩
 refine Sep.nw h2 λi5 H6 h6=>Sep.dp h6 (aS rfl) λH7 h7=>?_
 refine af ⟨_,Sep.eK h7 rfl,?_⟩;have Cf:∀(H:aa)(L:List ax),AS.Sep H L->old H0∈L->∃i,va=some ⟨i,0,none⟩/\H.cell i 0=some (W val):=λH L hs hm=>by
  have⟨i,e1,e2⟩:=ra L hm H hs 0 val rfl;exact ⟨i,e1,e2⟩
 have elr:(vs++[val]).length=vs.length+1:=by simp
 rcases hk with hk|hk
 ·refine cm (by rw [hk];rfl) ?_;have hB:=h7.ae 13;obtain ⟨iv,rfl,Kf⟩:=Cf _ _ hB (by simp [ho]);have nr:(vs.map W).length=vs.length*1:=by rw [gb,ou]
  refine af ⟨_,_,Sep.eK hB rfl,⟨by decide,by decide⟩,bG ⟨_,Kf,Sep.nw hB λi18 bf gy=>⟨[W val],oO (es:=1) (Sep.gL gy) (by decide) rfl,?_⟩⟩⟩;refine qo (b:=eb) (cs:=vs.map W) (new:=[W val]) (Sep.Fh gy) (λe=>by rw [n2 e];rfl) (by decide) nr (by decide) rfl (by omega) λaZ sk rl=>?_
  refine af (Sep.y_ rl (aS rfl) λeC tK=>⟨?_,⟨⟨_,_,Sep.eK hB rfl,rfl,rfl,rfl⟩,⟨_,_,Sep.iV gy rfl,rfl,rfl,rfl⟩,trivial⟩,trivial⟩);refine af ⟨_,_,Sep.lD tK rfl,Sep.E_ tK (aS rfl) λjk vU=>?_⟩;have hC:=vU.ae 11;refine af ⟨_,_,Sep.lD hC rfl,_,_,_,_,Sep.yT hC rfl,Sep.nw hC λi44 dw nW=>⟨nj ⟨key,q,val,vs.length+1⟩,oO (es:=3) (Sep.gL nW) (by decide) rfl,?_⟩⟩;refine qo (b:=lb) (cs:=(j8 es).flatten) (new:=nj ⟨key,q,val,vs.length+1⟩) (Sep.Fh nW) (λe=>by rw [n1 e];rfl) (by decide) (U1 _) (by decide) rfl (by omega) λjl b xg=>?_
  refine af (Sep.HS xg (aS rfl) λdW su=>⟨?_,⟨⟨_,_,Sep.lD hC rfl,rfl,rfl,rfl⟩,⟨_,_,Sep.iL nW rfl,rfl,rfl,rfl⟩,trivial⟩,trivial⟩);have eD:Dm.lay ⟨es,vs,lb,eb⟩ d key q val b (some sk)=⟨es++[⟨key,q,val,vs.length+1⟩],vs++[val],some b,some sk⟩:=ar hk;refine hR dW q b (some sk) ?_ ?_
  ·rw [eD];refine ⟨λe=>(by cases e),λe=>(by cases e),by show (es++[_]).length<=1000;simp;omega,by show (vs++[val]).length<=1000000000;omega,λe he=>?_⟩;rcases dV.1 he with he|he
   ·rcases el e he with ⟨g1,g2,g3⟩|g
    ·exact .inl ⟨g1,g2,by show e.el<=(vs++[val]).length;have:e.el<=vs.length:=g3;omega⟩
    ·exact .inr g
   ·simp only [fo] at he;subst he;exact .inl ⟨hk,by show 1<=vs.length+1;omega,by show vs.length+1<=(vs++[val]).length;omega⟩
  ·rw [eD];have eL:(j8 (es++[(⟨key,q,val,vs.length+1⟩:En)])).flatten=(j8 es).flatten++nj ⟨key,q,val,vs.length+1⟩:=U2 _ _;have eX:(vs++[val]).map W=vs.map W++[W val]:=by rw [fh];rfl
   have eV:(es++[(⟨key,q,val,vs.length+1⟩:En)]).map lx=es.map lx++[lx ⟨key,q,val,vs.length+1⟩]:=by rw [fh];rfl
   have eN:(es++[(⟨key,q,val,vs.length+1⟩:En)]).length=es.length+1:=by simp
   show Sep dW (bx y (.cells true 0 [I d.kd,I d.en,I 1,I d.bk,I d.jJ,.slice (addr (some b)) (es++[(⟨key,q,val,vs.length+1⟩:En)]).length 0,.slice (addr (some sk)) (vs++[val]).length 0])::gl 3 (some b) (j8 (es++[(⟨key,q,val,vs.length+1⟩:En)])).flatten::many ((es++[(⟨key,q,val,vs.length+1⟩:En)]).map lx)::gl 1 (some sk) ((vs++[val]).map W)::L);rw [eL,eX,eV,eN,elr];have uU:=Sep.pick su 8 [5,7,6,0,2];have JS:=aiI (B:=lx ⟨key,q,val,vs.length+1⟩) (dN.1 uU);exact Sep.pick JS 4 [1,2,0,3]
 ·refine bl (by rw [hk];rfl) (af ⟨_,Sep.eK h7 rfl,bl (by rw [hk];rfl) ?_⟩);have hC:=h7.ae 11;refine af ⟨_,_,Sep.eK hC rfl,_,_,_,_,Sep.jK hC rfl,Sep.nw hC λi44 dw nW=>⟨nj ⟨key,q,val,0⟩,oO (es:=3) (Sep.gL nW) (by decide) rfl,?_⟩⟩;refine qo (b:=lb) (cs:=(j8 es).flatten) (new:=nj ⟨key,q,val,0⟩) (Sep.wG nW) (λe=>by rw [n1 e];rfl) (by decide) (U1 _) (by decide) rfl (by omega) λjl b xg=>?_
  refine af (Sep.y_ xg (aS rfl) λdW su=>⟨?_,⟨⟨_,_,Sep.eK hC rfl,rfl,rfl,rfl⟩,⟨_,_,Sep.iV nW rfl,rfl,rfl,rfl⟩,trivial⟩,trivial⟩);have eD:Dm.lay ⟨es,vs,lb,eb⟩ d key q val b eb=⟨es++[⟨key,q,val,0⟩],vs,some b,eb⟩:=an (by rw [hk];decide);refine hR dW q b eb ?_ ?_
  ·rw [eD];refine ⟨λe=>(by cases e),n2,by show (es++[_]).length<=1000;simp;omega,lv,λe he=>?_⟩;rcases dV.1 he with he|he
   ·exact el e he
   ·simp only [fo] at he;subst he;exact .inr ⟨hk,rfl⟩
  ·rw [eD];have eL:(j8 (es++[(⟨key,q,val,0⟩:En)])).flatten=(j8 es).flatten++nj ⟨key,q,val,0⟩:=U2 _ _;have eV:(es++[(⟨key,q,val,0⟩:En)]).map lx=es.map lx++[lx ⟨key,q,val,0⟩]:=by rw [fh];rfl
   have eN:(es++[(⟨key,q,val,0⟩:En)]).length=es.length+1:=by simp
   show Sep dW (bx y (.cells true 0 [I d.kd,I d.en,I 1,I d.bk,I d.jJ,.slice (addr (some b)) (es++[(⟨key,q,val,0⟩:En)]).length 0,.slice (addr eb) vs.length 0])::gl 3 (some b) (j8 (es++[(⟨key,q,val,0⟩:En)])).flatten::many ((es++[(⟨key,q,val,0⟩:En)]).map lx)::gl 1 eb (vs.map W)::L);rw [eL,eV,eN];have uU:=Sep.pick su 7 [3,5,4,0,6];have JS:=aiI (B:=lx ⟨key,q,val,0⟩) (dN.1 uU);exact Sep.pick JS 4 [1,2,0,3]
end
end Go.Proofs.YtjggeoghlicmdaaGreat
