/-
  lruRuns.proved: the statement holds, whatever the arguments, the memory and the tape. No condition.
  Written by a program out of the texts LrLaw LruRunsProof.
-/
import Derived.Test.YtjggeoghlicmdaaGreatLruRunsP9
import Derived.Test.YtjggeoghlicmdaaGreatRows
import Derived.WalkKit
import Derived.ProofKit
import Derived.OpenShut
import Derived.SizedLaws
set_option linter.unusedVariables false
namespace Go.Proofs.YtjggeoghlicmdaaGreat
open Go Go.AS Go.RowKit
section
variable {H H' H0:Heap} {R:Value->Heap->Prop} {L:List Asr} {c:Lc} {z:Sd} {k n:Nat} {ll:List (List Deed)} {ps ps':List Ph} {Ks Ks':List Kb} {Q Q':List Nat} {la:Option Addr} {m:Nat} {d:Dc}
def Ext16 (H0 H1:Heap):Prop:=∀i,i<H0.next->i<H1.next/\H1.get i=H0.get i
theorem ext16_new (H0:Heap)(o:AS.Obj):Ext16 H0 (H0.new o):=λi h=>⟨by rw [next_new];omega,by rw [get_new,if_neg (by omega)]⟩
theorem Ext16.trans {H0 H1 H2:Heap}(h:Ext16 H0 H1)(k:Ext16 H1 H2):Ext16 H0 H2:=λi hi=>⟨(k i (h i hi).1).1,(k i (h i hi).1).2.trans (h i hi).2⟩
theorem OldS.ext16 {H1:Heap}{a:Option Addr}{n:Nat}{css:List (List Value)}(e:Ext16 H0 H1)(o:OldS H0 a n css):OldS H1 a n css:=
 ⟨o.1,o.2.imp_right λ⟨i,h1,h2,h3⟩=>⟨i,h1,(e i h2).1,by rw [(e i h2).2];exact h3⟩⟩
theorem DeedsLL.ext16 {H1:Heap}{a:Option Addr}{n:Nat}{ll:List (List Deed)}(e:Ext16 H0 H1)(o:DeedsLL H0 a n ll):DeedsLL H1 a n ll:=by
 have⟨css,h1,h2,h3⟩:=o.ex;refine ⟨o.len,css,OldS.ext16 e h1,h2,λk l hk=>?_⟩;obtain ⟨c,h4,a',n',rfl,h5⟩:=h3 k l hk;have⟨css',h6,h7,h8⟩:=h5.ex;refine ⟨_,h4,a',n',rfl,h5.len,css',OldS.ext16 e h6,h7,λj x hx=>?_⟩;obtain ⟨c,h9,a2,n2,rfl,h10⟩:=h8 j x hx;exact ⟨_,h9,a2,n2,rfl,OldS.ext16 e h10⟩
theorem cc_le {E:Nat}(h:E<=64):Cc E<=9184/\Cc E<=(2*E+6)*(10*E+70):=by
 have h1:(E+2)*(2*E+11)<=66*139:=Nat.mul_le_mul (by omega) (by omega);have h2:(E+2)*(2*E+11)<=(E+2)*(10*E+70):=Nat.mul_le_mul_left _ (by omega);have h3:(2*E+6)*(10*E+70)=(E+2)*(10*E+70)+(E+4)*(10*E+70):=by rw [<-Nat.add_mul];congr 1;omega
 have h4:4*70<=(E+4)*(10*E+70):=Nat.mul_le_mul (by omega) (by omega);show (E+2)*(2*E+11)+10<=9184/\(E+2)*(2*E+11)+10<=_;omega
theorem phi_new {E:Nat}:∀(ll:List (List Deed))(m:Nat),m<=ll.length->sumTo (potk E ll (List.replicate ll.length .out) (List.replicate ll.length kb0)) m=totD (ll.take m)*Cc E
 |ll,0,_=>by simp [sumTo,totD]
 |ll,m+1,h=>by
  have hm:m<ll.length:=by omega
  show sumTo _ m+potk E ll _ _ m=_;rw [phi_new ll m (by omega),List.take_succ_eq_append_getElem hm,totD_snoc,Nat.add_mul]
  congr 1
  unfold potk;rw [List.getElem?_replicate,if_pos hm,List.getElem?_replicate,if_pos hm,List.getElem?_eq_getElem hm];show 0+(ll[m].length - (0:Int).toNat)*Cc E=_;rw [Nat.zero_add];rfl
theorem rounds16_s {i:Nat}{E y:Int}(hE:1<=E/\E<=64)(h:Sep H (bx i (.cells true 5 [I 5,I E,I 1,I 0,I 0])::L))(hy:0<=y/\y<=100000)(hR:∀H',Sep H' L->R (I (4*(y+1)*(10*E+70))) H') :
  CA en F.crossbarkit_Rounds [.slice (some ⟨i,0,none⟩) 1 0,I y] H R:=by
 apply vc_crossbarkit_Rounds;have w1:IntKind.i64.wrap ((IntKind.i64.wrap ((IntKind.i64.wrap (10*E))+(IntKind.i64.wrap (10*0))))+70)=10*E+70:=by
  rw [wrap_i64 (n:=10*E) (by omega),wrap_i64 (n:=10*0) (by omega),wrap_i64 (n:=10*E+10*0) (by omega),wrap_i64 (by omega)];omega
 refine use_crossbarkit_Rounds_0 (λk' t5 t6 H'=>((k'=1/\t5=70/\t6=0)∨(t5=10*E+70/\k'=0/\t6=1))/\Sep H' (bx i (.cells true 5 [I 5,I E,I 1,I 0,I 0])::L)) 1 ⟨.inl ⟨rfl,rfl,rfl⟩,h⟩ ?_;clear h;rintro k' t5 t6 ys H3 ⟨hc,h3⟩;have hB:=h3.bump 17;rcases hc with ⟨rfl,rfl,rfl⟩|⟨rfl,rfl,rfl⟩
 ·refine cond_yes rfl ⟨⟨by decide,by decide⟩,asRow_in ⟨_,Sep.ld0 hB rfl,⟨by decide,by decide⟩,asRow_in ⟨_,Sep.ld0 hB rfl,⟨0,by decide,.inr ⟨?_,rfl,rfl⟩,hB⟩,trivial⟩⟩⟩;rw [w1,if_pos (by omega)]
 ·refine cond_no rfl (asInt_in ?_);rw [wrap_i64 (n:=y+1) (by omega),wrap_i64 (n:=4*(y+1)) (by omega)];have hmul:4*(y+1)*(10*E+70)<=400004*1030:=Int.mul_le_mul (by omega) (by omega) (by omega) (by omega);have hmul0:0<=4*(y+1)*(10*E+70):=Int.mul_nonneg (by omega) (by omega);rw [wrap_i64 (by omega)];exact hR H3 h3.tail
theorem most_le {E t:Nat}(h:E<=64):t*Cc E<=4*(t*(2*E+6)+1)*(10*E+70):=by
 have h1:=(cc_le h).2;have h2:t*Cc E<=t*((2*E+6)*(10*E+70)):=Nat.mul_le_mul_left _ h1;rw [<-Nat.mul_assoc] at h2;refine Nat.le_trans h2 (Nat.mul_le_mul_right _ ?_);omega
theorem St.at' {ps:List Ph}{Ks:List Kb}{Q:List Nat}{sv:Wd}{hs:List Int}{D:Dq}{la:List El}{X:Gx}{u:Su}{AB:List Asr}(s:St H0 c z ps Ks Q sv hs D la X u AB H)(h:Sep H' (bx z.ab (.cells true 24 (Ks.map Kb.cells).flatten)::sB c z u::y16 z.y z.d u.lb u.wb D::l16 u.lb D::w16 u.wb D::pzA hs u::pzB u::xA c::grA c.g c.m X::many AB::[old H0])):St H0 c z ps Ks Q sv hs D la X u AB H':=
 ⟨s.len,s.dz,s.w,s.ok,s.pz,s.ag,h⟩
set_option maxHeartbeats 1000000 in
theorem LruRuns_ok {pa:Option Addr}{pn:Nat}{ts:List Int}{room:Int}(o0:DeedsLL H0 la n ll)(hl:∀l∈ll,l.length<=140737488355328)(hnb:n<=140737488355328)(hp0:OldS H0 pa pn (ts.map λv=>[I v])) :
  CA en F.crossbarlaw16_LruRuns [.agg #[I d.kind,I d.entries,I d.words,I d.buckets,I d.inner],.slice la n 0,.agg #[.slice pa pn 0,I room]] H0 λv _=>v=.bool true:=by
 apply vc_crossbarlaw16_LruRuns;refine Sep.nwx' (Sep.start H0) λh2=>Sep.nwx' h2 λh4=>?_
 have ex:=(ext16_new H0 (.cells true 0 [I d.kind,I d.entries,I d.words,I d.buckets,I d.inner])).trans (ext16_new _ (.cells true 0 [.slice pa pn 0,I room]));have o:=o0.ext16 ex;have hp:=OldS.ext16 ex hp0;have g1:=Sep.get1 h4;have g3:=Sep.get0 h4;have n1:=(Sep.up1 h4).footlt (i:=H0.next) (by simp [bx]);have n3:=h4.footlt (i:=(H0.new (.cells true 0 [I d.kind,I d.entries,I d.words,I d.buckets,I d.inner])).next) (by simp [bx]);generalize ((H0.new (.cells true 0 [I d.kind,I d.entries,I d.words,I d.buckets,I d.inner])).new (.cells true 0 [.slice pa pn 0,I room]))=H1 at *;generalize (H0.new (.cells true 0 [I d.kind,I d.entries,I d.words,I d.buckets,I d.inner])).next=i3 at *;generalize H0.next=i1 at *;have hs:=Sep.start H1;clear h2 h4 ex o0 hp0;have rd1:∀{H':Heap}{L:List Asr},Sep H' L->old H1∈L->H'.get i1=some (.cells true 0 [I d.kind,I d.entries,I d.words,I d.buckets,I d.inner]):=λh hm=>old_get h hm n1 g1
 have rd3:∀{H':Heap}{L:List Asr},Sep H' L->old H1∈L->H'.get i3=some (.cells true 0 [.slice pa pn 0,I room]):=λh hm=>old_get h hm n3 g3
 have hln:=o.len;have hpn:=hp.len;rw [List.length_map] at hpn;refine ⟨_,_,_,_,_,(cellsAt_of g1 (o:=0) (n:=5)).trans rfl,_,_,(cell_of g3 0).trans rfl,?_⟩;refine big16_s o hl hnb hs (by simp) (λH13 h13=>⟨_,rfl,cond_yes rfl (CA_truth (by kernel_rfl) ⟨_,rfl,rfl⟩)⟩) λhc hk hn htot hpl H13 h13=>⟨_,rfl,cond_no rfl ?_⟩
 have⟨hE1,hE2,ed⟩:=chk16 hc hk;refine ⟨_,_,_,_,_,(cellsAt_of (rd1 h13 (by simp)) (o:=0) (n:=5)).trans rfl,_,(cell_of (rd3 h13 (by simp)) 1).trans rfl,?_⟩;generalize hEE:d.entries=E at *;subst ed;refine begin16_s ⟨hE1,hE2⟩ hn h13 λH25 c z u X AB ec en' ela ebase w0 s0=>⟨_,rfl,cond_no rfl ?_⟩
 have hlen2:∀l∈ll,l.length<=1000:=λl hm=>by have:=totD_le hm;omega
 have eE:Ee c=E.toNat:=by unfold Ee;rw [ec]
 have hcc:=cc_le (E:=Ee c) (by omega);have ephi:Phi c ll (List.replicate n .out) (List.replicate n kb0) z.n=totD ll*Cc (Ee c):=by
  show sumTo _ z.n=_;rw [en',hln,phi_new ll ll.length (Nat.le_refl _),List.take_length]
 have hphi:totD ll*Cc (Ee c)<=80*9184:=Nat.mul_le_mul htot hcc.1;have Y0:Pst H1 c z ll (List.replicate n .out) (List.replicate n kb0) [] 0 (totD ll*Cc (Ee c)+1) H25:=by
  refine ⟨by rw [ela,en'];exact o,by rw [en'];exact hln.symm,hlen2,by omega,λj p hj=>by rw [rep_get hj];exact ⟨(λe=>by cases e),(λq e=>by cases e)⟩,λj a l hj hl=>?_,0,[],⟨[],[]⟩,[],X,u,AB,s0,?_,?_,?_,?_,?_⟩
  ·obtain ⟨_,rfl⟩:=List.mem_replicate.1 (List.mem_of_getElem? hj);exact ⟨0,rfl,Nat.zero_le _⟩
  ·rw [w0.ins];intro a h;simp at h
  ·rw [w0.count];decide
  ·rw [w0.count];decide
  ·rw [w0.made,ephi];omega
  ·rw [ephi];simp
 clear s0 w0 h13;refine use_crossbarlaw16_LruRuns_0 (λk t6 t8 H'=>∃(j:Nat)(ps:List Ph)(Ks:List Kb)(Q:List Nat),j<=pn/\k=pn - j/\t8=(j:Int)/\Pst H1 c z ll ps Ks Q (j:Int) (totD ll*Cc (Ee c)+1) H'/\Phi c ll ps Ks z.n<=totD ll*Cc (Ee c)) pn ⟨0,_,_,_,Nat.zero_le _,rfl,rfl,Y0,by rw [ephi];exact Nat.le_refl _⟩ ?_;clear Y0;rintro k t6 t8 ys H3 ⟨j,ps,Ks,Q,hj,rfl,rfl,Y,hph⟩;have⟨hsX,hmX⟩:∃L,Sep H3 L/\old H1∈L:=by
  have⟨sv,hs,D,la,X,u,AB,s,_⟩:=Y.ex;exact ⟨_,s.sep,by simp⟩
 have hsep:=hmX.1;have hmem:=hmX.2;refine ⟨_,_,(cell_of (rd3 hsep hmem) 0).trans rfl,cond_of (λhlt=>?_) λhlt=>?_⟩
 ·have hlt:j<pn:=by have:=of_decide_eq_true hlt;omega
  have⟨v,hv⟩:∃v,ts[j]? =some v:=⟨_,List.getElem?_eq_getElem (by omega)⟩;have⟨i,epa,e1⟩:=hp.cell0 (w:=1) hsep hmem (λc hc=>by obtain ⟨v,_,rfl⟩:=List.mem_map.1 hc;rfl) (j:=j) (r:=[I v]) (by rw [List.getElem?_map,hv];rfl) rfl;refine ⟨_,_,(cell_of (rd3 hsep hmem) 0).trans rfl,by unfold inB;omega,?_⟩;rw [epa];refine asRow_in ⟨_,e1,Pick_ok (by omega) (by omega) ⟨_,rfl,?_⟩⟩;have q1:=Int.emod_nonneg v (b:=(n:Int)) (by omega);have q2:=Int.emod_lt_of_pos v (b:=(n:Int)) (by omega);have⟨q,hq⟩:∃q:Nat,v % (n:Int)=(q:Int):=⟨(v % (n:Int)).toNat,by omega⟩;rw [hq];refine pst_step Y (by rw [en'];omega) (by omega) λH' ps' Ks' Q' Y' g=>⟨_,rfl,cond_no rfl ⟨pn - (j+1),by omega,j+1,ps',Ks',Q',by omega,rfl,by rw [wrap_i64 (by omega)];omega,Y',?_⟩⟩
  rcases g.pro with h|h<;>omega
 ·refine asBool_in ?_;refine use_crossbarlaw16_LruRuns_1 (λk t9 t10 H'=>∃j':Nat,j'<=ll.length/\k=ll.length - j'/\t10=(j':Int)/\t9=(totD (ll.take j'):Int)/\H'=H3) ll.length ⟨0,by omega,rfl,rfl,by simp [totD],rfl⟩ ?_;rintro k' t9 t10 ys2 _ ⟨j',hj',rfl,rfl,rfl,rfl⟩;refine cond_of (λw=>?_) λw=>?_
  ·have w:j'<ll.length:=by have:=of_decide_eq_true w;omega
   have⟨i,a',n',ela2,e1,o'⟩:=o.at' hsep hmem (List.getElem?_eq_getElem w);have e:totD (ll.take (j'+1))=totD (ll.take j')+n':=by rw [List.take_succ_eq_append_getElem w,totD_snoc,o'.len]
   have hle:totD (ll.take (j'+1))<=totD ll:=by
    have:totD ll=totD (ll.take (j'+1))+totD (ll.drop (j'+1)):=by
     unfold totD;rw [<-List.sum_append,<-List.map_append,List.take_append_drop]
    omega
   refine ⟨by unfold inB;omega,?_⟩;rw [ela2];exact asRow_in ⟨_,_,e1,ll.length - (j'+1),by omega,j'+1,by omega,rfl,by rw [wrap_i64 (by omega)];omega,by rw [wrap_i64 (by omega)];omega,rfl⟩
  ·have w:j'=ll.length:=by have:=of_decide_eq_false w;omega
   subst w;rw [List.take_length];refine asInt_in ⟨_,_,_,_,_,(cellsAt_of (rd1 hsep hmem) (o:=0) (n:=5)).trans rfl,?_⟩;have⟨sv,hs5,D,la5,X,u,AB,s,e1,e2,e3,e4,e5⟩:=Y.ex;refine Sep.nw s.sep λi38 H39 h39=>⟨_,(cell_of (rd1 h39.tail (by simp)) 1).trans rfl,?_⟩
   have hEn:E=((Ee c:Nat):Int):=by omega
   have hm1:totD ll*(2*Ee c+6)<=80*134:=Nat.mul_le_mul htot (by omega);have ewy:IntKind.i64.wrap ((totD ll:Int)*IntKind.i64.wrap (IntKind.i64.wrap (2*E)+6))=((totD ll*(2*Ee c+6):Nat):Int):=by
    rw [wrap_i64 (n:=2*E) (by omega),wrap_i64 (n:=2*E+6) (by omega),hEn];have e:(totD ll:Int)*(2*((Ee c:Nat):Int)+6)=((totD ll*(2*Ee c+6):Nat):Int):=by push_cast;rfl
    rw [e,wrap_i64 (by omega)]
   rw [ewy];refine rounds16_s ⟨hE1,hE2⟩ h39 (by omega) λH42 h42=>⟨_,rfl,?_⟩
   have s42:=s.at' h42;have em:4*(((totD ll*(2*Ee c+6):Nat):Int)+1)*(10*E+70)=((4*(totD ll*(2*Ee c+6)+1)*(10*Ee c+70):Nat):Int):=by
    rw [hEn];push_cast;rfl
   rw [em];have hmost:=most_le (E:=Ee c) (t:=totD ll) (by omega);have hmost2:4*(totD ll*(2*Ee c+6)+1)*(10*Ee c+70)<=42884*710:=Nat.mul_le_mul (by omega) (by omega);refine rest_s ⟨Y.dl,Y.lll,Y.lle,Y.hM,Y.ni,Y.at_,sv,hs5,D,la5,X,u,AB,s42,e1,e2,e3,e4,e5⟩ ebase (by omega) (by omega) (by omega) λH45=>⟨_,rfl,cond_yes rfl (CA_truth (by kernel_rfl) ⟨_,rfl,rfl⟩)⟩
def DeedZ (H0:Heap)(c:List Value):Prop:=
 ∃(a14 b15:List Value),c=a14++b15/\(∃n:Int,a14=[.int .i64 n]/\(Lit.int .i64 n).wf=true)/\(∃(a16 b17:List Value),b15=a16++b17/\OpZ H0 a16/\(∃(a29 b30:List Value),b17=a29++b30/\(∃n:Int,a29=[.int .u64 n]/\(Lit.int .u64 n).wf=true)/\b30=[]))
theorem DeedZ.of {c:List Value}(h:DeedZ H0 c):∃d:Deed,DeedC H0 d c:=by
 obtain ⟨_,_,rfl,⟨k,rfl,_⟩,_,_,rfl,ho,_,_,rfl,⟨v,rfl,hv⟩,rfl⟩:=h;obtain ⟨o,⟨a,n,rfl,ho2⟩,_⟩:=ho.of;obtain ⟨w,rfl⟩:=word_of hv;exact ⟨⟨k,o,w⟩,a,n,rfl,ho2⟩
theorem deedc_len {o:Deed}{c:List Value}(h:DeedC H0 o c):c.length=7:=by obtain ⟨a,n,rfl,_⟩:=h;rfl
theorem deedsC_of {c:List Value}(h:OldZ H0 (DeedZ H0) c):∃l:List Deed,DeedsC H0 l c/\l.length<=Bz:=by
 obtain ⟨a,n,css,rfl,ho,hc,hl⟩:=h.of;have⟨l,h1,h2⟩:=pick_of (P:=λ(o:Deed) c=>DeedC H0 o c) css λc hm=>(hc c hm).of
 refine ⟨l,⟨a,n,rfl,by rw [h1];exact ho.len,css,ho,λc hm=>?_,h2⟩,by rw [h1];exact hl⟩;have⟨o,h3⟩:=(hc c hm).of;exact deedc_len h3
theorem deedsLL_of {c:List Value}(h:OldZ H0 (OldZ H0 (DeedZ H0)) c):∃(ll:List (List Deed))(a:Option Addr)(n:Nat),c=[.slice a n 0]/\DeedsLL H0 a n ll/\(∀l∈ll,l.length<=Bz)/\n<=Bz:=by
 obtain ⟨a,n,css,rfl,ho,hc,hl⟩:=h.of;have⟨ll,h1,h2⟩:=pick_of (P:=λ(l:List Deed) c=>DeedsC H0 l c/\l.length<=Bz) css λc hm=>deedsC_of (hc c hm)
 refine ⟨ll,a,n,rfl,⟨by rw [h1];exact ho.len,css,ho,λc hm=>?_,λj o hj=>?_⟩,λl hm=>?_,by rw [ho.len];exact hl⟩
 ·obtain ⟨l,⟨a,n,rfl,_⟩,_⟩:=deedsC_of (hc c hm);rfl
 ·have⟨c,h3,h4,_⟩:=h2 j o hj;exact ⟨c,h3,h4⟩
 ·obtain ⟨j,hj,rfl⟩:=List.mem_iff_getElem.1 hm;have⟨c,_,_,h5⟩:=h2 j _ (List.getElem?_eq_getElem hj);exact h5
theorem LruRuns_law (H:Heap)(us:List Value)(h:shzVs en H 7 T.LruRuns us):CA en F.crossbarlaw16_LruRuns us H λv _=>v=.bool true:=by
 obtain ⟨_,_,rfl,⟨l3,rfl,_,_,rfl,⟨n1,rfl,_⟩,_,_,rfl,⟨n2,rfl,_⟩,_,_,rfl,⟨n3,rfl,_⟩,_,_,rfl,⟨n4,rfl,_⟩,_,_,rfl,⟨n5,rfl,_⟩,rfl⟩,v2,_,rfl,hA,v3,_,rfl,⟨l4,rfl,a38,_,rfl,hB,_,_,rfl,⟨n6,rfl,_⟩,rfl⟩,rfl⟩:=args_LruRuns h;have⟨ll,la,n,e1,o,hl,hnb⟩:=deedsLL_of (H0:=H) (c:=[v2]) hA;obtain rfl:=(List.cons.inj e1).1;obtain ⟨pa,pn,css,rfl,hp,hc,_⟩:=OldZ.of (H0:=H) (c:=a38) (P:=λc=>∃n:Int,c=[.int .i64 n]/\(Lit.int .i64 n).wf=true) hB;obtain ⟨l,rfl⟩:=numbers_of css hc;exact LruRuns_ok (d:=⟨n1,n2,n3,n4,n5⟩) o hl hnb hp
end
end Go.Proofs.YtjggeoghlicmdaaGreat
namespace Go.Proofs.YtjggeoghlicmdaaGreat.lruRuns
open Go.AS Go.ChangeShapes Go.WideShapes Go.ChangeAt Go.RowKit
section
theorem own:ownKnob Tryz.prog.godebug=none:=by kernel_rfl
theorem laid:laidOutB Tryz.prog=true:=by kernel_rfl
set_option maxRecDepth 100000 in
theorem lifted (os:Os)(started:os.Started)(H:Type)(enc:TypeId×Value->H) :
  ReturnsInHanded {} Tryz.checked os 10 .any (Rows.lruRunsSpec.pre6 enc Tryz.prog Tryz.f10 Rows.lruRunsRow.domain false) (Rows.lruRunsSpec.post enc Tryz.prog Tryz.f10 false true false false):=by
 refine returnsInHanded_of_change_sized (C:=Tryz.checked) own started (by kernel_rfl) Tryz.func10
  (ChangeSpec.witness6 (enc:=enc) (C:=Tryz.checked) false ⟨#[], #[.agg #[.int .i64 0,.int .i64 0,.int .i64 0,.int .i64 0,.int .i64 0],.slice none 0 0,.agg #[.slice none 0 0,.int .i64 0]],[]⟩ 8 (by kernel_rfl) (by kernel_rfl) (by kernel_rfl) (by kernel_rfl)) ?_
 intro W base args ds gs before hval0 hW hcnd hsz0 _;have hval:∀(j:Nat) t v,Tryz.f10.params[j]? =some t->args[j]? =some v->Value.okWide Tryz.prog W .any base t v:=hval0;have hW':=hW;obtain ⟨p,q,hA0,hV,rfl,hfz,hnd⟩:=hW;have hA:DataW.TrodAll enc Tryz.prog W 0 (λ_=>true) true Tryz.f10.params.toList args.toList ds p:=hA0;rw [Tryz.params10] at hA hval;obtain ⟨rfl,rfl⟩:=trodVars_none hV;have hsz:(DataW.weightsEach Tryz.prog (Tryz.f10.params.toList++[]) (ds++[])).all (·<=reachBytes)=true:=hsz0;rw [Tryz.params10,List.append_nil,List.append_nil] at hsz;have hrun:=law_callsz en_ok en_mix (f:=10) (λH us h=>LruRuns_law H us h) (by kernel_rfl) hA hsz (λj t v a b=>hval j t v (by simpa using a) b);obtain ⟨v0,vs0,d0,ds0,p0,q0,hargs,rfl,rfl,h0,r0⟩:=trodAll_cons hA;obtain ⟨v1,vs1,d1,ds1,p1,q1,rfl,rfl,rfl,h1,r1⟩:=trodAll_cons r0;obtain ⟨v2,vs2,d2,ds2,p2,q2,rfl,rfl,rfl,h2,r2⟩:=trodAll_cons r1;obtain ⟨rfl,rfl,rfl⟩:=trodAll_nil r2;obtain rfl:args= #[v0,v1,v2]:=by cases args;simp_all
 clear hA0 hval0;simp only [List.append_nil] at hW';refine hrun.mono λe W' ⟨he,hg⟩=>?_
 subst he;exact ⟨_,rfl,_,_,_,[],p0++(p1++(p2++([]))),[],hW',trodAll_cons_mk (shut_bool Tryz.underlying4 _) trodAll_mk0,trodAll_cons_mk (Below.trod laid (by kernel_rfl) (of_decide_eq_true (by kernel_rfl)) h0 hg λx hx=>by simpa using hW'.lt x (by simp [hx])) (trodAll_cons_mk (Below.trod laid (by kernel_rfl) (of_decide_eq_true (by kernel_rfl)) h1 hg λx hx=>by simpa using hW'.lt x (by simp [hx])) (trodAll_cons_mk (Below.trod laid (by kernel_rfl) (of_decide_eq_true (by kernel_rfl)) h2 hg λx hx=>by simpa using hW'.lt x (by simp [hx])) (trodAll_mk0))),rfl,hg.frame _,λh=>by cases h⟩
theorem rowed : mapsRowed Tryz.prog = true := by kernel_rfl
theorem inpl : Tryz.prog.inPlace 10 = Rows.lruRunsRow.inPlace := by kernel_rfl
theorem unfo : Tryz.prog.unfollowed 10 = Rows.lruRunsRow.unfollowed := by kernel_rfl
theorem recu : Tryz.prog.recurses 10 = Rows.lruRunsRow.recurses := by kernel_rfl
theorem nmd : Tryz.prog.varsNamed 10 = Rows.lruRunsRow.named := by kernel_rfl
theorem facts : joinedFacts Tryz.prog 10 Tryz.f10 Rows.lruRunsSpec Rows.lruRunsRow = true := by
  unfold joinedFacts
  rw [laid, rowed, inpl, unfo, recu, nmd]
  kernel_rfl
theorem over:Rows.lruRunsRow.holds Tryz.pinned (OpenSpec.ofChange Rows.lruRunsSpec):=
 OpenClaim.holds_of_wide 10 Tryz.f10 rfl rfl rfl rfl rfl rfl rfl ⟨rfl,rfl,rfl,rfl,rfl⟩ rfl rfl rfl rfl rfl (by kernel_rfl) Tryz.func10 facts
  (of_decide_eq_true (by kernel_rfl)) (by unfold Func.isWrapper;first|(rw [if_pos (by decide +kernel)];kernel_rfl)|(rw [if_neg (by decide +kernel)];exact ⟨rfl,rfl⟩))
  (λos started H enc _=>lifted os started H enc)
theorem proved:Rows.LruRunsSaid:=
 over
end
end Go.Proofs.YtjggeoghlicmdaaGreat.lruRuns
#print axioms Go.Proofs.YtjggeoghlicmdaaGreat.lruRuns.proved
