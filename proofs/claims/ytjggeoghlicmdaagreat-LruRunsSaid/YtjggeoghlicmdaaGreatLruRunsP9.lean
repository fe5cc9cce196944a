/-
  lruRuns.proved: part 9 of its proof. No condition.
  Written by a program out of the texts LrSide LrSide2 LrSide3 LrSide4 LrSide5 Vc1 As30 Vc3 DeclM FitM LrDeed LrStart LrPst LrOut LrNxt LrMid LrMid2 LrMid3 LrStepS LrRest LrRest2 LrNew LrNew2 VcLh As32 Argz.
-/
import Derived.Test.YtjggeoghlicmdaaGreatLruRunsP8
import Derived.ChangeShapes
import Derived.DataReads
import Derived.Carry
import Derived.WideShapes
import Derived.SizedLaws
set_option linter.unusedVariables false
namespace Go.Proofs.YtjggeoghlicmdaaGreat
open Go Go.AS Go.RowKit
section
variable {H H':Heap} {R:Value->Heap->Prop} {L M:List Asr} {hs:List Int} {D:Dq} {c:Lc} {r:Nat}
structure Kb where
 at_:Int
 ph:Int
 i:Int
 dk:Int
 ok:Int
 oy:Wd
 ova:Option Addr
 ovn:Nat
 ofl:Int
 ocp:Int
 dn:Wd
 run:Option Addr
 vis:Option Addr
 kd:Int
 ky:Wd
 va:Option Nat
 vl:List Wd
 fl:Int
 cp:Int
 had:Bool
 no:Int
 ra:Option Nat
 rv:List Wd
 rk:Wd
 el:Int
 kb:Option Nat
 ks:List Wd
 elem:Int
abbrev Kb.cells (a:Kb):List Value:=[I a.at_,I a.ph,I a.i,I a.dk,I a.ok,W a.oy,.slice a.ova a.ovn 0,I a.ofl,I a.ocp,W a.dn,.pointer a.run,.pointer a.vis,
 I a.kd,W a.ky,.slice (addr a.va) a.vl.length 0,I a.fl,I a.cp,.bool a.had,I a.no,.slice (addr a.ra) a.rv.length 0,W a.rk,I a.el,.slice (addr a.kb) a.ks.length 0,I a.elem]
structure Sd where
 s:Nat
 ab:Nat
 n:Nat
 y:Nat
 la:Option Addr
 d:D5
 base:Int
structure Su where
 lb:Option Nat
 wb:Option Nat
 pa:Option Nat
 pb:Option Nat
 B:List Nat
abbrev aB (z:Sd)(css:List (List Value))(k:Nat)(a:Kb):Asr:=bx z.ab (.cells true 24 (css.set k a.cells).flatten)
abbrev sB (c:Lc)(z:Sd)(u:Su):Asr:=bx z.s (.cells true 0 [P c.m,P c.g,P c.x,P z.y,.slice z.la z.n 0,.slice (some ⟨z.ab,0,none⟩) z.n 0,.slice (addr u.pa) u.B.length 0,.slice (addr u.pb) u.B.length 0,I z.base])
abbrev pzA (hs:List Int)(u:Su):Asr:=gl 1 u.pa (u.B.map λb=>I (elOf hs b))
abbrev pzB (u:Su):Asr:=gl 1 u.pb (u.B.map λb:Nat=>I (b:Int))
abbrev SL (c:Lc)(z:Sd)(css:List (List Value))(k:Nat)(u:Su)(hs:List Int)(D:Dq)(a:Kb)(M:List Asr):List Asr:=
 aB z css k a::sB c z u::gl 1 a.va (wds a.vl)::gl 1 a.ra (wds a.rv)::gl 1 a.kb (wds a.ks)::y16 z.y z.d u.lb u.wb D::l16 u.lb D::w16 u.wb D::pzA hs u::pzB u::M
variable {z:Sd} {css:List (List Value)} {k:Nat} {u:Su} {a:Kb}
structure KO (css:List (List Value))(k:Nat):Prop where
 w:∀c∈css,c.length=24
 lt:k<css.length
theorem ald {j o:Nat}{v:Value}(hk:KO css k)(h:Sep H L)(hj:L[j]? =some (aB z css k a))(ho:a.cells[o]? =some v):H.cell z.ab (0+k*24+o)=some v:=rowld h j hj hk.w rfl hk.lt ho
theorem ald0 {j:Nat}{v:Value}(hk:KO css k)(h:Sep H L)(hj:L[j]? =some (aB z css k a))(ho:a.cells[0]? =some v):H.cell z.ab (0+k*24)=some v:=rowld0 h j hj hk.w rfl hk.lt ho
theorem alds {j o n:Nat}{vs:List Value}(hk:KO css k)(h:Sep H L)(hj:L[j]? =some (aB z css k a))(ho:takeAt a.cells o n=some vs):H.cellsAt z.ab (0+k*24+o) n=some vs:=rowlds h j hj hk.w rfl hk.lt ho
theorem ast {j o:Nat}{vs:List Value}{K:Heap->Prop}(hk:KO css k)(h:Sep H L)(hj:L[j]? =some (aB z css k a))(a':Kb)(ho:o+vs.length<=24)(e:setAt a.cells o vs=a'.cells)
  (r:∀H',Sep H' (L.set j (aB z css k a'))->K H'):stc H z.ab (0+k*24+o) vs K:=
 rowst h j hj hk.w rfl hk.lt ho λH' h'=>r H' (by rw [e] at h';exact h')
theorem ast0 {j:Nat}{vs:List Value}{K:Heap->Prop}(hk:KO css k)(h:Sep H L)(hj:L[j]? =some (aB z css k a))(a':Kb)(ho:vs.length<=24)(e:setAt a.cells 0 vs=a'.cells)
  (r:∀H',Sep H' (L.set j (aB z css k a'))->K H'):stc H z.ab (0+k*24) vs K:=
 rowst0 h j hj hk.w rfl hk.lt ho λH' h'=>r H' (by rw [e] at h';exact h')
structure PzOk (hs:List Int)(u:Su):Prop where
 nd:u.B.Nodup
 rng:∀b∈u.B,1<=b/\b<=hs.length
 pos:∀h∈hs,1<=h
 hnd:hs.Nodup
 len:hs.length<=1000000
 na:u.pa=none->u.B=[]
 nb:u.pb=none->u.B=[]
theorem PzOk.short (o:PzOk hs u):u.B.length<=1000001:=by
 have h1:u.B.length<=hs.length+1:=nodup_len o.nd λb hb=>by have:=o.rng b hb;omega
 have:=o.len
 omega
theorem elOf_get {b:Nat}(h:1<=b/\b<=hs.length):hs[b - 1]? =some (elOf hs b):=by
 unfold elOf;rw [if_neg (by omega),List.getD_eq_getElem?_getD,List.getElem?_eq_getElem (by omega)];rfl
theorem elOf_inj (nd:hs.Nodup){b b':Nat}(h:1<=b/\b<=hs.length)(h':1<=b'/\b'<=hs.length)(e:elOf hs b=elOf hs b'):b=b':=by
 have:b - 1=b' - 1:=(List.getElem?_inj (by omega) nd).1 (by rw [elOf_get h,elOf_get h',e])
 omega
theorem elOf_ext {h:Int}{b:Nat}(hb:b<=hs.length):elOf (hs++[h]) b=elOf hs b:=by
 unfold elOf;split
 ·rfl
 ·rw [List.getD_eq_getElem?_getD,List.getElem?_append_left (by omega),<-List.getD_eq_getElem?_getD]
theorem elOf_mem {b:Nat}(h:1<=b/\b<=hs.length):elOf hs b∈hs:=List.mem_of_getElem? (elOf_get h)
theorem PzOk.nz (o:PzOk hs u){b:Nat}(h:1<=b/\b<=hs.length):1<=elOf hs b:=o.pos _ (elOf_mem h)
theorem PzOk.n1 (o:PzOk hs u):u.pa=none->(u.B.map λb=>(I (elOf hs b):Value))=[]:=λe=>by rw [o.na e];rfl
theorem PzOk.n2 (o:PzOk hs u):u.pb=none->(u.B.map λb:Nat=>(I (b:Int):Value))=[]:=λe=>by rw [o.nb e];rfl
theorem may_s {n:Nat}(o:PzOk hs u)(hn:n<=hs.length)(h:Sep H (sB c z u::pzA hs u::pzB u::L))
  (hR:∀H' u',u'.lb=u.lb->u'.wb=u.wb->PzOk hs u'->(n≠0->n∈u'.B)->(∀b∈u.B,b∈u'.B)->Sep H' (sB c z u'::pzA hs u'::pzB u'::L)->R (.bool true) H') :
  CA en F.crossbarkit_Pairs_May [.pointer (some ⟨z.s,6,none⟩),I (elOf hs n),I n] H R:=by
 apply vc_crossbarkit_Pairs_May;have hsh:=o.short;by_cases h0:n=0
 ·subst h0;refine cond_of (λ_=>?_) λw=>?_
  ·have:=hR H u rfl rfl o (λe=>absurd rfl e) (λ_ h=>h) h
   simpa [elOf] using this
  ·simp [elOf] at w
 have hn':1<=n/\n<=hs.length:=⟨by omega,hn⟩;have hz:=o.nz hn';refine cond_of (λw=>?_) λ_=>cond_of (λw=>?_) λ_=>?_
 ·have:elOf hs n=0:=by simpa using w
  omega
 ·have:(n:Int)=0:=by simpa using w
  omega
 refine use_crossbarkit_Pairs_May_0 (λk t6 t7 H'=>H=H'/\∃j:Nat,j<=u.B.length/\k=u.B.length - j/\t7=(j:Int)/\∀b∈u.B.take j,b≠n) u.B.length ⟨rfl,0,Nat.zero_le _,rfl,rfl,λx hx=>by simp at hx⟩ ?_;rintro k t6 t7 ys _ ⟨rfl,j,hj,rfl,rfl,hno⟩;refine asAddr_in ⟨_,_,Sep.ld0 h rfl,cond_of (λw=>?_) λw=>?_⟩
 ·have w:j<u.B.length:=by have:=of_decide_eq_true w;omega
  have⟨b,hb⟩:∃b,u.B[j]? =some b:=⟨_,List.getElem?_eq_getElem w⟩;have hbr:=o.rng b (List.mem_of_getElem? hb);have hin:inB (j:Int) u.B.length:=⟨by omega,by omega⟩;have hgA:Sep H (pzA hs u::sB c z u::pzB u::L):=Sep.up1 h;have hgB:Sep H (pzB u::sB c z u::pzA hs u::L):=Sep.up2 h;have cA:(u.B.map λb=>(I (elOf hs b):Value))[j]? =some (I (elOf hs b)):=by rw [List.getElem?_map,hb];rfl
  have cB:(u.B.map λb:Nat=>(I (b:Int):Value))[j]? =some (I (b:Int)):=by rw [List.getElem?_map,hb];rfl
  refine asAddr_in ⟨_,_,Sep.ld0 h rfl,hin,gl_ld hgA o.n1 cA λi hc=>⟨_,by rw [Int.toNat_natCast,Nat.mul_one];exact hc,?_⟩⟩;refine cond_of (λw2=>?_) λw2=>?_
  ·have w2:elOf hs b=elOf hs n:=by simpa using w2
   obtain rfl:=elOf_inj o.hnd hbr hn' w2;refine asAddr_in ⟨_,_,Sep.ld0 h rfl,hin,gl_ld hgA o.n1 cA λi hc=>⟨_,by rw [Int.toNat_natCast,Nat.mul_one];exact hc,cond_of (λ_=>?_) λw3=>?_⟩⟩
   ·refine asAddr_in ⟨_,_,Sep.ld0 h rfl,hin,gl_ld hgB o.n2 cB λi hc=>⟨_,by rw [Int.toNat_natCast,Nat.mul_one];exact hc,?_⟩⟩;refine asBool_in ?_
    have:=hR H u rfl rfl o (λ_=>List.mem_of_getElem? hb) (λ_ h=>h) h
    simpa using this
   ·simp at w3
  ·have w2:elOf hs b≠elOf hs n:=by simpa using w2
   refine asAddr_in ⟨_,_,Sep.ld0 h rfl,hin,gl_ld hgB o.n2 cB λi hc=>⟨_,by rw [Int.toNat_natCast,Nat.mul_one];exact hc,cond_of (λw3=>?_) λw3=>?_⟩⟩
   ·have:(b:Int)=(n:Int):=by simpa using w3
    exact absurd (by rw [show b=n by omega]) w2
   ·refine ⟨u.B.length - (j+1),by omega,rfl,j+1,w,rfl,by rw [wrap_i64 (by omega)];omega,λx hx=>?_⟩;rw [List.take_add_one,hb] at hx;rcases List.mem_append.1 hx with hx|hx
    ·exact hno x hx
    ·simp only [Option.toList_some,List.mem_singleton] at hx;subst hx;exact λe=>w2 (by rw [e])
 ·have w:j=u.B.length:=by have:=of_decide_eq_false w;omega
  subst w;rw [List.take_length] at hno;have hnm:n∉u.B:=λhm=>hno n hm rfl
  refine asBool_in (asAddr_in ⟨_,_,Sep.ld0 h rfl,Sep.nw h λi8 H9 h9=>⟨[I (elOf hs n)],rowOf_bx (es:=1) (Sep.get0 h9) (by decide) rfl,?_⟩⟩);refine apd_gl (b:=u.pa) (cs:=u.B.map λb=>(I (elOf hs b):Value)) (new:=[I (elOf hs n)]) (Sep.up2 h9) o.n1 (by decide) (by rw [List.length_map];omega) (by decide) rfl (by omega) λH13 qa h13=>?_
  refine asAddr_in (Sep.st2 h13 (Nat.le_of_ble_eq_true rfl) λH16 h16=>asAddr_in ⟨_,_,Sep.ld2 h16 rfl,Sep.nw h16 λi21 H22 h22=>⟨[I (n:Int)],rowOf_bx (es:=1) (Sep.get0 h22) (by decide) rfl,?_⟩⟩);refine apd_gl (b:=u.pb) (cs:=u.B.map λb:Nat=>(I (b:Int):Value)) (new:=[I (n:Int)]) (Sep.up4 h22) o.n2 (by decide) (by rw [List.length_map];omega) (by decide) rfl (by omega) λH26 qb h26=>?_
  refine asAddr_in (Sep.st4 h26 (Nat.le_of_ble_eq_true rfl) λH29 h29=>?_);refine hR H29 ⟨u.lb,u.wb,some qa,some qb,u.B++[n]⟩ rfl rfl ⟨?_,λb hb=>?_,o.pos,o.hnd,o.len,(λe=>by cases e),λe=>by cases e⟩ (λ_=>by simp) (λb hb=>List.mem_append_left _ hb) ?_
  ·refine List.nodup_append.2 ⟨o.nd,by simp,λx hx y hy e=>?_⟩;simp only [List.mem_singleton] at hy;subst hy;subst e;exact hnm hx
  ·rcases List.mem_append.1 hb with hb|hb
   ·exact o.rng b hb
   ·simp only [List.mem_singleton] at hb;subst hb;exact hn'
  ·have h30:=Sep.pick h29 5 [4,2,0] (by decide);have e1:(u.B.map λb=>(I (elOf hs b):Value))++[I (elOf hs n)]=(u.B++[n]).map λb=>(I (elOf hs b):Value):=by rw [List.map_append];rfl
   have e2:(u.B.map λb:Nat=>(I (b:Int):Value))++[I (n:Int)]=(u.B++[n]).map λb:Nat=>(I (b:Int):Value):=by rw [List.map_append];rfl
   rw [e1,e2] at h30;have e3:(u.B++[n]).length=u.B.length+1:=by simp
   show Sep H29 (bx z.s (.cells true 0 [P c.m,P c.g,P c.x,P z.y,.slice z.la z.n 0,.slice (some ⟨z.ab,0,none⟩) z.n 0,.slice (addr (some qa)) (u.B++[n]).length 0,.slice (addr (some qb)) (u.B++[n]).length 0,I z.base])::_);rw [e3];exact h30
theorem told_s {n:Nat}(o:PzOk hs u)(hm:n∈u.B)(h:Sep H (sB c z u::pzA hs u::pzB u::L))(hR:R (I (n:Int)) H) :
  CA en F.crossbarlaw16_side_told [P z.s,I (elOf hs n)] H R:=by
 apply vc_crossbarlaw16_side_told;have hsh:=o.short;have hn':=o.rng n hm;refine use_crossbarlaw16_side_told_0 (λk t4 t5 H'=>H=H'/\∃j:Nat,j<=u.B.length/\k=u.B.length - j/\t5=(j:Int)/\∀b∈u.B.take j,b≠n) u.B.length ⟨rfl,0,Nat.zero_le _,rfl,rfl,λx hx=>by simp at hx⟩ ?_;rintro k t4 t5 ys _ ⟨rfl,j,hj,rfl,rfl,hno⟩;refine asAddr_in ⟨_,_,Sep.ld0 h rfl,cond_of (λw=>?_) λw=>?_⟩
 ·have w:j<u.B.length:=by have:=of_decide_eq_true w;omega
  have⟨b,hb⟩:∃b,u.B[j]? =some b:=⟨_,List.getElem?_eq_getElem w⟩;have hbr:=o.rng b (List.mem_of_getElem? hb);have hin:inB (j:Int) u.B.length:=⟨by omega,by omega⟩;have hgA:Sep H (pzA hs u::sB c z u::pzB u::L):=Sep.up1 h;have hgB:Sep H (pzB u::sB c z u::pzA hs u::L):=Sep.up2 h;have cA:(u.B.map λb=>(I (elOf hs b):Value))[j]? =some (I (elOf hs b)):=by rw [List.getElem?_map,hb];rfl
  have cB:(u.B.map λb:Nat=>(I (b:Int):Value))[j]? =some (I (b:Int)):=by rw [List.getElem?_map,hb];rfl
  refine asAddr_in ⟨_,_,Sep.ld0 h rfl,hin,gl_ld hgA o.n1 cA λi hc=>⟨_,by rw [Int.toNat_natCast,Nat.mul_one];exact hc,cond_of (λw2=>?_) λw2=>?_⟩⟩
  ·have w2:elOf hs b=elOf hs n:=by simpa using w2
   obtain rfl:=elOf_inj o.hnd hbr hn' w2;refine asAddr_in ⟨_,_,Sep.ld0 h rfl,hin,gl_ld hgB o.n2 cB λi hc=>⟨_,by rw [Int.toNat_natCast,Nat.mul_one];exact hc,asInt_in hR⟩⟩
  ·have w2:elOf hs b≠elOf hs n:=by simpa using w2
   refine ⟨u.B.length - (j+1),by omega,rfl,j+1,w,rfl,by rw [wrap_i64 (by omega)];omega,λx hx=>?_⟩;rw [List.take_add_one,hb] at hx;rcases List.mem_append.1 hx with hx|hx
   ·exact hno x hx
   ·simp only [Option.toList_some,List.mem_singleton] at hx;subst hx;exact λe=>w2 (by rw [e])
 ·have w:j=u.B.length:=by have:=of_decide_eq_false w;omega
  subst w;rw [List.take_length] at hno;exact absurd rfl (hno n hm)
end
section
variable {H H':Heap} {R:Value->Heap->Prop} {L M:List Asr} {hs hs':List Int} {D D':Dq} {c:Lc} {q:Qr} {X:Gx} {PL:List Asr} {r:Nat}
variable {z:Sd} {css:List (List Value)} {k:Nat} {u:Su} {a:Kb} {m0:Int} {G:Gr} {lb wb:Option Nat} {E kd fl:Int} {ky v:Wd}
theorem like_s {no e e':Int}{key:Wd}{va vb:Option Addr}{n m:Nat}{ws:List Wd}(h:Sep H L)(ra:RdW L va ws)(rb:RdW L vb ws)(hn':n=ws.length)(hk':m=ws.length)(hn:ws.length<1000000000)(hR:∀H',Sep H' L->R (.bool true) H') :
  CA en F.crossbarkit_LikeRes [.agg #[I no,.slice va n 0,W key,I e],.agg #[I no,.slice vb m 0,W key,I e']] H R:=by
 apply vc_crossbarkit_LikeRes;refine Sep.nw h λj1 H5 h5=>Sep.nw h5 λj3 H6 h6=>⟨_,Sep.ld1 h6 rfl,_,Sep.ld0 h6 rfl,cond_yes (by simp) ⟨_,Sep.ld1 h6 rfl,_,Sep.ld0 h6 rfl,cond_yes (by simp) ⟨_,_,Sep.ld1 h6 rfl,_,_,Sep.ld0 h6 rfl,?_⟩⟩⟩
 exact SameWords_s h6 ra.tail'.tail' rb.tail'.tail' hn' hk' hn λH' h'=>⟨_,rfl,hR H' h'.tail.tail⟩
structure OpK (a:Kb)(q:Qr):Prop where
 kd:a.kd=q.kd
 ky:a.ky=q.ky
 fl:a.fl=q.fl
 vb:q.vb=none
 val:a.kd=2->∃g,a.va=some g/\a.vl=[q.val]
theorem do_no5:(D.do E kd ky fl v).1.1≠5:=by
 unfold Dq.do;split
 ·unfold Dq.next;split<;>simp
 ·split
  ·split
   ·split<;>simp
   ·split
    ·simp
    ·split<;>simp
  ·split<;>simp
theorem do_short:(D.do E kd ky fl v).1.2.1.length<=1:=by
 unfold Dq.do;split
 ·unfold Dq.next;split<;>simp
 ·split
  ·split
   ·split<;>simp
   ·split
    ·simp
    ·split<;>simp
  ·split<;>simp
theorem do_look (o:Ok16 E lb wb D)(h1:kd=1)(h0:(D.do E kd ky fl v).1.1=0):∃p,(D.do E kd ky fl v).1.2.2.2=p.2/\p∈(D.do E kd ky fl v).2.L/\p.2≠0:=by
 unfold Dq.do at h0⊢;rw [if_neg (by omega)] at h0⊢;cases hf:D.find ky with
 |none=>
  rw [hf] at h0;simp only at h0;rw [if_pos (.inl (by omega))] at h0;cases h0
 |some p=>
  simp only;rw [if_neg (by omega),if_pos h1];refine ⟨p,rfl,by simp,?_⟩
  have:=o.el p (List.mem_of_find?_eq_some hf)
  omega
theorem took_s {room:Int}(hk:KO css k)(h:Rk H PL r c q X (SL c z css k u hs D a M))(ha:a.had=false)(hr:a.run=some ⟨r,0,none⟩)(o:Ok16 c.d1 u.lb u.wb D)(he:z.d.b=c.d1)(pz:PzOk hs u)(hva:a.va=none->a.vl=[])
  (op:OpK a q)(hl:D.ws.length<1000000)(did:Did c m0 G q hs hs' D D')(hroom:G.S.room=room)(hm0:0<=m0)(hnd:hs'.Nodup)(hl':hs'.length<=1000000)
  (hR:∀H' a' u' g,a'={a with had:=true,no:=q.no,ra:=g,rv:=q.rv,rk:=q.rk,el:=q.el}->(g=none->q.rv=[])->Ok16 c.d1 u'.lb u'.wb D'->PzOk hs' u'->(∀b∈u.B,b∈u'.B)->q.rv.length<=1->
   (q.kd=1->q.no=0->∃p∈D'.L,q.el=elOf hs' p.2/\p.2∈u'.B)->Rk H' PL r c q X (SL c z css k u' hs' D' a' M)->R (.bool true) H') :
  CA en F.crossbarlaw16_side_took [P z.s,.pointer (some ⟨z.ab,0+k*24,none⟩),I room] H R:=by
 apply vc_crossbarlaw16_side_took;unfold Did at did;rw [op.vb,if_neg (by simp)] at did;have hrv1:q.rv.length<=1:=by
  rcases did with ⟨e,_⟩|⟨e,_⟩
  ·unfold Qr.res at e;simp only [Prod.mk.injEq] at e;rw [e.2.1];simp
  ·unfold Qr.res at e;simp only [Prod.mk.injEq] at e;rw [e.2.1];exact do_short
 have⟨sa,nv,hrv,hnv,hs0⟩:=h.ex;refine asAddr_in ⟨_,ald hk hs0 (j:=5) rfl rfl,cond_no ha ?_⟩;refine asAddr_in (ast hk hs0 (j:=5) rfl {a with had:=true} (Nat.le_of_ble_eq_true rfl) rfl λH6 h6=>asAddr_in ⟨_,ald hk h6 (j:=5) rfl rfl,?_⟩);have o6:Rk H6 PL r c q X (SL c z css k u hs D {a with had:=true} M):=⟨sa,nv,hrv,hnv,h6⟩;rw [hr];refine rres_s o6 λH11 g hg o11=>⟨_,_,_,_,_,rfl,?_⟩
 have⟨sa,nv,hrv,hnv,h11⟩:=o11.ex;refine CopyRes_s (ws:=q.rv) h11 (rdw_gl (q:=g) (by simp) hg) rfl (by omega) λH18 g2 hg2 h18=>⟨_,_,_,_,_,rfl,?_⟩
 refine asAddr_in (ast hk h18 (j:=7) rfl {a with had:=true,no:=q.no,ra:=g2,rv:=q.rv,rk:=q.rk,el:=q.el} (Nat.le_of_ble_eq_true rfl) rfl λH26 h26=>?_);have h27:Sep H26 (rA r c q sa nv::many PL::xA c::grA c.g c.m X::many (tkL c q.nx)::SL c z css k u hs D {a with had:=true,no:=q.no,ra:=g2,rv:=q.rv,rk:=q.rk,el:=q.el} M):=Sep.pick h26 11 [1,2,3,4,5,7,8,9,0] (by decide);clear h18 h11 o11 hs0 h6 o6 h;have pick16:∀{H:Heap}{a':Kb}{D:Dq}{u:Su}{hs:List Int}{M:List Asr},AS.Sep H (rA r c q sa nv::many PL::xA c::grA c.g c.m X::many (tkL c q.nx)::SL c z css k u hs D a' M)->
   AS.Sep H (y16 z.y z.d u.lb u.wb D::l16 u.lb D::w16 u.wb D::rA r c q sa nv::many PL::xA c::grA c.g c.m X::many (tkL c q.nx)::aB z css k a'::sB c z u::gl 1 a'.va (wds a'.vl)::gl 1 a'.ra (wds a'.rv)::gl 1 a'.kb (wds a'.ks)::pzA hs u::pzB u::M):=λh=>Sep.pick h 15 [10,11,12,0,1,2,3,4,5,6,7,8,9,13,14] (by decide)
 refine asAddr_in ⟨_,ald hk h27 (j:=5) rfl rfl,?_⟩;rcases did with ⟨e1,rfl,rfl,hr3,hk2,hf2⟩|⟨e1,e2,e3,e4⟩
 ·unfold Qr.res at e1;simp only [Prod.mk.injEq] at e1;have⟨eno,ev,ek,ee⟩:=e1;have x1:((a.kd==2):Bool)=true:=by rw [op.kd,hk2];rfl
  have x2:((a.fl !=2):Bool)=true:=by rw [op.fl];simpa using hf2
  have x3:(decide (room<8):Bool)=true:=by simp;omega
  refine cond_of (λ_=>?_) λw=>?_
  ·refine asAddr_in ⟨_,ald hk h27 (j:=5) rfl rfl,cond_yes x1 (asAddr_in ⟨_,ald hk h27 (j:=5) (o:=12+3) rfl rfl,cond_yes x2 (cond_yes x3 (asAddr_in ⟨_,_,_,_,_,alds hk h27 (j:=5) rfl rfl,?_⟩))⟩)⟩;rw [eno,ek];refine like_s (ws:=[]) h27 (by intro H _ j x hx;simp at hx) (by intro H _ j x hx;simp at hx) (by show q.rv.length=0;rw [ev];rfl) rfl (by decide) λH44 h44=>⟨_,rfl,?_⟩
   refine cond_yes rfl (asAddr_in ⟨_,ald hk h44 (j:=5) (o:=18+3) rfl rfl,?_⟩)
   have:=hR H44 {a with had:=true,no:=q.no,ra:=g2,rv:=q.rv,rk:=q.rk,el:=q.el} u g2 rfl hg2 o pz (λ_ h=>h) hrv1 (λ_ h0=>by rw [eno] at h0;cases h0) ⟨sa,nv,hrv,hnv,h44⟩
   show R (.bool (q.el==0)) H44;rw [ee];exact this
  ·rw [eno] at w;simp at w
 ·have hno:q.no≠5:=by
   unfold Qr.res at e1;simp only [Prod.mk.injEq] at e1;rw [e1.1];exact do_no5
  refine cond_of (λw=>?_) λ_=>?_
  ·exact absurd (by simpa using w) hno
  have hp:=h27.fore1 (n:=11) (a:=9) (.cells true 0 [I 0,.slice none 0 0,W 0,I 0]) (by decide);generalize hwb:H26.next+9=wb at hp⊢;refine asAddr_in ⟨_,Sep.ld7 hp rfl,asAddr_in ⟨_,_,_,_,_,_,alds hk hp (j:=6) rfl rfl,?_⟩⟩;have hq:=Sep.pick hp 14 [11,12,13,0,1,2,3,4,5,6,7,8,9,10] (by decide);have hq:Sep _ (y16 z.y z.d u.lb u.wb D::l16 u.lb D::w16 u.wb D::bx wb (.cells true 0 [I 0,.slice none 0 0,W 0,I 0])::rA r c q sa nv::many PL::xA c::grA c.g c.m X::many (tkL c q.nx)::aB z css k {a with had:=true,no:=q.no,ra:=g2,rv:=q.rv,rk:=q.rk,el:=q.el}::sB c z u::gl 1 a.va (wds a.vl)::gl 1 g2 (wds q.rv)::gl 1 a.kb (wds a.ks)::pzA hs u::pzB u::M):=hq;show CA en F.crossbarref16_Map_Do [P z.y,.agg #[I a.kd,W a.ky,.slice (addr a.va) a.vl.length 0,I a.fl,I a.cp]] _ _;rw [show (I a.kd:Value)=I q.kd by rw [op.kd],show (W a.ky:Value)=W q.ky by rw [op.ky],show (I a.fl:Value)=I q.fl by rw [op.fl]];have hov:OVal q.kd (addr a.va) a.vl.length q.val (bx wb (.cells true 0 [I 0,.slice none 0 0,W 0,I 0])::rA r c q sa nv::many PL::xA c::grA c.g c.m X::many (tkL c q.nx)::aB z css k {a with had:=true,no:=q.no,ra:=g2,rv:=q.rv,rk:=q.rk,el:=q.el}::sB c z u::gl 1 a.va (wds a.vl)::gl 1 g2 (wds q.rv)::gl 1 a.kb (wds a.ks)::pzA hs u::pzB u::M):=λe=>by
   have⟨g,e1,e2⟩:=op.val (op.kd.trans e);refine ⟨by rw [e2];exact Nat.le_refl _,g,by rw [e1];rfl,λH hs=>?_⟩;have h8:=hs.drop 8;rw [e1,e2] at h8;exact Sep.ld0 (gl_some.1 h8) rfl
  refine ddo_s (fl:=q.fl) (key:=q.ky) o he hov hl hq λH61 lb' wb' gw o' hgw h61=>⟨_,_,_,_,_,rfl,?_⟩
  have e1':=e1;unfold Qr.res at e1;simp only [Prod.mk.injEq] at e1;have⟨eno,ev,ek,ee⟩:=e1;rw [<-e3] at o' h61;generalize hres:(D.do c.d1 q.kd q.ky q.fl q.val).1=res at *;have⟨rn,rw_,rk,rel⟩:=res;simp only at eno ev ek ee e2;have h61:Sep H61 (gl 1 gw (wds rw_)::y16 z.y z.d lb' wb' D'::l16 lb' D'::w16 wb' D'::bx wb (.cells true 0 [I 0,.slice none 0 0,W 0,I 0])::rA r c q sa nv::many PL::xA c::grA c.g c.m X::many (tkL c q.nx)::aB z css k {a with had:=true,no:=q.no,ra:=g2,rv:=q.rv,rk:=q.rk,el:=q.el}::sB c z u::gl 1 a.va (wds a.vl)::gl 1 g2 (wds q.rv)::gl 1 a.kb (wds a.ks)::pzA hs u::pzB u::M):=h61;refine Sep.st4 h61 (Nat.le_of_ble_eq_true rfl) λH67 h67=>⟨?_,⟨⟨_,Sep.get0 hp,by simp [sameN,sameN.sameL]⟩,⟨_,Sep.get4 h61,by simp [sameN,sameN.sameL]⟩,trivial⟩,trivial⟩
  have h67:Sep H67 (gl 1 gw (wds rw_)::y16 z.y z.d lb' wb' D'::l16 lb' D'::w16 wb' D'::bx wb (.cells true 0 [I rn,.slice (addr gw) rw_.length 0,W rk,I rel])::rA r c q sa nv::many PL::xA c::grA c.g c.m X::many (tkL c q.nx)::aB z css k {a with had:=true,no:=q.no,ra:=g2,rv:=q.rv,rk:=q.rk,el:=q.el}::sB c z u::gl 1 a.va (wds a.vl)::gl 1 g2 (wds q.rv)::gl 1 a.kb (wds a.ks)::pzA hs u::pzB u::M):=h67;have hB:=h67.bump 20;refine asAddr_in ⟨_,_,_,_,_,alds hk hB (j:=10) rfl rfl,_,_,_,_,_,Sep.lds4 hB rfl,?_⟩;rw [eno,ek,<-ev];refine like_s (ws:=q.rv) hB (rdw_gl (q:=g2) (by simp) hg2) (rdw_gl (q:=gw) (by rw [ev];simp) (λe=>by rw [ev];exact hgw e)) rfl rfl (by omega) λH83 h83=>⟨_,rfl,cond_yes rfl ?_⟩
  refine asAddr_in (asAddr_in ⟨_,ald hk h83 (j:=10) (o:=18+3) rfl rfl,_,Sep.ld4 h83 rfl,?_⟩);have h84:Sep H83 (sB c z u::pzA hs u::pzB u::y16 z.y z.d lb' wb' D'::l16 lb' D'::w16 wb' D'::rA r c q sa nv::many PL::xA c::grA c.g c.m X::many (tkL c q.nx)::aB z css k {a with had:=true,no:=q.no,ra:=g2,rv:=q.rv,rk:=q.rk,el:=q.el}::gl 1 a.va (wds a.vl)::gl 1 g2 (wds q.rv)::gl 1 a.kb (wds a.ks)::M):=Sep.pick h83 17 [11,15,16,1,2,3,5,6,7,8,9,10,12,13,14] (by decide);show CA en F.crossbarkit_Pairs_May [_,I q.el,_] H83 _;rw [ee];refine may_s pz e2 h84 λH92 u' el ew pz' hin hsub h92=>⟨_,rfl,⟨?_,trivial⟩⟩
  have hpos:∀b∈u'.B,b<=hs.length:=λb hb=>(pz'.rng b hb).2
  have pz2:PzOk hs' {u' with lb:=lb',wb:=wb'}/\pzA hs' {u' with lb:=lb',wb:=wb'}=pzA hs u'/\(∀b,b<=hs.length->elOf hs' b=elOf hs b):=by
   rcases e4 with rfl|⟨h,rfl,hm⟩
   ·exact ⟨⟨pz'.nd,pz'.rng,pz'.pos,pz'.hnd,pz'.len,pz'.na,pz'.nb⟩,rfl,λ_ _=>rfl⟩
   ·refine ⟨⟨pz'.nd,λb hb=>?_,λx hx=>?_,hnd,hl',pz'.na,pz'.nb⟩,?_,λb hb=>elOf_ext hb⟩
    ·have:=pz'.rng b hb;rw [List.length_append];exact ⟨this.1,by omega⟩
    ·rcases List.mem_append.1 hx with hx|hx
     ·exact pz'.pos x hx
     ·simp only [List.mem_singleton] at hx;subst hx;omega
    ·show gl 1 u'.pa (u'.B.map _)=gl 1 u'.pa (u'.B.map _)
     congr 1
     exact List.map_congr_left λb hb=>by rw [elOf_ext (hpos b hb)]
  have h93:Sep H92 (rA r c q sa nv::many PL::xA c::grA c.g c.m X::many (tkL c q.nx)::aB z css k {a with had:=true,no:=q.no,ra:=g2,rv:=q.rv,rk:=q.rk,el:=q.el}::sB c z u'::gl 1 a.va (wds a.vl)::gl 1 g2 (wds q.rv)::gl 1 a.kb (wds a.ks)::y16 z.y z.d lb' wb' D'::l16 lb' D'::w16 wb' D'::pzA hs u'::pzB u'::M):=Sep.pick h92 15 [6,7,8,9,10,11,0,12,13,14,3,4,5,1,2] (by decide);rw [<-pz2.2.1] at h93;refine hR H92 _ {u' with lb:=lb',wb:=wb'} g2 rfl hg2 o' pz2.1 hsub hrv1 (λhk1 h0=>?_) ⟨sa,nv,hrv,hnv,h93⟩;have⟨p,hp2,hp3,hp4⟩:=do_look (E:=c.d1) (kd:=q.kd) (ky:=q.ky) (fl:=q.fl) (v:=q.val) o hk1 (by rw [hres,<-eno];exact h0);rw [hres] at hp2;have hp2:rel=p.2:=hp2;have hne:rel≠0:=by rw [hp2];exact hp4
  refine ⟨p,by rw [e3];exact hp3,?_,?_⟩
  ·rw [ee,hp2,pz2.2.2 _ (by rw [<-hp2];exact e2)]
  ·rw [<-hp2];exact hin hne
end
section
variable {H H':Heap} {R:Value->Heap->Prop} {L M:List Asr} {hs hs':List Int} {D D':Dq} {c:Lc} {q q':Qr} {X:Gx} {PL:List Asr} {r:Nat}
variable {z:Sd} {css:List (List Value)} {k:Nat} {u:Su} {a:Kb} {m0:Int} {G:Gr}
theorem gcount_s {g m:Nat}(h:Sep H (grA g m X::L))(hR:R (I X.G.S.count) H):CA en F.smem_Mem_Count [P m] H R:=count_s (gr_out h) hR
theorem groom_s {g m:Nat}(h:Sep H (grA g m X::L))(hR:R (I X.G.S.room) H):CA en F.smem_Mem_Room [P m] H R:=room_s (gr_out h) hR
theorem gbad_s {g m:Nat}(h:Sep H (grA g m X::L))(hR:R (I X.G.S.bads) H):CA en F.smem_Mem_Bad [P m] H R:=bad_s (gr_out h) hR
theorem glive_s {g m:Nat}(h:Sep H (grA g m X::L))(hR:R (I X.G.S.regs.length) H):CA en F.smem_Mem_Live [P m] H R:=live_s (gr_out h) hR
theorem rover_s (h:Rk H PL r c q X L)(hd:q.dn=true)(hR:R (.tuple #[.bool false,.bool true]) H):CA en F.lru_Run_Step [P r] H R:=by
 have⟨sa,nv,hrv,hnv,hs⟩:=h.ex;apply vc_lru_Run_Step;exact asAddr_in ⟨_,Sep.ld0 hs rfl,cond_yes hd hR⟩
structure ResK (a:Kb)(q:Qr):Prop where
 na:a.ra=none->a.rv=[]
 same:a.had=true->a.no=q.no/\a.rv=q.rv/\a.rk=q.rk/\a.el=q.el/\q.rv.length<=1
structure Stp (c:Lc)(had:Bool)(m0:Int)(G:Gr)(q q':Qr)(hs hs':List Int)(D D':Dq):Prop where
 no:q'.eff=false->hs'=hs/\D'=D
 yes:q'.eff=true->had=false/\Did c m0 G q' hs hs' D D'
 dn:q'.dn=true->(had||q'.eff)=true
 kp:Kp {q with eff:=false} q'
 nd:hs'.Nodup
 len:hs'.length<=1000000
theorem OpK.step (op:OpK a q)(kp:Kp {q with eff:=false} q'):OpK a q':=by
 have h:=kp.1;unfold Qr.op at h;simp only [Prod.mk.injEq] at h;have⟨h1,h2,h3,h4,h5,h6⟩:=h;exact ⟨op.kd.trans h1.symm,op.ky.trans h2.symm,op.fl.trans h3.symm,h5.trans op.vb,λe=>by rw [h4];exact op.val e⟩
theorem res_keep (kp:Kp {q with eff:=false} q')(h:q'.eff=false):q'.res=q.res:=by
 rcases kp.2 with h1|h1
 ·exact h1.2
 ·rw [h] at h1;cases h1
theorem runs_s (hk:KO css k)(h:Rk H PL r c q X (SL c z css k u hs D a M))(hr:a.run=some ⟨r,0,none⟩)(o:Ok16 c.d1 u.lb u.wb D)(he:z.d.b=c.d1)(pz:PzOk hs u)(hva:a.va=none->a.vl=[])
  (op:OpK a q)(rs:ResK a q)(hl:D.ws.length<1000000)(hm0:0<=m0)(hlq:X.G.q.length<10000)(hf:X.G.S.fresh)(hnx:q.nx≠.none)(hqd:q.dn=false)
  {Z:Nat->List Int->Dq->Prop}(st:∀b,∃hs' D',Stp c a.had m0 X.G q (q.step c X.G b).1 hs hs' D D'/\Z b hs' D')
  (hR:∀H' PL' X' a' u' b hs' D',Z b hs' D'->X'.G=(q.step c X.G b).2->a'.had=(a.had||(q.step c X.G b).1.eff)->(∃g no rv rk el,a'={a with had:=a.had||(q.step c X.G b).1.eff,no:=no,ra:=g,rv:=rv,rk:=rk,el:=el})->
   OpK a' (q.step c X.G b).1->ResK a' (q.step c X.G b).1->Ok16 c.d1 u'.lb u'.wb D'->PzOk hs' u'->(∀x∈u.B,x∈u'.B)->((q.step c X.G b).1.eff=true->(q.step c X.G b).1.kd=1->(q.step c X.G b).1.no=0->∃p∈D'.L,(q.step c X.G b).1.el=elOf hs' p.2/\p.2∈u'.B)->
   Stp c a.had m0 X.G q (q.step c X.G b).1 hs hs' D D'->((q.step c X.G b).1.eff=false->u'=u)->
   Rk H' PL' r c (q.step c X.G b).1 X' (SL c z css k u' hs' D' a' M)->R (.tuple #[.bool (q.step c X.G b).1.dn,.bool true]) H') :
  CA en F.crossbarlaw16_side_runs [P z.s,.pointer (some ⟨z.ab,0+k*24,none⟩)] H R:=by
 apply vc_crossbarlaw16_side_runs;have⟨sa,nv,hrv,hnv,hs0⟩:=h.ex;refine asAddr_in ⟨_,Sep.ld6 hs0 rfl,groom_s (Sep.up3 hs0) ⟨_,rfl,asAddr_in ⟨_,ald hk hs0 (j:=5) rfl rfl,?_⟩⟩⟩;rw [hr];refine step_s h hlq hf hnx λH11 PL1 X1 b eX o11=>?_
 have⟨hs',D',sp,hZ⟩:=st b;have hRb:=λH' PL' X' a' u'=>hR H' PL' X' a' u' b hs' D' hZ
 clear hR st hZ;have etell:q.tells (q.step c X.G b).1=((q.step c X.G b).1.eff,(q.step c X.G b).1.dn):=by unfold Qr.tells;rw [if_neg (by rw [hqd];exact Bool.false_ne_true)]
 rw [etell];generalize hst:q.step c X.G b=s at *;refine ⟨_,_,rfl,?_⟩;show bif s.1.eff then _ else _;have fin:∀{H:Heap}{a':Kb}{u':Su},a'.had=(a.had||s.1.eff)->(∃g no rv rk el,a'={a with had:=a.had||s.1.eff,no:=no,ra:=g,rv:=rv,rk:=rk,el:=el})->a'.run=some ⟨r,0,none⟩->OpK a' s.1->ResK a' s.1->Ok16 c.d1 u'.lb u'.wb D'->PzOk hs' u'->(∀x∈u.B,x∈u'.B)->(s.1.eff=true->s.1.kd=1->s.1.no=0->∃p∈D'.L,s.1.el=elOf hs' p.2/\p.2∈u'.B)->(s.1.eff=false->u'=u)->
   Rk H PL1 r c s.1 X1 (SL c z css k u' hs' D' a' M)->(bif (!s.1.dn) then R (.tuple #[.bool false,.bool true]) H else
   AS.asAddr (P z.s) λi17 i18=>∃a19,H.cell i17 i18=some (.pointer a19)/\CA en F.smem_Mem_Count [.pointer a19] H λv20 H21=>∃n22,v20=(I n22)/\
    AS.asAddr (.pointer (some ⟨z.ab,0+k*24,none⟩)) λi23 i24=>∃a25,H21.cell i23 (i24+10)=some (.pointer a25)/\CA en F.lru_Run_Step [.pointer a25] H21 λv26 H27=>∃b28,∃b29,v26=(.tuple #[(.bool b28),(.bool b29)])/\
    AS.asAddr (.pointer (some ⟨z.ab,0+k*24,none⟩)) λi30 i31=>∃b32,(H27.bump 34).cell i30 (i31+17)=some (.bool b32)/\
    bif b32 then (bif (!b28) then (bif b29 then (AS.asAddr (P z.s) λi33 i34=>∃a35,(H27.bump 34).cell i33 i34=some (.pointer a35)/\CA en F.smem_Mem_Count [(.pointer a35)] (H27.bump 34) λv36 H37=>∃n38,v36=(I n38)/\
     bif (n38==n22) then (AS.asAddr (.pointer (some ⟨z.ab,0+k*24,none⟩)) λi39 i40=>∃a41,H37.cell i39 (i40+10)=some (.pointer a41)/\CA en F.lru_Run_Result [(.pointer a41)] H37 λv42 H43=>
      ∃n44,∃a45 i46,∃n47,∃n48,v42=(.agg #[(I n44),(.slice a45 i46 0),(.int .u64 n47),(I n48)])/\AS.asAddr (.pointer (some ⟨z.ab,0+k*24,none⟩)) λi49 i50=>
      ∃n51,∃a52 i53,∃n54,∃n55,H43.cellsAt i49 (i50+18) 4=some [(I n51),(.slice a52 i53 0),(.int .u64 n54),(I n55)]/\
      CA en F.crossbarkit_SameRes [(.agg #[(I n44),(.slice a45 i46 0),(.int .u64 n47),(I n48)]),(.agg #[(I n51),(.slice a52 i53 0),(.int .u64 n54),(I n55)])] H43 λv56 H57=>∃b58,v56=(.bool b58)/\
      ((R (.tuple #[(.bool true),(.bool b58)]) H57)/\
      ((∃n64,∃a65 i66,∃n67,∃n68,H37.cellsAt i49 (i50+18) 4=some [(I n64),(.slice a65 i66 0),(.int .u64 n67),(I n68)]/\sameN 8 (.agg #[(I n51),(.slice a52 i53 0),(.int .u64 n54),(I n55)]) (.agg #[(I n64),(.slice a65 i66 0),(.int .u64 n67),(I n68)])=true)/\
       (∃n59,∃a60 i61,∃n62,∃n63,H43.cellsAt i49 (i50+18) 4=some [(I n59),(.slice a60 i61 0),(.int .u64 n62),(I n63)]/\sameN 8 (.agg #[(I n51),(.slice a52 i53 0),(.int .u64 n54),(I n55)]) (.agg #[(I n59),(.slice a60 i61 0),(.int .u64 n62),(I n63)])=true)/\True)/\True))
     else ((R (.tuple #[(.bool true),(.bool false)]) H37)/\True)) else ((R (.tuple #[(.bool true),(.bool false)]) (H27.bump 34))/\True)) else ((R (.tuple #[(.bool true),(.bool false)]) (H27.bump 34))/\True)) else ((R (.tuple #[(.bool true),(.bool false)]) (H27.bump 34))/\True)):=by
  intro H a' u' e1 e2 e3 op' rs' o' pz' hsub hel hu o2;refine cond_of (λw=>?_) λw=>?_
  ·have w:s.1.dn=false:=by simpa using w
   have:=hRb H PL1 X1 a' u' eX e1 e2 op' rs' o' pz' hsub hel sp hu o2
   rw [w] at this;exact this
  ·have w:s.1.dn=true:=by simpa using w
   have hhad:a'.had=true:=by rw [e1];exact sp.dn w
   have⟨sa,nv,hrv,hnv,h2⟩:=o2.ex;refine asAddr_in ⟨_,Sep.ld6 h2 rfl,gcount_s (Sep.up3 h2) ⟨_,rfl,asAddr_in ⟨_,ald hk h2 (j:=5) rfl rfl,?_⟩⟩⟩;rw [e3];refine rover_s o2 w ⟨_,_,rfl,?_⟩;have hB:=h2.bump 34;refine asAddr_in ⟨_,ald hk hB (j:=5) rfl rfl,cond_yes hhad (cond_yes rfl (cond_yes rfl (asAddr_in ⟨_,Sep.ld6 hB rfl,gcount_s (Sep.up3 hB) ⟨_,rfl,cond_yes (by simp) (asAddr_in ⟨_,ald hk hB (j:=5) rfl rfl,?_⟩)⟩⟩)))⟩;rw [e3];have oB:Rk (H.bump 34) PL1 r c s.1 X1 (SL c z css k u' hs' D' a' M):=⟨sa,nv,hrv,hnv,hB⟩;refine rres_s oB λH43 g hg o43=>⟨_,_,_,_,_,rfl,?_⟩
   have⟨sa,nv,hrv,hnv,h43⟩:=o43.ex;have⟨r1,r2,r3,r4,r5⟩:=rs'.same hhad;refine asAddr_in ⟨_,_,_,_,_,alds hk h43 (j:=6) rfl rfl,?_⟩;have hra:RdW (rA r c s.1 sa nv::many PL1::xA c::grA c.g c.m X1::many (tkL c s.1.nx)::gl 1 g (s.1.rv.map W)::SL c z css k u' hs' D' a' M) (addr a'.ra) s.1.rv:=by
    rw [<-r2];exact rdw_gl (q:=a'.ra) (by simp) rs'.na
   have e5:(Value.agg #[I a'.no,.slice (addr a'.ra) a'.rv.length 0,W a'.rk,I a'.el])=.agg #[I s.1.no,.slice (addr a'.ra) s.1.rv.length 0,W s.1.rk,I s.1.el]:=by rw [r1,r2,r3,r4]
   have e6:sameN 8 (.agg #[I s.1.no,.slice (addr a'.ra) s.1.rv.length 0,W s.1.rk,I s.1.el]) (.agg #[I a'.no,.slice (addr a'.ra) a'.rv.length 0,W a'.rk,I a'.el])=true:=by rw [<-e5];exact sameRes ..
   show CA en F.crossbarkit_SameRes [_,.agg #[I a'.no,.slice (addr a'.ra) a'.rv.length 0,W a'.rk,I a'.el]] H43 _;rw [e5];refine SameRes_s (ws:=s.1.rv) h43 (rdw_gl (q:=g) (by simp) hg) hra rfl rfl (by omega) λH57 h57=>⟨_,rfl,⟨?_,⟨⟨_,_,_,_,_,alds hk hB (j:=5) rfl rfl,e6⟩,⟨_,_,_,_,_,alds hk h43 (j:=6) rfl rfl,e6⟩,trivial⟩,trivial⟩⟩
   have:=hRb H57 PL1 X1 a' u' eX e1 e2 op' rs' o' pz' hsub hel sp hu ⟨sa,nv,hrv,hnv,Sep.rm5 h57⟩
   rw [w] at this;exact this
 refine cond_of (λw=>?_) λw=>?_
 ·have⟨hh,hdid⟩:=sp.yes w;refine took_s hk o11 hh hr o he pz hva (op.step sp.kp) hl hdid rfl hm0 sp.nd sp.len λH15 a' u' g ea hg o' pz' hsub h1 hel o15=>⟨_,rfl,cond_no rfl ?_⟩
  have e1:a'.had=(a.had||s.1.eff):=by rw [ea,w];simp
  refine fin (a':=a') (u':=u') e1 ⟨g,s.1.no,s.1.rv,s.1.rk,s.1.el,by rw [ea,w];simp⟩ (by rw [ea];exact hr) ?_ ⟨by rw [ea];exact hg,λ_=>by rw [ea];exact ⟨rfl,rfl,rfl,rfl,h1⟩⟩ o' pz' hsub (λ_=>hel) (λe=>by rw [w] at e;cases e) o15
  have:=op.step sp.kp
  rw [ea];exact ⟨this.kd,this.ky,this.fl,this.vb,this.val⟩
 ·obtain ⟨rfl,rfl⟩:=sp.no w;have hres:=res_keep sp.kp w;unfold Qr.res at hres;simp only [Prod.mk.injEq] at hres;have⟨x1,x2,x3,x4⟩:=hres;refine fin (a':=a) (u':=u) (by rw [w];simp) ⟨a.ra,a.no,a.rv,a.rk,a.el,by rw [w];simp⟩ hr (op.step sp.kp) ⟨rs.na,λe=>?_⟩ o pz (λ_ h=>h) (λe=>by rw [w] at e;cases e) (λ_=>rfl) o11;have⟨r1,r2,r3,r4,r5⟩:=rs.same e;exact ⟨r1.trans x1.symm,r2.trans x2.symm,r3.trans x3.symm,r4.trans x4.symm,by rw [x2];exact r5⟩
end
section
variable {H H':Heap} {R:Value->Heap->Prop} {L M:List Asr} {hs hs':List Int} {D D':Dq} {c:Lc} {q q':Qr} {X:Gx} {PL:List Asr} {r vb:Nat}
variable {z:Sd} {css:List (List Value)} {k:Nat} {u:Su} {a:Kb} {m0:Int} {G:Gr} {kb:Option Nat} {v:Value}
theorem SL_mid {A:Asr}:(A::SL c z css k u hs D a M).Perm (SL c z css k u hs D a (A::M)):=
 (List.perm_middle (a:=A) (l₁:=[aB z css k a,sB c z u,gl 1 a.va (wds a.vl),gl 1 a.ra (wds a.rv),gl 1 a.kb (wds a.ks),y16 z.y z.d u.lb u.wb D,l16 u.lb D,w16 u.wb D,pzA hs u,pzB u]) (l₂:=M)).symm
theorem Rk.permL (h:Rk H PL r c q X L){L':List Asr}(p:L.Perm L'):Rk H PL r c q X L':=by
 have⟨sa,nv,h1,h2,hs⟩:=h.ex;exact ⟨sa,nv,h1,h2,hs.perm (((((p.cons _).cons _).cons _).cons _).cons _)⟩
theorem enters_s (hk:KO css k)(h:Vk H PL r vb c q X (SL c z css k u hs D a M))(hvis:a.vis=some ⟨vb,0,none⟩)(ha:a.had=false)(o:Ok16 c.d1 u.lb u.wb D)(hl:q.keys.length<=1000)(hv:q.nx.vis)(hqd:q.dn=false)
  (heq:(q.step c X.G 0).1.eff=(q.step c X.G 0).1.dn)(hkeys:(q.step c X.G 0).1.dn=true->(q.step c X.G 0).1.keys=D.keys)
  (h1:∀H' PL' X',(q.step c X.G 0).1.dn=false->X'.G=(q.step c X.G 0).2->Vk H' PL' r vb c (q.step c X.G 0).1 X' (SL c z css k u hs D a M)->R (.bool true) H')
  (h2:∀H' X' kb v g,(q.step c X.G 0).1.dn=true->X'.G=(q.step c X.G 0).2->(kb=none->(q.step c X.G 0).1.keys=[])->(g=none->(q.step c X.G 0).1.keys=[])->
   Sep H' (many (vsL r vb c kb (q.step c X.G 0).1 v)::xA c::grA c.g c.m X'::SL c z css k u hs D {a with had:=true,kb:=g,ks:=(q.step c X.G 0).1.keys,ph:=3} M)->R (.bool true) H') :
  CA en F.crossbarlaw16_side_enters [P z.s,.pointer (some ⟨z.ab,0+k*24,none⟩)] H R:=by
 apply vc_crossbarlaw16_side_enters;have⟨kb0,nv0,hkb0,hrv0,hnv0,hs0⟩:=h.ex;refine asAddr_in ⟨_,ald hk hs0 (j:=7) rfl rfl,?_⟩;rw [hvis];refine asAddr_in ⟨_,Sep.ld5 hs0 rfl,?_⟩;refine vstep_s h hl hv λH8 PL8 X8 eX _ o8=>?_
 have eX:=eX 0;have etell:q.tells (q.step c X.G 0).1=((q.step c X.G 0).1.eff,(q.step c X.G 0).1.dn):=by unfold Qr.tells;rw [if_neg (by rw [hqd];exact Bool.false_ne_true)]
 rw [etell];generalize q.step c X.G 0=s at *;refine ⟨_,_,rfl,cond_no (by rw [heq];simp) ?_⟩;show bif s.1.eff then _ else _;rw [heq];have⟨kb1,nv1,hkb1,hrv1,hnv1,hs1⟩:=o8.ex;refine cond_of (λw=>?_) λw=>?_
 ·have ek:=hkeys w;refine asAddr_in ⟨_,ald hk hs1 (j:=7) rfl rfl,cond_no ha (cond_yes w (asAddr_in (ast hk hs1 (j:=7) rfl {a with had:=true} (Nat.le_of_ble_eq_true rfl) rfl λH16 h16=>asAddr_in ⟨_,ald hk h16 (j:=7) rfl rfl,?_⟩)))⟩;rw [hvis];have o16:Vk H16 PL8 r vb c s.1 X8 (SL c z css k u hs D {a with had:=true} M):=⟨kb1,nv1,hkb1,hrv1,hnv1,h16⟩;have⟨kb2,v2,hkb2,h17⟩:=o16.rest;have hkl:s.1.keys.length<=64:=by rw [ek,keys_len];exact o.short
  refine Keys_s h17 hkb2 (by omega) λH21 o1 ho1 h21=>⟨_,_,rfl,?_⟩
  refine CopyWords_s (ws:=s.1.keys) h21 (rdw_gl (q:=o1) (by simp) ho1) rfl (by omega) λH25 g hg h25=>⟨_,_,rfl,?_⟩
  refine asAddr_in (ast hk h25 (j:=5) rfl {a with had:=true,kb:=g,ks:=s.1.keys} (Nat.le_of_ble_eq_true rfl) rfl λH30 h30=>asAddr_in (ast hk h30 (j:=5) rfl {a with had:=true,kb:=g,ks:=s.1.keys,ph:=3} (Nat.le_of_ble_eq_true rfl) rfl λH33 h33=>?_));have h34:Sep H33 (many (vsL r vb c kb2 s.1 v2)::xA c::grA c.g c.m X8::SL c z css k u hs D {a with had:=true,kb:=g,ks:=s.1.keys,ph:=3} M):=Sep.pick h33 10 [2,3,4,5,6,7,8,0] (by decide);have hB:=h34.bump 11;refine asAddr_in ⟨_,_,ald hk hB (j:=3) rfl rfl,asAddr_in ⟨_,Sep.ld4 hB rfl,?_⟩⟩;have h35:Sep (H33.bump 11) (y16 z.y z.d u.lb u.wb D::l16 u.lb D::many (vsL r vb c kb2 s.1 v2)::xA c::grA c.g c.m X8::aB z css k {a with had:=true,kb:=g,ks:=s.1.keys,ph:=3}::sB c z u::gl 1 a.va (wds a.vl)::gl 1 a.ra (wds a.rv)::gl 1 g (wds s.1.keys)::w16 u.wb D::pzA hs u::pzB u::M):=Sep.pick hB 10 [8,9,0,1,2,3,4,5,6,7] (by decide);refine dkeys_s o h35 λH42 o2 ho2 h42=>⟨_,_,rfl,?_⟩
  show CA en F.crossbarkit_SameWords [.slice (addr g) s.1.keys.length 0,_] H42 _;refine SameWords_s (ws:=s.1.keys) h42 (rdw_gl (q:=g) (by simp) hg) (by rw [ek];exact rdw_gl (q:=o2) (by simp) ho2) rfl (by rw [ek]) (by omega) λH46 h46=>⟨_,rfl,⟨?_,⟨⟨_,_,ald hk hB (j:=3) rfl rfl,rfl,rfl,rfl⟩,⟨_,_,ald hk h42 (j:=6) rfl rfl,rfl,rfl,rfl⟩,trivial⟩,trivial⟩⟩
  exact h2 H46 X8 kb2 v2 g w eX hkb2 hg (Sep.pick h46 12 [3,4,5,6,7,8,9,10,1,2,11] (by decide))
 ·exact cond_no w (h1 H8 PL8 X8 w eX o8)
theorem vruns_s {M':List Asr}(hM:M=many (vsL r vb c kb q' v)::M'){r2:Nat}{PL2:List Asr}(hk:KO css k)(h:Rk H PL2 r2 c q X (SL c z css k u hs D a M))(hr:a.run=some ⟨r2,0,none⟩)(o:Ok16 c.d1 u.lb u.wb D)(he:z.d.b=c.d1)(pz:PzOk hs u)(hva:a.va=none->a.vl=[])
  (op:OpK a q)(rs:ResK a q)(hl:D.ws.length<1000000)(hm0:0<=m0)(hlq:X.G.q.length<10000)(hf:X.G.S.fresh)(hnx:q.nx≠.none)(hqd:q.dn=false)
  {Z:Nat->List Int->Dq->Prop}(st:∀b,∃hs' D',Stp c a.had m0 X.G q (q.step c X.G b).1 hs hs' D D'/\Z b hs' D')
  (hR:∀H' X' a' u' b hs' D',Z b hs' D'->X'.G=(q.step c X.G b).2->a'.had=(a.had||(q.step c X.G b).1.eff)->(∃g no rv rk el,a'={a with had:=a.had||(q.step c X.G b).1.eff,no:=no,ra:=g,rv:=rv,rk:=rk,el:=el})->
   OpK a' (q.step c X.G b).1->ResK a' (q.step c X.G b).1->Ok16 c.d1 u'.lb u'.wb D'->PzOk hs' u'->(∀x∈u.B,x∈u'.B)->((q.step c X.G b).1.eff=true->(q.step c X.G b).1.kd=1->(q.step c X.G b).1.no=0->∃p∈D'.L,(q.step c X.G b).1.el=elOf hs' p.2/\p.2∈u'.B)->
   Stp c a.had m0 X.G q (q.step c X.G b).1 hs hs' D D'->((q.step c X.G b).1.eff=false->u'=u)->
   (((q.step c X.G b).1.dn=false/\∃PL',Rk H' PL' r2 c (q.step c X.G b).1 X' (SL c z css k u' hs' D' a' M))∨
    ((q.step c X.G b).1.dn=true/\Sep H' (many (vsL r vb c kb q' v)::xA c::grA c.g c.m X'::SL c z css k u' hs' D' {a' with run:=none} M')))->R (.bool true) H') :
  CA en F.crossbarlaw16_side_runs [P z.s,.pointer (some ⟨z.ab,0+k*24,none⟩)] H λw H76=>∃b77,∃b78,w=(.tuple #[(.bool b77),(.bool b78)])/\
   bif b77 then (AS.asAddr (.pointer (some ⟨z.ab,0+k*24,none⟩)) λi79 i80=>stc H76 i79 (i80+10) [(.pointer none)] λH81=>R (.bool b78) H81) else (R (.bool b78) H76):=by
 refine runs_s hk h hr o he pz hva op rs hl hm0 hlq hf hnx hqd st λH76 PL' X' a' u' b hs' D' hZ eX e1 e2 op' rs' o' pz' hsub hel sp hu o2=>⟨_,_,rfl,cond_of (λw=>?_) λw=>?_⟩
 ·have⟨sa,nv,hrv,hnv,h2⟩:=o2.ex;refine asAddr_in (ast hk h2 (j:=5) rfl {a' with run:=none} (Nat.le_of_ble_eq_true rfl) rfl λH81 h81=>?_);refine hR H81 X' a' u' b hs' D' hZ eX e1 e2 op' rs' o' pz' hsub hel sp hu (.inr ⟨w,?_⟩);subst hM;exact Sep.pick h81 16 [15,2,3,5,6,7,8,9,10,11,12,13,14] (by decide)
 ·exact hR H76 X' a' u' b hs' D' hZ eX e1 e2 op' rs' o' pz' hsub hel sp hu (.inl ⟨w,PL',o2⟩)
theorem cell16_s {h:Int}{p:Option Addr}(hh:1<=h)(hR:R (.tuple #[I h,I 1]) H):CA en F.lru_Map_Cell [.pointer p,I h] H R:=by
 apply vc_lru_Map_Cell;exact cond_no (decide_eq_false (by omega)) hR
theorem cell0_s {b:Nat}(hk:KO css k)(h:Sep H (xA c::grA c.g c.m X::SL c z css k u hs D a M))(hi:a.i=0)(hel:1<=a.el)(he:a.elem=(b:Int))(hb:1<=b/\b<=D.ws.length)(o:Ok16 c.d1 u.lb u.wb D)
  (hR:∀H',Sep H' (xA c::grA c.g c.m (X.to (X.G.S.acc a.el 1 true λ_=>a.dn).2)::SL c z css k u hs ⟨D.L,D.ws.set (b - 1) a.dn⟩ {a with i:=1} M)->R (.bool (X.G.S.acc a.el 1 true λ_=>a.dn).1.2) H') :
  CA en F.crossbarlaw16_side_cell [P z.s,.pointer (some ⟨z.ab,0+k*24,none⟩)] H R:=by
 apply vc_crossbarlaw16_side_cell;have hB:=h.bump 15;have hlv:=o.lv;refine asAddr_in ⟨_,Sep.ld3 hB rfl,asAddr_in ⟨_,ald hk hB (j:=2) (o:=18+3) rfl rfl,?_⟩⟩;refine cell16_s (h:=a.el) hel ⟨_,_,rfl,⟨asAddr_in ⟨_,ald hk hB (j:=2) rfl rfl,?_⟩,trivial⟩⟩;have x1:((a.i==0):Bool)=true:=by rw [hi];rfl
 refine cond_yes x1 (asAddr_in (ast hk hB (j:=2) rfl {a with i:=1} (Nat.le_of_ble_eq_true rfl) rfl λH16 h16=>?_));have hC:=h16.bump 19;have hC:Sep (H16.bump 19) (xA c::grA c.g c.m X::SL c z css k u hs D {a with i:=1} M):=hC;refine asAddr_in ⟨_,Sep.ld3 hC rfl,asAddr_in ⟨_,_,Sep.ld7 hC rfl,asAddr_in ⟨_,ald hk hC (j:=2) rfl rfl,asAddr_in ⟨_,ald hk hC (j:=2) (o:=3+6) rfl rfl,?_⟩⟩⟩⟩;have ew:IntKind.i64.wrap (a.elem - 1)=((b - 1:Nat):Int):=by rw [he,wrap_i64 (by omega)];omega
 rw [ew];refine ⟨⟨by omega,by omega⟩,?_⟩;have hD:Sep (H16.bump 19) (w16 u.wb D::xA c::grA c.g c.m X::aB z css k {a with i:=1}::sB c z u::gl 1 a.va (wds a.vl)::gl 1 a.ra (wds a.rv)::gl 1 a.kb (wds a.ks)::y16 z.y z.d u.lb u.wb D::l16 u.lb D::pzA hs u::pzB u::M):=Sep.up9 hC;have hw2:u.wb=none->D.ws.map W=[]:=λe=>by rw [o.n2 e];rfl
 refine gl_st' hD hw2 (o:=((b - 1:Nat):Int).toNat*1) (vs:=[W a.dn]) (by rw [Int.toNat_natCast,List.length_map];simp only [List.length_cons,List.length_nil];omega) (by simp) λi' H50 h50=>⟨?_,trivial⟩
 rw [Int.toNat_natCast,Nat.mul_one,setAt1] at h50;have e6:(D.ws.map W).set (b - 1) (W a.dn)=(D.ws.set (b - 1) a.dn).map W:=(List.map_set ..).symm;rw [e6] at h50;have hE:=h50.bump 13;refine asAddr_in ⟨_,Sep.ld4 hE rfl,asAddr_in ⟨_,ald hk hE (j:=3) (o:=3+6) rfl rfl,?_⟩⟩;refine gstore_s (Sep.up2 hE) λH40 h40=>⟨_,rfl,⟨hR H40 ?_,trivial⟩⟩
 have h41:=Sep.pick h40 12 [2,0,3,4,5,6,7,8,9,1,10,11] (by decide);show Sep H40 (xA c::grA c.g c.m _::aB z css k {a with i:=1}::sB c z u::gl 1 a.va (wds a.vl)::gl 1 a.ra (wds a.rv)::gl 1 a.kb (wds a.ks)::bx z.y (.cells true 0 [I z.d.a,I z.d.b,I z.d.c,I z.d.d,I z.d.e,.slice (addr u.lb) D.L.length 0,.slice (addr u.wb) (D.ws.set (b - 1) a.dn).length 0])::_);rw [List.length_set];exact h41
theorem cell1_s {b:Nat}{w:Wd}(hk:KO css k)(h:Sep H (xA c::grA c.g c.m X::SL c z css k u hs D a M))(hi:a.i=1)(hel:1<=a.el)(he:a.elem=(b:Int))(hb:1<=b/\b<=D.ws.length)(o:Ok16 c.d1 u.lb u.wb D)
  (hw:D.ws[b - 1]? =some w)(hacc:(X.G.S.acc a.el 1 true id).1=(w,true))
  (hR:∀H',Sep H' (xA c::grA c.g c.m (X.to (X.G.S.acc a.el 1 true id).2)::SL c z css k u hs D {a with ph:=6} M)->R (.bool true) H') :
  CA en F.crossbarlaw16_side_cell [P z.s,.pointer (some ⟨z.ab,0+k*24,none⟩)] H R:=by
 apply vc_crossbarlaw16_side_cell;have hB:=h.bump 15;have hlv:=o.lv;refine asAddr_in ⟨_,Sep.ld3 hB rfl,asAddr_in ⟨_,ald hk hB (j:=2) (o:=18+3) rfl rfl,?_⟩⟩;refine cell16_s (h:=a.el) hel ⟨_,_,rfl,⟨asAddr_in ⟨_,ald hk hB (j:=2) rfl rfl,?_⟩,trivial⟩⟩;have x1:((a.i==0):Bool)=false:=by rw [hi];rfl
 refine cond_no x1 (asAddr_in (ast hk hB (j:=2) rfl {a with ph:=6} (Nat.le_of_ble_eq_true rfl) rfl λH44 h44=>?_));have h44:Sep H44 (xA c::grA c.g c.m X::SL c z css k u hs D {a with ph:=6} M):=h44;refine asAddr_in ⟨_,Sep.ld3 h44 rfl,gload_s (Sep.up1 h44) λH49 h49=>⟨_,_,rfl,?_⟩⟩;rw [hacc];refine cond_yes rfl ?_;have hC:=(Sep.up1 h49).bump 20;refine asAddr_in ⟨_,Sep.ld3 hC rfl,asAddr_in ⟨_,_,Sep.ld7 hC rfl,asAddr_in ⟨_,ald hk hC (j:=2) rfl rfl,?_⟩⟩⟩;have ew:IntKind.i64.wrap (a.elem - 1)=((b - 1:Nat):Int):=by rw [he,wrap_i64 (by omega)];omega
 rw [ew];refine ⟨⟨by omega,by omega⟩,gl_ld (Sep.up9 hC) (λe=>by rw [o.n2 e];rfl) (o:=b - 1) (v:=W w) (by rw [List.getElem?_map,hw];rfl) λi hc=>⟨_,by rw [Int.toNat_natCast,Nat.mul_one];exact hc,⟨?_,trivial⟩⟩⟩
 have:=hR (H49.bump 20) hC
 simpa using this
theorem finish_s (hk:KO css k)(hkn:k<z.n)(h:Sep H (xA c::grA c.g c.m X::SL c z css k u hs D a M))(hq:X.G.q.length<100000)
  (hR:∀H' X',X'.G=(X.G.leave k).2->Sep H' (xA c::grA c.g c.m X'::SL c z css k u hs D {a with ph:=0} M)->R undef H') :
  CA en F.crossbarlaw16_side_finish [P z.s,I k] H R:=by
 apply vc_crossbarlaw16_side_finish;refine asAddr_in ⟨_,_,Sep.ld3 h rfl,⟨by omega,by omega⟩,asRow_in ?_⟩;rw [Int.toNat_natCast];refine ast hk h (j:=2) rfl {a with ph:=0} (Nat.le_of_ble_eq_true rfl) rfl λH7 h7=>asAddr_in ⟨_,Sep.ld3 h7 rfl,?_⟩
 have h8:Sep H7 (grA c.g c.m X::xA c::SL c z css k u hs D {a with ph:=0} M):=Sep.up1 h7;refine leave_s (gr_isG h8) hq λH12 f _ h12=>⟨_,_,rfl,?_⟩
 have⟨X',eX,h13⟩:=isG_gr h12;exact hR H12 X' eX (Sep.pick h13 3 [2,0] (by decide))
end
section
variable {H H':Heap} {R:Value->Heap->Prop} {L M:List Asr} {hs hs':List Int} {D D':Dq} {c:Lc} {q:Qr} {X:Gx} {PL:List Asr} {r vb:Nat}
variable {z:Sd} {css:List (List Value)} {k:Nat} {u:Su} {a:Kb} {m0:Int} {G:Gr} {kb:Option Nat} {v:Value}
theorem leaves_s (hk:KO css k)(h:Rk H PL r c q X (SL c z css k u hs D a M))(hr:a.run=some ⟨r,0,none⟩)(hlq:X.G.q.length<10000)(hf:X.G.S.fresh)(hnx:q.nx≠.none)(hqd:q.dn=false)
  {G':Gr}{q2:Qr}(st:∀b,q.step c X.G b=(q2,G'))(h1:q2.eff=false)(h2:q2.dn=true)
  (hR:∀H' PL' X',X'.G=G'->Rk H' PL' r c q2 X' (SL c z css k u hs D {a with ph:=6} M)->R (.bool true) H') :
  CA en F.crossbarlaw16_side_leaves [P z.s,.pointer (some ⟨z.ab,0+k*24,none⟩)] H R:=by
 apply vc_crossbarlaw16_side_leaves;have⟨sa,nv,hrv,hnv,hs0⟩:=h.ex;refine asAddr_in ⟨_,ald hk hs0 (j:=5) rfl rfl,?_⟩;rw [hr];refine step_s h hlq hf hnx λH5 PL5 X5 b eX o5=>?_
 have etell:q.tells (q.step c X.G b).1=((q.step c X.G b).1.eff,(q.step c X.G b).1.dn):=by unfold Qr.tells;rw [if_neg (by rw [hqd];exact Bool.false_ne_true)]
 rw [etell];rw [st b] at eX o5⊢;refine ⟨_,_,rfl,?_⟩;show bif q2.dn then _ else _;have⟨sa,nv,hrv,hnv,hs5⟩:=o5.ex;refine cond_yes h2 (asAddr_in (ast hk hs5 (j:=5) rfl {a with ph:=6} (Nat.le_of_ble_eq_true rfl) rfl λH10 h10=>?_));show R (.bool (!q2.eff)) H10;rw [h1];exact hR H10 PL5 X5 eX ⟨sa,nv,hrv,hnv,h10⟩
abbrev vq (c:Lc)(kd:Int)(w:Wd):Qr:={Qr.zero none with kd:=kd,ky:=w,st:=true}.begin c
abbrev va' (a:Kb)(kd:Int)(w:Wd):Kb:={a with had:=false,kd:=kd,ky:=w,va:=none,vl:=[],fl:=0,cp:=0}
theorem vend_s (hk:KO css k)(h:Sep H (many (vsL r vb c kb q v)::xA c::grA c.g c.m X::SL c z css k u hs D a M))(hvis:a.vis=some ⟨vb,0,none⟩)(hkb:kb=none->q.keys=[])(hrn:a.run=none)(hi:a.i=(a.ks.length:Int))(hlq:X.G.q.length<10000)(hf:X.G.S.fresh)
  {G':Gr}{q2:Qr}(st:∀b,({Qr.zero none with nx:=.drop}:Qr).step c X.G b=(q2,G'))(h1:q2.eff=false)(h2:q2.dn=true)
  (hR:∀H' X' p,X'.G=G'->Sep H' (xA c::grA c.g c.m X'::SL c z css k u hs D {a with ph:=6,run:=p} M)->R (.bool true) H') :
  CA en F.crossbarlaw16_side_visits [P z.s,.pointer (some ⟨z.ab,0+k*24,none⟩)] H R:=by
 apply vc_crossbarlaw16_side_visits;refine asAddr_in ⟨_,ald hk h (j:=3) rfl rfl,?_⟩;rw [hrn];have hB:=h.bump 10;refine cond_yes rfl (asAddr_in ⟨_,ald hk hB (j:=3) rfl rfl,asAddr_in ⟨_,_,ald hk hB (j:=3) rfl rfl,⟨?_,trivial⟩⟩⟩);have x1:((a.i==(a.ks.length:Int)):Bool)=true:=by rw [hi];simp
 refine cond_yes x1 (asAddr_in ⟨_,ald hk hB (j:=3) rfl rfl,?_⟩);rw [hvis];refine Leave_s hB λH15 PL' r' o15=>⟨_,rfl,?_⟩
 have⟨sa,nv,hrv,hnv,h15⟩:=o15.ex;refine asAddr_in (ast hk h15 (j:=6) rfl {a with run:=some ⟨r',0,none⟩} (Nat.le_of_ble_eq_true rfl) rfl λH19 h19=>asAddr_in (ast hk h19 (j:=6) rfl {a with run:=some ⟨r',0,none⟩,ph:=4} (Nat.le_of_ble_eq_true rfl) rfl λH22 h22=>asAddr_in ⟨_,ald hk h22 (j:=6) rfl rfl,cond_yes rfl ?_⟩));have o22:Rk H22 PL' r' c {Qr.zero none with nx:=.drop} X (many (vsL r vb c kb q v)::SL c z css k u hs D {a with run:=some ⟨r',0,none⟩,ph:=4} M):=⟨sa,nv,hrv,hnv,h22⟩;have o23:=o22.permL SL_mid;refine leaves_s hk o23 rfl hlq hf (λe=>by cases e) rfl st h1 h2 λH27 PL2 X2 eX o27=>⟨_,rfl,?_⟩
 have⟨sa,nv,hrv,hnv,h27⟩:=o27.ex;exact hR H27 X2 (some ⟨r',0,none⟩) eX (Sep.pick h27 16 [2,3,5,6,7,8,9,10,11,12,13,14] (by decide))
theorem vnext_s {j:Nat}{w:Wd}(hk:KO css k)(h:Sep H (many (vsL r vb c kb q v)::xA c::grA c.g c.m X::SL c z css k u hs D a M))(hvis:a.vis=some ⟨vb,0,none⟩)(hkb:kb=none->q.keys=[])(hkeys:q.keys=a.ks)(hrn:a.run=none)(hdk:a.dk=1∨a.dk=2)(nkb:a.kb=none->a.ks=[])(nra:a.ra=none->a.rv=[])
  (hi:a.i=(j:Int))(hj:a.ks[j]? =some w)(hjl:a.ks.length<=64)(o:Ok16 c.d1 u.lb u.wb D)(he:z.d.b=c.d1)(pz:PzOk hs u)(hl:D.ws.length<1000000)(hm0:0<=m0)(hlq:X.G.q.length<10000)(hf:X.G.S.fresh)
  (hnx:∀kd,kd=1∨kd=5->(vq c kd w).nx≠.none/\(vq c kd w).dn=false/\(vq c kd w).op=(kd,w,0,0,none,true))
  {Z:Int->Nat->List Int->Dq->Prop}(st:∀kd,kd=1∨kd=5->∀b,∃hs' D',Stp c false m0 X.G (vq c kd w) ((vq c kd w).step c X.G b).1 hs hs' D D'/\Z kd b hs' D')
  (hR:∀kd,kd=1∨kd=5->∀r2 a1,a1={va' a kd w with run:=some ⟨r2,0,none⟩,i:=(j:Int)+1}->∀H' X' a' u' b hs' D',Z kd b hs' D'->X'.G=((vq c kd w).step c X.G b).2->a'.had=((vq c kd w).step c X.G b).1.eff->(∃g no rv rk el,a'={a1 with had:=((vq c kd w).step c X.G b).1.eff,no:=no,ra:=g,rv:=rv,rk:=rk,el:=el})->
   OpK a' ((vq c kd w).step c X.G b).1->ResK a' ((vq c kd w).step c X.G b).1->Ok16 c.d1 u'.lb u'.wb D'->PzOk hs' u'->(∀x∈u.B,x∈u'.B)->(((vq c kd w).step c X.G b).1.eff=true->((vq c kd w).step c X.G b).1.kd=1->((vq c kd w).step c X.G b).1.no=0->∃p∈D'.L,((vq c kd w).step c X.G b).1.el=elOf hs' p.2/\p.2∈u'.B)->
   Stp c false m0 X.G (vq c kd w) ((vq c kd w).step c X.G b).1 hs hs' D D'->(((vq c kd w).step c X.G b).1.eff=false->u'=u)->
   ((((vq c kd w).step c X.G b).1.dn=false/\∃PL',Rk H' PL' r2 c ((vq c kd w).step c X.G b).1 X' (SL c z css k u' hs' D' a' (many (vsL r vb c kb q v)::M)))∨
    (((vq c kd w).step c X.G b).1.dn=true/\Sep H' (many (vsL r vb c kb q v)::xA c::grA c.g c.m X'::SL c z css k u' hs' D' {a' with run:=none} M)))->R (.bool true) H') :
  CA en F.crossbarlaw16_side_visits [P z.s,.pointer (some ⟨z.ab,0+k*24,none⟩)] H R:=by
 apply vc_crossbarlaw16_side_visits;have hjl':j<a.ks.length:=(List.getElem?_eq_some_iff.1 hj).1;refine asAddr_in ⟨_,ald hk h (j:=3) rfl rfl,?_⟩;rw [hrn];have hB:=h.bump 10;refine cond_yes rfl (asAddr_in ⟨_,ald hk hB (j:=3) rfl rfl,asAddr_in ⟨_,_,ald hk hB (j:=3) rfl rfl,⟨?_,trivial⟩⟩⟩);have x1:((a.i==(a.ks.length:Int)):Bool)=false:=by rw [hi];simp;omega
 refine cond_no x1 (asAddr_in (ast hk hB (j:=3) rfl {a with had:=false} (Nat.le_of_ble_eq_true rfl) rfl λH31 h31=>?_));have h31:Sep H31 (many (vsL r vb c kb q v)::xA c::grA c.g c.m X::SL c z css k u hs D {a with had:=false} M):=h31;have hC:=h31.bump 15;refine asAddr_in ⟨_,_,ald hk hC (j:=3) rfl rfl,asAddr_in ⟨_,ald hk hC (j:=3) rfl rfl,?_⟩⟩;show inB a.i _/\_;rw [hi];refine ⟨⟨by omega,by show (j:Int)<(a.ks.length:Int);omega⟩,?_⟩;refine gl_ld (Sep.up7 hC) (λe=>by show wds a.ks=[];rw [nkb e];rfl) (o:=j) (v:=W w) (by show (a.ks.map W)[j]? =_;rw [List.getElem?_map,hj];rfl) λiw hc=>⟨_,by rw [Int.toNat_natCast,Nat.mul_one];exact hc,?_⟩
 have hC1:Sep (H31.bump 15) (gl 1 none (wds [])::many (vsL r vb c kb q v)::xA c::grA c.g c.m X::aB z css k {a with had:=false}::sB c z u::gl 1 a.ra (wds a.rv)::gl 1 a.kb (wds a.ks)::y16 z.y z.d u.lb u.wb D::l16 u.lb D::w16 u.wb D::pzA hs u::pzB u::M):=gl_none.2 (Sep.rm5 hC);have hC2:Sep (H31.bump 15) (many (vsL r vb c kb q v)::xA c::grA c.g c.m X::aB z css k {a with had:=false}::sB c z u::gl 1 none (wds [])::gl 1 a.ra (wds a.rv)::gl 1 a.kb (wds a.ks)::y16 z.y z.d u.lb u.wb D::l16 u.lb D::w16 u.wb D::pzA hs u::pzB u::M):=Sep.pick hC1 6 [1,2,3,4,5,0] (by decide);refine asAddr_in (ast hk hC2 (j:=3) rfl (va' a 1 w) (Nat.le_of_ble_eq_true rfl) rfl λH44 h44=>⟨?_,trivial⟩);refine asAddr_in (ast hk h44 (j:=3) rfl {va' a 1 w with run:=none} (Nat.le_of_ble_eq_true rfl) rfl λH47 h47=>asAddr_in ⟨_,ald hk h47 (j:=3) rfl rfl,?_⟩);have h47:Sep H47 (many (vsL r vb c kb q v)::xA c::grA c.g c.m X::SL c z css k u hs D {va' a 1 w with run:=none} M):=h47;have fin:∀kd,(kd=1∨kd=5)->∀{H:Heap} {PL' r'},Rk H PL' r' c (vq c kd w) X (many (vsL r vb c kb q v)::SL c z css k u hs D {va' a kd w with run:=none} M)->
   AS.asAddr (.pointer (some ⟨z.ab,0+k*24,none⟩)) λi63 i64=>stc H i63 (i64+10) [P r'] λH65=>((
    AS.asAddr (.pointer (some ⟨z.ab,0+k*24,none⟩)) λi66 i67=>∃n68,H65.cell i66 (i67+2)=some (I n68)/\
    AS.asAddr (.pointer (some ⟨z.ab,0+k*24,none⟩)) λi69 i70=>stc H65 i69 (i70+2) [(I (IntKind.i64.wrap (n68+1)))] λH71=>
    AS.asAddr (.pointer (some ⟨z.ab,0+k*24,none⟩)) λi72 i73=>∃a74,H71.cell i72 (i73+10)=some (.pointer a74)/\
    bif a74.isNone then (R (.bool false) H71) else (CA en F.crossbarlaw16_side_runs [P z.s,.pointer (some ⟨z.ab,0+k*24,none⟩)] H71 λv75 H76=>
     ∃b77,∃b78,v75=(.tuple #[(.bool b77),(.bool b78)])/\bif b77 then (AS.asAddr (.pointer (some ⟨z.ab,0+k*24,none⟩)) λi79 i80=>stc H76 i79 (i80+10) [(.pointer none)] λH81=>R (.bool b78) H81) else (R (.bool b78) H76)))/\True):=by
  intro kd hkd H PL' r' o1;have⟨sa,nv,hrv,hnv,h1⟩:=o1.ex;refine asAddr_in (ast hk h1 (j:=6) rfl {va' a kd w with run:=some ⟨r',0,none⟩} (Nat.le_of_ble_eq_true rfl) rfl λH65 h65=>⟨asAddr_in ⟨_,ald hk h65 (j:=6) rfl rfl,?_⟩,trivial⟩);have ew:IntKind.i64.wrap (a.i+1)=(j:Int)+1:=by rw [hi,wrap_i64 (by omega)]
  show AS.asAddr _ λi69 i70=>stc H65 i69 (i70+2) [(I (IntKind.i64.wrap (a.i+1)))] _
  rw [ew];refine asAddr_in (ast hk h65 (j:=6) rfl {va' a kd w with run:=some ⟨r',0,none⟩,i:=(j:Int)+1} (Nat.le_of_ble_eq_true rfl) rfl λH71 h71=>asAddr_in ⟨_,ald hk h71 (j:=6) rfl rfl,cond_no rfl ?_⟩);have o71:Rk H71 PL' r' c (vq c kd w) X (many (vsL r vb c kb q v)::SL c z css k u hs D {va' a kd w with run:=some ⟨r',0,none⟩,i:=(j:Int)+1} M):=⟨sa,nv,hrv,hnv,h71⟩;have⟨n1,n2,n3⟩:=hnx kd hkd;unfold Qr.op at n3;simp only [Prod.mk.injEq] at n3;refine vruns_s (r2:=r') rfl hk (o71.permL SL_mid) rfl o he pz (λ_=>rfl) ⟨n3.1.symm,n3.2.1.symm,n3.2.2.1.symm,n3.2.2.2.2.1,λe=>?_⟩ ⟨nra,λe=>by cases e⟩ hl hm0 hlq hf n1 n2 (st kd hkd) λH' X' a' u' b hs' D' hZ eX e1 e2 op' rs' o' pz' hsub hel sp hu o2=>?_
  ·have e:kd=2:=e;omega
  ·exact hR kd hkd r' _ rfl H' X' a' u' b hs' D' hZ eX (by simpa using e1) (by simpa using e2) op' rs' o' pz' hsub hel sp hu o2
 have hj2:q.keys[j]? =some w:=by rw [hkeys];exact hj
 refine cond_of (λz2=>?_) λz2=>?_
 ·refine asAddr_in (ast hk h47 (j:=3) rfl {va' a 5 w with run:=none} (Nat.le_of_ble_eq_true rfl) rfl λH53 h53=>?_);have hD:=h53.bump 13;refine asAddr_in ⟨_,ald hk hD (j:=3) rfl rfl,asAddr_in ⟨_,ald hk hD (j:=3) rfl rfl,?_⟩⟩;show CA en F.lru_Visit_Take [.pointer a.vis,I a.i] _ _;rw [hvis,hi];refine Take_s hD hkb hj2 λH61 PL' r' o61=>⟨_,rfl,?_⟩
  exact fin 5 (.inr rfl) o61
 ·have hD:=h47.bump 13;refine asAddr_in ⟨_,ald hk hD (j:=3) rfl rfl,asAddr_in ⟨_,ald hk hD (j:=3) rfl rfl,?_⟩⟩;show CA en F.lru_Visit_Look [.pointer a.vis,I a.i] _ _;rw [hvis,hi];refine Look_s hD hkb hj2 λH61 PL' r' o61=>⟨_,rfl,?_⟩
  exact fin 1 (.inl rfl) o61
theorem vgoes_s {r2:Nat}{PL2:List Asr}{q2:Qr}{kb2:Option Nat}(hk:KO css k)(h:Rk H PL2 r2 c q X (SL c z css k u hs D a (many (vsL r vb c kb q2 v)::M)))(hr:a.run=some ⟨r2,0,none⟩)(o:Ok16 c.d1 u.lb u.wb D)(he:z.d.b=c.d1)(pz:PzOk hs u)(hva:a.va=none->a.vl=[])
  (op:OpK a q)(rs:ResK a q)(hl:D.ws.length<1000000)(hm0:0<=m0)(hlq:X.G.q.length<10000)(hf:X.G.S.fresh)(hnx:q.nx≠.none)(hqd:q.dn=false)
  {Z:Nat->List Int->Dq->Prop}(st:∀b,∃hs' D',Stp c a.had m0 X.G q (q.step c X.G b).1 hs hs' D D'/\Z b hs' D')
  (hR:∀H' X' a' u' b hs' D',Z b hs' D'->X'.G=(q.step c X.G b).2->a'.had=(a.had||(q.step c X.G b).1.eff)->(∃g no rv rk el,a'={a with had:=a.had||(q.step c X.G b).1.eff,no:=no,ra:=g,rv:=rv,rk:=rk,el:=el})->
   OpK a' (q.step c X.G b).1->ResK a' (q.step c X.G b).1->Ok16 c.d1 u'.lb u'.wb D'->PzOk hs' u'->(∀x∈u.B,x∈u'.B)->((q.step c X.G b).1.eff=true->(q.step c X.G b).1.kd=1->(q.step c X.G b).1.no=0->∃p∈D'.L,(q.step c X.G b).1.el=elOf hs' p.2/\p.2∈u'.B)->
   Stp c a.had m0 X.G q (q.step c X.G b).1 hs hs' D D'->((q.step c X.G b).1.eff=false->u'=u)->
   (((q.step c X.G b).1.dn=false/\∃PL',Rk H' PL' r2 c (q.step c X.G b).1 X' (SL c z css k u' hs' D' a' (many (vsL r vb c kb q2 v)::M)))∨
    ((q.step c X.G b).1.dn=true/\Sep H' (many (vsL r vb c kb q2 v)::xA c::grA c.g c.m X'::SL c z css k u' hs' D' {a' with run:=none} M)))->R (.bool true) H') :
  CA en F.crossbarlaw16_side_visits [P z.s,.pointer (some ⟨z.ab,0+k*24,none⟩)] H R:=by
 apply vc_crossbarlaw16_side_visits;have⟨sa,nv,hrv,hnv,h1⟩:=h.ex;have x1:(a.run.isNone:Bool)=false:=by rw [hr];rfl
 refine asAddr_in ⟨_,ald hk h1 (j:=5) rfl rfl,cond_no x1 ?_⟩;exact vruns_s (r2:=r2) rfl hk h hr o he pz hva op rs hl hm0 hlq hf hnx hqd st hR
end
section
set_option maxRecDepth 100000
set_option maxHeartbeats 2000000
theorem vc_decl_kinds (x0:Int)(H:Heap)(R:Value->Heap->Prop) :
  (
 nwH H (.cells true 0 [(.int .i64 0),(.bool false),(.bool false),(.slice none 0 0),(.bool false)]) λi1 H2=>
 nwH H2 (.cells true 1 [(.int .i64 1),(.int .i64 2),(.int .i64 4)]) λi3 H4=>
 nwH H4 (.cells true 1 [(.int .i64 6),(.int .i64 7),(.int .i64 8)]) λi5 H6=>
 nwH H6 (.cells true 1 [(.int .i64 3),(.int .i64 5)]) λi7 H8=>
 ∃l9,rowOf H8 1 (some ⟨i3,0,none⟩) 3=some l9/\
 apd H8 8 1 (some ⟨i7,0,none⟩) 2 3 l9 λa10 i11 H12=>
 nwH H12 (.cells true 1 [(.int .i64 3)]) λi13 H14=>
 ∃l15,rowOf H14 1 (some ⟨i3,0,none⟩) 3=some l15/\
 apd H14 8 1 (some ⟨i13,0,none⟩) 1 3 l15 λa16 i17 H18=>
 nwH H18 (.cells true 1 [(.int .i64 6),(.int .i64 8)]) λi19 H20=>
 nwH H20 (.cells true 0 [(.int .i64 0),(.bool false),(.bool false),(.slice none 0 0),(.bool false),(.int .i64 0),(.bool false),(.bool false),(.slice none 0 0),(.bool false),(.int .i64 0),(.bool false),(.bool false),(.slice none 0 0),(.bool false),(.int .i64 0),(.bool false),(.bool false),(.slice none 0 0),(.bool false),(.int .i64 0),(.bool false),(.bool false),(.slice none 0 0),(.bool false),(.int .i64 0),(.bool false),(.bool false),(.slice none 0 0),(.bool false),(.int .i64 0),(.bool false),(.bool false),(.slice none 0 0),(.bool false),(.int .i64 0),(.bool false),(.bool false),(.slice none 0 0),(.bool false),(.int .i64 0),(.bool false),(.bool false),(.slice none 0 0),(.bool false),(.int .i64 0),(.bool false),(.bool false),(.slice none 0 0),(.bool false),(.int .i64 0),(.bool false),(.bool false),(.slice none 0 0),(.bool false)]) λi21 H22=>
 stc H22 i21 0 [(.int .i64 0),(.bool false),(.bool false),(.slice none 0 0),(.bool false),(.int .i64 1),(.bool false),(.bool false),(.slice (some ⟨i3,0,none⟩) 3 0),(.bool false),(.int .i64 1),(.bool false),(.bool false),(.slice (some ⟨i3,0,none⟩) 3 0),(.bool false),(.int .i64 4),(.bool false),(.bool false),(.slice (some ⟨i3,0,none⟩) 3 0),(.bool false),(.int .i64 1),(.bool true),(.bool false),(.slice a10 i11 0),(.bool true),(.int .i64 1),(.bool false),(.bool false),(.slice a10 i11 0),(.bool false),(.int .i64 4),(.bool false),(.bool false),(.slice (some ⟨i5,0,none⟩) 3 0),(.bool false),(.int .i64 4),(.bool false),(.bool false),(.slice (some ⟨i5,0,none⟩) 3 0),(.bool false),(.int .i64 1),(.bool true),(.bool false),(.slice (some ⟨i19,0,none⟩) 2 0),(.bool false),(.int .i64 1),(.bool false),(.bool true),(.slice a16 i17 0),(.bool false),(.int .i64 1),(.bool true),(.bool true),(.slice a16 i17 0),(.bool true)] λH23=>
 bif (decide (x0<1)) then (
 stc H23 i1 0 [(.int .i64 0),(.bool false),(.bool false),(.slice none 0 0),(.bool false)] λH24=>
 ∃n25,∃b26,∃b27,∃a28 i29,∃b30,H24.cellsAt i1 0 5=some [(.int .i64 n25),(.bool b26),(.bool b27),(.slice a28 i29 0),(.bool b30)]/\
 R (.tuple #[(.agg #[(.int .i64 n25),(.bool b26),(.bool b27),(.slice a28 i29 0),(.bool b30)]),(.bool false)]) H24)
 else (
 bif (decide (x0≥11)) then (
 stc H23 i1 0 [(.int .i64 0),(.bool false),(.bool false),(.slice none 0 0),(.bool false)] λH31=>
 ∃n32,∃b33,∃b34,∃a35 i36,∃b37,H31.cellsAt i1 0 5=some [(.int .i64 n32),(.bool b33),(.bool b34),(.slice a35 i36 0),(.bool b37)]/\
 R (.tuple #[(.agg #[(.int .i64 n32),(.bool b33),(.bool b34),(.slice a35 i36 0),(.bool b37)]),(.bool false)]) H31)
 else (
 inB x0 11/\
 ∃n38,∃b39,∃b40,∃a41 i42,∃b43,H23.cellsAt i21 (0+(x0.toNat*5)) 5=some [(.int .i64 n38),(.bool b39),(.bool b40),(.slice a41 i42 0),(.bool b43)]/\
 stc H23 i1 0 [(.int .i64 n38),(.bool b39),(.bool b40),(.slice a41 i42 0),(.bool b43)] λH44=>
 ∃n45,∃b46,∃b47,∃a48 i49,∃b50,H44.cellsAt i1 0 5=some [(.int .i64 n45),(.bool b46),(.bool b47),(.slice a48 i49 0),(.bool b50)]/\
 R (.tuple #[(.agg #[(.int .i64 n45),(.bool b46),(.bool b47),(.slice a48 i49 0),(.bool b50)]),(.bool true)]) H44)))->
  CA en F.decl_kinds [(.int .i64 x0)] H R:=by
 intro h;refine wpFn_ok (Z:=[]) (fn:=Go.Proofs.Tryz.f229) ?_ ?_ ?_
 ·kernel_rfl
 ·kernel_rfl
 ·apply turnInto h
  kernel_rfl
theorem vc_decl_within (x0:Int)(x1:Int)(H:Heap)(R:Value->Heap->Prop) :
  (
 bif (decide (x0≥1)) then (
 R (.bool (decide (x0<=x1))) H)
 else (
 R (.bool false) H))->
  CA en F.decl_within [(.int .i64 x0),(.int .i64 x1)] H R:=by
 intro h;refine wpFn_ok (Z:=[]) (fn:=Go.Proofs.Tryz.f230) ?_ ?_ ?_
 ·kernel_rfl
 ·kernel_rfl
 ·apply turnInto h
  kernel_rfl
end
end Go.Proofs.YtjggeoghlicmdaaGreat
namespace Go.AS
open Go.RowKit
section
section
variable {E:Env}
def contig (E:Env):List Field->Nat->Option Nat
 |[],o=>some o
 |f::fs,o=>bif Nat.beq f.offset o then (match sizeA E f.type with
  |some n=>contig E fs (o+n)
  |none=>none) else none
def shpFs (p:Nat->List Value->Prop):List Field->List Value->Prop
 |[],vs=>vs=[]
 |f::fs,vs=>∃a b,vs=a++b/\p f.type a/\shpFs p fs b
theorem shpFs_mono {p q:Nat->List Value->Prop}(h:∀t vs,p t vs->q t vs):∀{fs:List Field}{vs:List Value},shpFs p fs vs->shpFs q fs vs
 |[],vs,hp=>hp
 |f::fs,vs,⟨a,b,e,h1,h2⟩=>⟨a,b,e,h _ _ h1,shpFs_mono h h2⟩
def Opened (E:Env)(w:World)(μ:Inj)(H:Heap)(P:Heap->List Value->Prop)(CS:List Value):Prop:=
 ∃(μ':Inj)(H':Heap)(vs:List Value),Grow H μ H' μ'/\HRel E w.heap.size μ' H' w/\VRels μ' vs CS/\P H' vs/\Frm [] H H'/\vs.all one=true
theorem flatten_vrels {μ:Inj}:∀{cs CS:List (List Value)},cs.length=CS.length->(∀(j:Nat)(c C:List Value),cs[j]? =some c->CS[j]? =some C->VRels μ c C)->VRels μ cs.flatten CS.flatten
 |[],[],_,_=>.nil
 |[],_::_,h,_=>by simp at h
 |_::_,[],h,_=>by simp at h
 |c::cs,C::CS,h,hh=>by
  simp only [List.flatten_cons]
  exact (hh 0 c C rfl rfl).append (flatten_vrels (by simpa using h) λj a b ha hb=>hh (j+1) a b (by simpa using ha) (by simpa using hb))
variable {w:World}
theorem open_list {p:Heap->List Value->Prop}(hp:∀{H H':Heap}{vs:List Value},Frm [] H H'->p H vs->p H' vs):∀(CSs:List (List Value)),
  (∀CS∈CSs,∀{μ:Inj}{H:Heap},HRel E w.heap.size μ H w->Opened E w μ H p CS)->∀{μ:Inj}{H:Heap},HRel E w.heap.size μ H w->
  ∃(μ':Inj)(H':Heap)(css:List (List Value)),Grow H μ H' μ'/\HRel E w.heap.size μ' H' w/\css.length=CSs.length/\(∀(j:Nat)(c C:List Value),css[j]? =some c->CSs[j]? =some C->VRels μ' c C)/\(∀c∈css,p H' c)/\Frm [] H H'/\(∀c∈css,c.all one=true)
 |[],_,μ,H,hH=>⟨μ,H,[],Grow.refl _ _,hH,rfl,by simp,by simp,Frm.refl _ _,by simp⟩
 |CS::CSs,hop,μ,H,hH=>by
  have⟨μ1,H1,vs,g1,h1,r1,p1,f1,o1⟩:=hop CS (by simp) hH
  have⟨μ2,H2,css,g2,h2,l2,r2,p2,f2,o2⟩:=open_list (p:=p) hp CSs (λC hC=>hop C (List.mem_cons_of_mem _ hC)) h1
  refine ⟨μ2,H2,vs::css,g1.trans g2,h2,by simp [l2],?_,?_,f1.trans f2 (by simp),?_⟩
  ·intro j c C hc hC
   cases j with
   |zero=>simp at hc hC;subst hc;subst hC;exact VRels.mono g2.le r1
   |succ j=>simp at hc hC;exact r2 j c C hc hC
  ·intro c hc
   rcases List.mem_cons.1 hc with rfl|hc
   ·exact hp f2 p1
   ·exact p2 c hc
  ·intro c hc
   rcases List.mem_cons.1 hc with rfl|hc
   ·exact o1
   ·exact o2 c hc
theorem cellsOf_size (hE:E.Ok){t n:Nat}(hs:sizeA E t=some n):E.prog.cellsOf t=n:=by
 unfold sizeA at hs;cases hi:E.ty t with
 |none=>rw [hi] at hs;cases hs
 |some i=>
  rw [hi] at hs;simp only [Option.map_some,Option.some.injEq] at hs
  have:=hE.ty _ _ hi
  unfold Program.cellsOf;rw [this];simpa using hs
theorem cells?_get {w:World}{a:Addr}{n:Nat}{CS:List Value}(h:w.cells? 0 a n=some CS):CS.length=n/\∀j,j<n->w.cell? (a.add j)=CS[j]? :=by
 unfold World.cells? at h;rw [if_pos (Nat.zero_le _)] at h;refine ⟨by simpa using mapM_some_length h,λj hj=>?_⟩;exact mapM_some_get h j j (by simp [hj])
theorem flatten_len {α:Type}{z:Nat}:∀{l:List (List α)},(∀c∈l,c.length=z)->l.flatten.length=l.length*z
 |[],_=>by simp
 |c::l,h=>by
  simp only [List.flatten_cons,List.length_append,List.length_cons]
  rw [h c (by simp),flatten_len λc hc=>h c (by simp [hc]),Nat.succ_mul,Nat.add_comm]
theorem flatten_get {α:Type}{z:Nat}:∀{l:List (List α)}{k:Nat},(∀c∈l,c.length=z)->0<z->k<l.length*z->∃c,l[k / z]? =some c/\l.flatten[k]? =c[k % z]?
 |[],k,_,_,h=>by simp at h
 |c::l,k,h,hz,hk=>by
  have hc:=h c (by simp);by_cases hlt:k<z
  ·refine ⟨c,by rw [Nat.div_eq_of_lt hlt];rfl,?_⟩;rw [List.flatten_cons,List.getElem?_append_left (by omega),Nat.mod_eq_of_lt hlt]
  ·have hk':k - z<l.length*z:=by
    simp only [List.length_cons,Nat.succ_mul] at hk;omega
   have⟨c',h1,h2⟩:=flatten_get (l:=l) (k:=k - z) (λc hc=>h c (by simp [hc])) hz hk';have hk2:k=(k - z)+z:=by omega
   refine ⟨c',?_,?_⟩
   ·rw [hk2,Nat.add_div_right _ hz];simpa using h1
   ·rw [List.flatten_cons,List.getElem?_append_right (by omega),hc,h2]
    conv=>rhs;rw [hk2,Nat.add_mod_right]
end
end
end Go.AS
namespace Go.Proofs.YtjggeoghlicmdaaGreat
open Go Go.AS Go.RowKit
section
set_option maxRecDepth 100000
set_option maxHeartbeats 2000000
noncomputable def L_decl_Check_0:Code:=loopAt Go.Proofs.Tryz.f103 0
theorem vc_decl_Check (x0:Option Addr)(x0l:Nat)(H:Heap)(R:Value->Heap->Prop) :
  (
 bif (decide (((x0l:Nat):Int)>10)) then (
 R (.int .i64 19) H)
 else (
 LA en L_decl_Check_0 [(.slice x0 x0l 0),undef,(.int .i64 0),undef,undef,undef,(.slice x0 x0l 0),(.int .i64 ((x0l:Nat):Int)),(.bool false),(.slice x0 x0l 0),(.int .i64 ((x0l:Nat):Int)),(.int .i64 0),undef,undef,undef,undef,undef,undef,undef,undef,undef,undef] H [(X.exit 0,λ(y1:Fr)(H2:Heap)=>
 AS.asInt .i64 (y1.getD 2 undef) λn3=>
 R (.int .i64 0) H2),
 (X.ret,λ(y4:Fr)(H5:Heap)=>
 AS.asInt .i64 (y4.getD 2 undef) λn6=>
 R (.int .i64 n6) H5)]))->
  CA en F.decl_Check [(.slice x0 x0l 0)] H R:=by
 intro h;refine wpFn_ok (Z:=[[(2,(.int .i64 0))]]) (fn:=Go.Proofs.Tryz.f103) ?_ ?_ ?_
 ·kernel_rfl
 ·kernel_rfl
 ·apply turnInto h
  kernel_rfl
theorem use_decl_Check_0 {t0:Option Addr}{t0l:Nat}{t6:Option Addr}{t6l:Nat}{t7:Int}{t9:Option Addr}{t9l:Nat}{t10:Int}{K0:Fr->Heap->Prop}{K1:Fr->Heap->Prop}{t2:Int}{t11:Int}{t4:Value}{t5:Value}{t12:Value}{t13:Value}{t14:Value}{t15:Value}{t16:Value}{t17:Value}{t18:Value}{t19:Value}{t20:Value}{t21:Value}{H:Heap}(I:Nat->Int->Int->Heap->Prop)(n:Nat)(h0:I n t2 t11 H)
  (hstep:∀(n:Nat)(t2:Int)(t11:Int)(ys:Fr)(H:Heap),I n t2 t11 H->
  (
 bif (decide (t11<t10)) then (
 inB t11 t9l/\
 asRow t9 λi1 i2=>
 ∃n3,∃n4,∃n5,∃n6,∃n7,H.cellsAt i1 (i2+(t11.toNat*5)) 5=some [(.int .i64 n3),(.int .i64 n4),(.int .i64 n5),(.int .i64 n6),(.int .i64 n7)]/\
 nwH H (.cells true 0 [(.int .i64 0),(.int .i64 0),(.int .i64 0),(.int .i64 0),(.int .i64 0)]) λi8 H9=>
 stc H9 i8 0 [(.int .i64 n3),(.int .i64 n4),(.int .i64 n5),(.int .i64 n6),(.int .i64 n7)] λH10=>
 ∃n11,∃n12,∃n13,∃n14,∃n15,H10.cellsAt i8 0 5=some [(.int .i64 n11),(.int .i64 n12),(.int .i64 n13),(.int .i64 n14),(.int .i64 n15)]/\
 CA en F.decl_check [(.slice t0 t0l 0),(.agg #[(.int .i64 n11),(.int .i64 n12),(.int .i64 n13),(.int .i64 n14),(.int .i64 n15)])] H10 λv16 H17=>
 ∃n18,v16=(.int .i64 n18)/\
 bif (n18 !=0) then (
 K1 [(.slice t0 t0l 0),undef,(.int .i64 n18),undef,(.pointer (some ⟨i8,0,none⟩)),(.int .i64 n18),(.slice t6 t6l 0),(.int .i64 t7),(.bool false),(.slice t9 t9l 0),(.int .i64 t10),(.int .i64 t11),(.bool true),(.pointer (some ⟨i1,(i2+(t11.toNat*5)),none⟩)),(.agg #[(.int .i64 n3),(.int .i64 n4),(.int .i64 n5),(.int .i64 n6),(.int .i64 n7)]),(.slice t0 t0l 0),(.agg #[(.int .i64 n11),(.int .i64 n12),(.int .i64 n13),(.int .i64 n14),(.int .i64 n15)]),(.int .i64 n18),(.int .i64 n18),(.bool true),(.int .i64 n18),(ys.getD 21 undef)] H17)
 else (
 ∃k19,k19<n/\
 I k19 t2 (IntKind.i64.wrap (t11+1)) H17))
 else (
 K0 [(.slice t0 t0l 0),undef,(.int .i64 t2),undef,(ys.getD 4 undef),(ys.getD 5 undef),(.slice t6 t6l 0),(.int .i64 t7),(.bool false),(.slice t9 t9l 0),(.int .i64 t10),(.int .i64 t11),(.bool false),(ys.getD 13 undef),(ys.getD 14 undef),(ys.getD 15 undef),(ys.getD 16 undef),(ys.getD 17 undef),(ys.getD 18 undef),(ys.getD 19 undef),(ys.getD 20 undef),(ys.getD 21 undef)] H))) :
  LA en L_decl_Check_0 [(.slice t0 t0l 0),undef,(.int .i64 t2),undef,t4,t5,(.slice t6 t6l 0),(.int .i64 t7),(.bool false),(.slice t9 t9l 0),(.int .i64 t10),(.int .i64 t11),t12,t13,t14,t15,t16,t17,t18,t19,t20,t21] H [(X.exit 0,K0),(X.ret,K1)]:=by
 refine LA_rule (Z:=[]) (λm xs H'=>AS.asInt .i64 (xs.getD 2 undef) λt2=>AS.asInt .i64 (xs.getD 11 undef) λt11=>I m t2 t11 H') ?_ n H ?_
 ·intro n H
  suffices hs:∀s12:Value,∀s13:Value,∀s14:Value,∀s4:Value,∀s15:Value,∀s16:Value,∀s17:Value,∀s5:Value,∀s18:Value,∀s19:Value,∀s20:Value,∀s2:Value,∀s21:Value,∀s11:Value,((AS.asInt .i64 s2 λt2=>AS.asInt .i64 s11 λt11=>I n t2 t11 H)->wpCode en L_decl_Check_0 [] [(.slice t0 t0l 0),undef,s2,undef,s4,s5,(.slice t6 t6l 0),(.int .i64 t7),(.bool false),(.slice t9 t9l 0),(.int .i64 t10),s11,s12,s13,s14,s15,s16,s17,s18,s19,s20,s21] H (loopQ (λm xs H'=>AS.asInt .i64 (xs.getD 2 undef) λt2=>AS.asInt .i64 (xs.getD 11 undef) λt11=>I m t2 t11 H') n [(X.exit 0,K0),(X.ret,K1)])) by
   apply turnInto hs
   kernel_rfl
  intro s12 s13 s14 s4 s15 s16 s17 s5 s18 s19 s20 s2 s21 s11 hP;replace hP:=asInt_elim hP;obtain ⟨t2,rfl,hP⟩:=hP;replace hP:=asInt_elim hP;obtain ⟨t11,rfl,hP⟩:=hP;apply turnInto (hstep n t2 t11 [(.slice t0 t0l 0),undef,(.int .i64 t2),undef,s4,s5,(.slice t6 t6l 0),(.int .i64 t7),(.bool false),(.slice t9 t9l 0),(.int .i64 t10),(.int .i64 t11),s12,s13,s14,s15,s16,s17,s18,s19,s20,s21] H hP);kernel_rfl
 ·apply turnInto h0
  kernel_rfl
theorem vc_decl_check (x0:Option Addr)(x0l:Nat)(x1_0:Int)(x1_1:Int)(x1_2:Int)(x1_3:Int)(x1_4:Int)(H:Heap)(R:Value->Heap->Prop) :
  (
 nwH H (.cells true 0 [(.int .i64 x1_0),(.int .i64 x1_1),(.int .i64 x1_2),(.int .i64 x1_3),(.int .i64 x1_4)]) λi1 H2=>
 ∃n3,H2.cell i1 0=some (.int .i64 n3)/\
 CA en F.decl_kinds [(.int .i64 n3)] H2 λv4 H5=>
 ∃n6,∃b7,∃b8,∃a9 i10,∃b11,∃b12,v4=(.tuple #[(.agg #[(.int .i64 n6),(.bool b7),(.bool b8),(.slice a9 i10 0),(.bool b11)]),(.bool b12)])/\
 nwH H5 (.cells true 0 [(.int .i64 0),(.bool false),(.bool false),(.slice none 0 0),(.bool false)]) λi13 H14=>
 stc H14 i13 0 [(.int .i64 n6),(.bool b7),(.bool b8),(.slice a9 i10 0),(.bool b11)] λH15=>
 bif (!b12) then (
 R (.int .i64 1) H15)
 else (
 ∃n16,H15.cell i1 1=some (.int .i64 n16)/\
 CA en F.decl_within [(.int .i64 n16),(.int .i64 64)] H15 λv17 H18=>
 ∃b19,v17=(.bool b19)/\
 bif (!b19) then (
 R (.int .i64 1) H18)
 else (
 ∃n20,H18.cell i1 2=some (.int .i64 n20)/\
 ∃n21,H18.cell i13 0=some (.int .i64 n21)/\
 CA en F.decl_within [(.int .i64 n20),(.int .i64 n21)] H18 λv22 H23=>
 ∃b24,v22=(.bool b24)/\
 bif (!b24) then (
 R (.int .i64 1) H23)
 else (
 ∃b25,H23.cell i13 1=some (.bool b25)/\
 bif b25 then (
 ∃n26,H23.cell i1 3=some (.int .i64 n26)/\
 CA en F.decl_within [(.int .i64 n26),(.int .i64 32)] H23 λv27 H28=>
 ∃b29,v27=(.bool b29)/\
 bif (!b29) then (
 R (.int .i64 1) H28)
 else (
 ∃n30,H28.cell i1 3=some (.int .i64 n30)/\
 CA en F.math_bits_OnesCount [(.int .u64 (IntKind.u64.wrap n30))] H28 λv31 H32=>
 ∃n33,v31=(.int .i64 n33)/\
 bif (n33 !=1) then (
 R (.int .i64 1) H32)
 else (
 ∃b34,H32.cell i13 1=some (.bool b34)/\
 bif (!b34) then (
 ∃n35,H32.cell i1 3=some (.int .i64 n35)/\
 bif (n35 !=0) then (
 R (.int .i64 1) H32)
 else (
 ∃b36,H32.cell i13 2=some (.bool b36)/\
 bif b36 then (
 ∃n37,H32.cell i1 4=some (.int .i64 n37)/\
 CA en F.decl_within [(.int .i64 n37),(.int .i64 ((x0l:Nat):Int))] H32 λv38 H39=>
 ∃b40,v38=(.bool b40)/\
 bif (!b40) then (
 R (.int .i64 1) H39)
 else (
 ∃b41,H39.cell i13 2=some (.bool b41)/\
 bif (!b41) then (
 ∃n42,H39.cell i1 4=some (.int .i64 n42)/\
 bif (n42 !=0) then (
 R (.int .i64 1) H39)
 else (
 ∃b43,H39.cell i13 2=some (.bool b43)/\
 bif b43 then (
 ∃n44,H39.cell i1 4=some (.int .i64 n44)/\
 inB (IntKind.i64.wrap (n44 - 1)) x0l/\
 asRow x0 λi45 i46=>
 ∃n47,H39.cell i45 (i46+((IntKind.i64.wrap (n44 - 1)).toNat*5))=some (.int .i64 n47)/\
 CA en F.decl_kinds [(.int .i64 n47)] H39 λv48 H49=>
 ∃n50,∃b51,∃b52,∃a53 i54,∃b55,∃b56,v48=(.tuple #[(.agg #[(.int .i64 n50),(.bool b51),(.bool b52),(.slice a53 i54 0),(.bool b55)]),(.bool b56)])/\
 nwH H49 (.cells true 0 [(.int .i64 0),(.bool false),(.bool false),(.slice none 0 0),(.bool false)]) λi57 H58=>
 stc H58 i57 0 [(.int .i64 n50),(.bool b51),(.bool b52),(.slice a53 i54 0),(.bool b55)] λH59=>
 ∃b60,H59.cell i57 2=some (.bool b60)/\
 bif b60 then (
 R (.int .i64 14) H59)
 else (
 R (.int .i64 0) H59))
 else (
 R (.int .i64 0) H39)))
 else (
 ∃b61,H39.cell i13 2=some (.bool b61)/\
 bif b61 then (
 ∃n62,H39.cell i1 4=some (.int .i64 n62)/\
 inB (IntKind.i64.wrap (n62 - 1)) x0l/\
 asRow x0 λi63 i64=>
 ∃n65,H39.cell i63 (i64+((IntKind.i64.wrap (n62 - 1)).toNat*5))=some (.int .i64 n65)/\
 CA en F.decl_kinds [(.int .i64 n65)] H39 λv66 H67=>
 ∃n68,∃b69,∃b70,∃a71 i72,∃b73,∃b74,v66=(.tuple #[(.agg #[(.int .i64 n68),(.bool b69),(.bool b70),(.slice a71 i72 0),(.bool b73)]),(.bool b74)])/\
 nwH H67 (.cells true 0 [(.int .i64 0),(.bool false),(.bool false),(.slice none 0 0),(.bool false)]) λi75 H76=>
 stc H76 i75 0 [(.int .i64 n68),(.bool b69),(.bool b70),(.slice a71 i72 0),(.bool b73)] λH77=>
 ∃b78,H77.cell i75 2=some (.bool b78)/\
 bif b78 then (
 R (.int .i64 14) H77)
 else (
 R (.int .i64 0) H77))
 else (
 R (.int .i64 0) H39))))
 else (
 ∃b79,H32.cell i13 2=some (.bool b79)/\
 bif (!b79) then (
 ∃n80,H32.cell i1 4=some (.int .i64 n80)/\
 bif (n80 !=0) then (
 R (.int .i64 1) H32)
 else (
 ∃b81,H32.cell i13 2=some (.bool b81)/\
 bif b81 then (
 ∃n82,H32.cell i1 4=some (.int .i64 n82)/\
 inB (IntKind.i64.wrap (n82 - 1)) x0l/\
 asRow x0 λi83 i84=>
 ∃n85,H32.cell i83 (i84+((IntKind.i64.wrap (n82 - 1)).toNat*5))=some (.int .i64 n85)/\
 CA en F.decl_kinds [(.int .i64 n85)] H32 λv86 H87=>
 ∃n88,∃b89,∃b90,∃a91 i92,∃b93,∃b94,v86=(.tuple #[(.agg #[(.int .i64 n88),(.bool b89),(.bool b90),(.slice a91 i92 0),(.bool b93)]),(.bool b94)])/\
 nwH H87 (.cells true 0 [(.int .i64 0),(.bool false),(.bool false),(.slice none 0 0),(.bool false)]) λi95 H96=>
 stc H96 i95 0 [(.int .i64 n88),(.bool b89),(.bool b90),(.slice a91 i92 0),(.bool b93)] λH97=>
 ∃b98,H97.cell i95 2=some (.bool b98)/\
 bif b98 then (
 R (.int .i64 14) H97)
 else (
 R (.int .i64 0) H97))
 else (
 R (.int .i64 0) H32)))
 else (
 ∃b99,H32.cell i13 2=some (.bool b99)/\
 bif b99 then (
 ∃n100,H32.cell i1 4=some (.int .i64 n100)/\
 inB (IntKind.i64.wrap (n100 - 1)) x0l/\
 asRow x0 λi101 i102=>
 ∃n103,H32.cell i101 (i102+((IntKind.i64.wrap (n100 - 1)).toNat*5))=some (.int .i64 n103)/\
 CA en F.decl_kinds [(.int .i64 n103)] H32 λv104 H105=>
 ∃n106,∃b107,∃b108,∃a109 i110,∃b111,∃b112,v104=(.tuple #[(.agg #[(.int .i64 n106),(.bool b107),(.bool b108),(.slice a109 i110 0),(.bool b111)]),(.bool b112)])/\
 nwH H105 (.cells true 0 [(.int .i64 0),(.bool false),(.bool false),(.slice none 0 0),(.bool false)]) λi113 H114=>
 stc H114 i113 0 [(.int .i64 n106),(.bool b107),(.bool b108),(.slice a109 i110 0),(.bool b111)] λH115=>
 ∃b116,H115.cell i113 2=some (.bool b116)/\
 bif b116 then (
 R (.int .i64 14) H115)
 else (
 R (.int .i64 0) H115))
 else (
 R (.int .i64 0) H32)))))
 else (
 ∃b117,H32.cell i13 2=some (.bool b117)/\
 bif b117 then (
 ∃n118,H32.cell i1 4=some (.int .i64 n118)/\
 CA en F.decl_within [(.int .i64 n118),(.int .i64 ((x0l:Nat):Int))] H32 λv119 H120=>
 ∃b121,v119=(.bool b121)/\
 bif (!b121) then (
 R (.int .i64 1) H120)
 else (
 ∃b122,H120.cell i13 2=some (.bool b122)/\
 bif (!b122) then (
 ∃n123,H120.cell i1 4=some (.int .i64 n123)/\
 bif (n123 !=0) then (
 R (.int .i64 1) H120)
 else (
 ∃b124,H120.cell i13 2=some (.bool b124)/\
 bif b124 then (
 ∃n125,H120.cell i1 4=some (.int .i64 n125)/\
 inB (IntKind.i64.wrap (n125 - 1)) x0l/\
 asRow x0 λi126 i127=>
 ∃n128,H120.cell i126 (i127+((IntKind.i64.wrap (n125 - 1)).toNat*5))=some (.int .i64 n128)/\
 CA en F.decl_kinds [(.int .i64 n128)] H120 λv129 H130=>
 ∃n131,∃b132,∃b133,∃a134 i135,∃b136,∃b137,v129=(.tuple #[(.agg #[(.int .i64 n131),(.bool b132),(.bool b133),(.slice a134 i135 0),(.bool b136)]),(.bool b137)])/\
 nwH H130 (.cells true 0 [(.int .i64 0),(.bool false),(.bool false),(.slice none 0 0),(.bool false)]) λi138 H139=>
 stc H139 i138 0 [(.int .i64 n131),(.bool b132),(.bool b133),(.slice a134 i135 0),(.bool b136)] λH140=>
 ∃b141,H140.cell i138 2=some (.bool b141)/\
 bif b141 then (
 R (.int .i64 14) H140)
 else (
 R (.int .i64 0) H140))
 else (
 R (.int .i64 0) H120)))
 else (
 ∃b142,H120.cell i13 2=some (.bool b142)/\
 bif b142 then (
 ∃n143,H120.cell i1 4=some (.int .i64 n143)/\
 inB (IntKind.i64.wrap (n143 - 1)) x0l/\
 asRow x0 λi144 i145=>
 ∃n146,H120.cell i144 (i145+((IntKind.i64.wrap (n143 - 1)).toNat*5))=some (.int .i64 n146)/\
 CA en F.decl_kinds [(.int .i64 n146)] H120 λv147 H148=>
 ∃n149,∃b150,∃b151,∃a152 i153,∃b154,∃b155,v147=(.tuple #[(.agg #[(.int .i64 n149),(.bool b150),(.bool b151),(.slice a152 i153 0),(.bool b154)]),(.bool b155)])/\
 nwH H148 (.cells true 0 [(.int .i64 0),(.bool false),(.bool false),(.slice none 0 0),(.bool false)]) λi156 H157=>
 stc H157 i156 0 [(.int .i64 n149),(.bool b150),(.bool b151),(.slice a152 i153 0),(.bool b154)] λH158=>
 ∃b159,H158.cell i156 2=some (.bool b159)/\
 bif b159 then (
 R (.int .i64 14) H158)
 else (
 R (.int .i64 0) H158))
 else (
 R (.int .i64 0) H120))))
 else (
 ∃b160,H32.cell i13 2=some (.bool b160)/\
 bif (!b160) then (
 ∃n161,H32.cell i1 4=some (.int .i64 n161)/\
 bif (n161 !=0) then (
 R (.int .i64 1) H32)
 else (
 ∃b162,H32.cell i13 2=some (.bool b162)/\
 bif b162 then (
 ∃n163,H32.cell i1 4=some (.int .i64 n163)/\
 inB (IntKind.i64.wrap (n163 - 1)) x0l/\
 asRow x0 λi164 i165=>
 ∃n166,H32.cell i164 (i165+((IntKind.i64.wrap (n163 - 1)).toNat*5))=some (.int .i64 n166)/\
 CA en F.decl_kinds [(.int .i64 n166)] H32 λv167 H168=>
 ∃n169,∃b170,∃b171,∃a172 i173,∃b174,∃b175,v167=(.tuple #[(.agg #[(.int .i64 n169),(.bool b170),(.bool b171),(.slice a172 i173 0),(.bool b174)]),(.bool b175)])/\
 nwH H168 (.cells true 0 [(.int .i64 0),(.bool false),(.bool false),(.slice none 0 0),(.bool false)]) λi176 H177=>
 stc H177 i176 0 [(.int .i64 n169),(.bool b170),(.bool b171),(.slice a172 i173 0),(.bool b174)] λH178=>
 ∃b179,H178.cell i176 2=some (.bool b179)/\
 bif b179 then (
 R (.int .i64 14) H178)
 else (
 R (.int .i64 0) H178))
 else (
 R (.int .i64 0) H32)))
 else (
 ∃b180,H32.cell i13 2=some (.bool b180)/\
 bif b180 then (
 ∃n181,H32.cell i1 4=some (.int .i64 n181)/\
 inB (IntKind.i64.wrap (n181 - 1)) x0l/\
 asRow x0 λi182 i183=>
 ∃n184,H32.cell i182 (i183+((IntKind.i64.wrap (n181 - 1)).toNat*5))=some (.int .i64 n184)/\
 CA en F.decl_kinds [(.int .i64 n184)] H32 λv185 H186=>
 ∃n187,∃b188,∃b189,∃a190 i191,∃b192,∃b193,v185=(.tuple #[(.agg #[(.int .i64 n187),(.bool b188),(.bool b189),(.slice a190 i191 0),(.bool b192)]),(.bool b193)])/\
 nwH H186 (.cells true 0 [(.int .i64 0),(.bool false),(.bool false),(.slice none 0 0),(.bool false)]) λi194 H195=>
 stc H195 i194 0 [(.int .i64 n187),(.bool b188),(.bool b189),(.slice a190 i191 0),(.bool b192)] λH196=>
 ∃b197,H196.cell i194 2=some (.bool b197)/\
 bif b197 then (
 R (.int .i64 14) H196)
 else (
 R (.int .i64 0) H196))
 else (
 R (.int .i64 0) H32)))))))
 else (
 ∃b198,H23.cell i13 1=some (.bool b198)/\
 bif (!b198) then (
 ∃n199,H23.cell i1 3=some (.int .i64 n199)/\
 bif (n199 !=0) then (
 R (.int .i64 1) H23)
 else (
 ∃b200,H23.cell i13 2=some (.bool b200)/\
 bif b200 then (
 ∃n201,H23.cell i1 4=some (.int .i64 n201)/\
 CA en F.decl_within [(.int .i64 n201),(.int .i64 ((x0l:Nat):Int))] H23 λv202 H203=>
 ∃b204,v202=(.bool b204)/\
 bif (!b204) then (
 R (.int .i64 1) H203)
 else (
 ∃b205,H203.cell i13 2=some (.bool b205)/\
 bif (!b205) then (
 ∃n206,H203.cell i1 4=some (.int .i64 n206)/\
 bif (n206 !=0) then (
 R (.int .i64 1) H203)
 else (
 ∃b207,H203.cell i13 2=some (.bool b207)/\
 bif b207 then (
 ∃n208,H203.cell i1 4=some (.int .i64 n208)/\
 inB (IntKind.i64.wrap (n208 - 1)) x0l/\
 asRow x0 λi209 i210=>
 ∃n211,H203.cell i209 (i210+((IntKind.i64.wrap (n208 - 1)).toNat*5))=some (.int .i64 n211)/\
 CA en F.decl_kinds [(.int .i64 n211)] H203 λv212 H213=>
 ∃n214,∃b215,∃b216,∃a217 i218,∃b219,∃b220,v212=(.tuple #[(.agg #[(.int .i64 n214),(.bool b215),(.bool b216),(.slice a217 i218 0),(.bool b219)]),(.bool b220)])/\
 nwH H213 (.cells true 0 [(.int .i64 0),(.bool false),(.bool false),(.slice none 0 0),(.bool false)]) λi221 H222=>
 stc H222 i221 0 [(.int .i64 n214),(.bool b215),(.bool b216),(.slice a217 i218 0),(.bool b219)] λH223=>
 ∃b224,H223.cell i221 2=some (.bool b224)/\
 bif b224 then (
 R (.int .i64 14) H223)
 else (
 R (.int .i64 0) H223))
 else (
 R (.int .i64 0) H203)))
 else (
 ∃b225,H203.cell i13 2=some (.bool b225)/\
 bif b225 then (
 ∃n226,H203.cell i1 4=some (.int .i64 n226)/\
 inB (IntKind.i64.wrap (n226 - 1)) x0l/\
 asRow x0 λi227 i228=>
 ∃n229,H203.cell i227 (i228+((IntKind.i64.wrap (n226 - 1)).toNat*5))=some (.int .i64 n229)/\
 CA en F.decl_kinds [(.int .i64 n229)] H203 λv230 H231=>
 ∃n232,∃b233,∃b234,∃a235 i236,∃b237,∃b238,v230=(.tuple #[(.agg #[(.int .i64 n232),(.bool b233),(.bool b234),(.slice a235 i236 0),(.bool b237)]),(.bool b238)])/\
 nwH H231 (.cells true 0 [(.int .i64 0),(.bool false),(.bool false),(.slice none 0 0),(.bool false)]) λi239 H240=>
 stc H240 i239 0 [(.int .i64 n232),(.bool b233),(.bool b234),(.slice a235 i236 0),(.bool b237)] λH241=>
 ∃b242,H241.cell i239 2=some (.bool b242)/\
 bif b242 then (
 R (.int .i64 14) H241)
 else (
 R (.int .i64 0) H241))
 else (
 R (.int .i64 0) H203))))
 else (
 ∃b243,H23.cell i13 2=some (.bool b243)/\
 bif (!b243) then (
 ∃n244,H23.cell i1 4=some (.int .i64 n244)/\
 bif (n244 !=0) then (
 R (.int .i64 1) H23)
 else (
 ∃b245,H23.cell i13 2=some (.bool b245)/\
 bif b245 then (
 ∃n246,H23.cell i1 4=some (.int .i64 n246)/\
 inB (IntKind.i64.wrap (n246 - 1)) x0l/\
 asRow x0 λi247 i248=>
 ∃n249,H23.cell i247 (i248+((IntKind.i64.wrap (n246 - 1)).toNat*5))=some (.int .i64 n249)/\
 CA en F.decl_kinds [(.int .i64 n249)] H23 λv250 H251=>
 ∃n252,∃b253,∃b254,∃a255 i256,∃b257,∃b258,v250=(.tuple #[(.agg #[(.int .i64 n252),(.bool b253),(.bool b254),(.slice a255 i256 0),(.bool b257)]),(.bool b258)])/\
 nwH H251 (.cells true 0 [(.int .i64 0),(.bool false),(.bool false),(.slice none 0 0),(.bool false)]) λi259 H260=>
 stc H260 i259 0 [(.int .i64 n252),(.bool b253),(.bool b254),(.slice a255 i256 0),(.bool b257)] λH261=>
 ∃b262,H261.cell i259 2=some (.bool b262)/\
 bif b262 then (
 R (.int .i64 14) H261)
 else (
 R (.int .i64 0) H261))
 else (
 R (.int .i64 0) H23)))
 else (
 ∃b263,H23.cell i13 2=some (.bool b263)/\
 bif b263 then (
 ∃n264,H23.cell i1 4=some (.int .i64 n264)/\
 inB (IntKind.i64.wrap (n264 - 1)) x0l/\
 asRow x0 λi265 i266=>
 ∃n267,H23.cell i265 (i266+((IntKind.i64.wrap (n264 - 1)).toNat*5))=some (.int .i64 n267)/\
 CA en F.decl_kinds [(.int .i64 n267)] H23 λv268 H269=>
 ∃n270,∃b271,∃b272,∃a273 i274,∃b275,∃b276,v268=(.tuple #[(.agg #[(.int .i64 n270),(.bool b271),(.bool b272),(.slice a273 i274 0),(.bool b275)]),(.bool b276)])/\
 nwH H269 (.cells true 0 [(.int .i64 0),(.bool false),(.bool false),(.slice none 0 0),(.bool false)]) λi277 H278=>
 stc H278 i277 0 [(.int .i64 n270),(.bool b271),(.bool b272),(.slice a273 i274 0),(.bool b275)] λH279=>
 ∃b280,H279.cell i277 2=some (.bool b280)/\
 bif b280 then (
 R (.int .i64 14) H279)
 else (
 R (.int .i64 0) H279))
 else (
 R (.int .i64 0) H23)))))
 else (
 ∃b281,H23.cell i13 2=some (.bool b281)/\
 bif b281 then (
 ∃n282,H23.cell i1 4=some (.int .i64 n282)/\
 CA en F.decl_within [(.int .i64 n282),(.int .i64 ((x0l:Nat):Int))] H23 λv283 H284=>
 ∃b285,v283=(.bool b285)/\
 bif (!b285) then (
 R (.int .i64 1) H284)
 else (
 ∃b286,H284.cell i13 2=some (.bool b286)/\
 bif (!b286) then (
 ∃n287,H284.cell i1 4=some (.int .i64 n287)/\
 bif (n287 !=0) then (
 R (.int .i64 1) H284)
 else (
 ∃b288,H284.cell i13 2=some (.bool b288)/\
 bif b288 then (
 ∃n289,H284.cell i1 4=some (.int .i64 n289)/\
 inB (IntKind.i64.wrap (n289 - 1)) x0l/\
 asRow x0 λi290 i291=>
 ∃n292,H284.cell i290 (i291+((IntKind.i64.wrap (n289 - 1)).toNat*5))=some (.int .i64 n292)/\
 CA en F.decl_kinds [(.int .i64 n292)] H284 λv293 H294=>
 ∃n295,∃b296,∃b297,∃a298 i299,∃b300,∃b301,v293=(.tuple #[(.agg #[(.int .i64 n295),(.bool b296),(.bool b297),(.slice a298 i299 0),(.bool b300)]),(.bool b301)])/\
 nwH H294 (.cells true 0 [(.int .i64 0),(.bool false),(.bool false),(.slice none 0 0),(.bool false)]) λi302 H303=>
 stc H303 i302 0 [(.int .i64 n295),(.bool b296),(.bool b297),(.slice a298 i299 0),(.bool b300)] λH304=>
 ∃b305,H304.cell i302 2=some (.bool b305)/\
 bif b305 then (
 R (.int .i64 14) H304)
 else (
 R (.int .i64 0) H304))
 else (
 R (.int .i64 0) H284)))
 else (
 ∃b306,H284.cell i13 2=some (.bool b306)/\
 bif b306 then (
 ∃n307,H284.cell i1 4=some (.int .i64 n307)/\
 inB (IntKind.i64.wrap (n307 - 1)) x0l/\
 asRow x0 λi308 i309=>
 ∃n310,H284.cell i308 (i309+((IntKind.i64.wrap (n307 - 1)).toNat*5))=some (.int .i64 n310)/\
 CA en F.decl_kinds [(.int .i64 n310)] H284 λv311 H312=>
 ∃n313,∃b314,∃b315,∃a316 i317,∃b318,∃b319,v311=(.tuple #[(.agg #[(.int .i64 n313),(.bool b314),(.bool b315),(.slice a316 i317 0),(.bool b318)]),(.bool b319)])/\
 nwH H312 (.cells true 0 [(.int .i64 0),(.bool false),(.bool false),(.slice none 0 0),(.bool false)]) λi320 H321=>
 stc H321 i320 0 [(.int .i64 n313),(.bool b314),(.bool b315),(.slice a316 i317 0),(.bool b318)] λH322=>
 ∃b323,H322.cell i320 2=some (.bool b323)/\
 bif b323 then (
 R (.int .i64 14) H322)
 else (
 R (.int .i64 0) H322))
 else (
 R (.int .i64 0) H284))))
 else (
 ∃b324,H23.cell i13 2=some (.bool b324)/\
 bif (!b324) then (
 ∃n325,H23.cell i1 4=some (.int .i64 n325)/\
 bif (n325 !=0) then (
 R (.int .i64 1) H23)
 else (
 ∃b326,H23.cell i13 2=some (.bool b326)/\
 bif b326 then (
 ∃n327,H23.cell i1 4=some (.int .i64 n327)/\
 inB (IntKind.i64.wrap (n327 - 1)) x0l/\
 asRow x0 λi328 i329=>
 ∃n330,H23.cell i328 (i329+((IntKind.i64.wrap (n327 - 1)).toNat*5))=some (.int .i64 n330)/\
 CA en F.decl_kinds [(.int .i64 n330)] H23 λv331 H332=>
 ∃n333,∃b334,∃b335,∃a336 i337,∃b338,∃b339,v331=(.tuple #[(.agg #[(.int .i64 n333),(.bool b334),(.bool b335),(.slice a336 i337 0),(.bool b338)]),(.bool b339)])/\
 nwH H332 (.cells true 0 [(.int .i64 0),(.bool false),(.bool false),(.slice none 0 0),(.bool false)]) λi340 H341=>
 stc H341 i340 0 [(.int .i64 n333),(.bool b334),(.bool b335),(.slice a336 i337 0),(.bool b338)] λH342=>
 ∃b343,H342.cell i340 2=some (.bool b343)/\
 bif b343 then (
 R (.int .i64 14) H342)
 else (
 R (.int .i64 0) H342))
 else (
 R (.int .i64 0) H23)))
 else (
 ∃b344,H23.cell i13 2=some (.bool b344)/\
 bif b344 then (
 ∃n345,H23.cell i1 4=some (.int .i64 n345)/\
 inB (IntKind.i64.wrap (n345 - 1)) x0l/\
 asRow x0 λi346 i347=>
 ∃n348,H23.cell i346 (i347+((IntKind.i64.wrap (n345 - 1)).toNat*5))=some (.int .i64 n348)/\
 CA en F.decl_kinds [(.int .i64 n348)] H23 λv349 H350=>
 ∃n351,∃b352,∃b353,∃a354 i355,∃b356,∃b357,v349=(.tuple #[(.agg #[(.int .i64 n351),(.bool b352),(.bool b353),(.slice a354 i355 0),(.bool b356)]),(.bool b357)])/\
 nwH H350 (.cells true 0 [(.int .i64 0),(.bool false),(.bool false),(.slice none 0 0),(.bool false)]) λi358 H359=>
 stc H359 i358 0 [(.int .i64 n351),(.bool b352),(.bool b353),(.slice a354 i355 0),(.bool b356)] λH360=>
 ∃b361,H360.cell i358 2=some (.bool b361)/\
 bif b361 then (
 R (.int .i64 14) H360)
 else (
 R (.int .i64 0) H360))
 else (
 R (.int .i64 0) H23)))))))))->
  CA en F.decl_check [(.slice x0 x0l 0),(.agg #[(.int .i64 x1_0),(.int .i64 x1_1),(.int .i64 x1_2),(.int .i64 x1_3),(.int .i64 x1_4)])] H R:=by
 intro h;refine wpFn_ok (Z:=[]) (fn:=Go.Proofs.Tryz.f161) ?_ ?_ ?_
 ·kernel_rfl
 ·kernel_rfl
 ·apply turnInto h
  kernel_rfl
end
section
variable {H:Heap} {R:Value->Heap->Prop}
structure Kind where
 words:Int
 buckets:Bool
 nested:Bool
 does:List Int
 bucketed:Bool
def kindOf (k:Int):Option Kind:=
 if k=1 then some ⟨1,false,false,[1,2,4],false⟩
 else if k=2 then some ⟨1,false,false,[1,2,4],false⟩
 else if k=3 then some ⟨4,false,false,[1,2,4],false⟩
 else if k=4 then some ⟨1,true,false,[3,5,1,2,4],true⟩
 else if k=5 then some ⟨1,false,false,[3,5,1,2,4],false⟩
 else if k=6 then some ⟨4,false,false,[6,7,8],false⟩
 else if k=7 then some ⟨4,false,false,[6,7,8],false⟩
 else if k=8 then some ⟨1,true,false,[6,8],false⟩
 else if k=9 then some ⟨1,false,true,[3,1,2,4],false⟩
 else if k=10 then some ⟨1,true,true,[3,1,2,4],true⟩
 else none
def kindD (k:Int):Kind:=(kindOf k).getD ⟨0,false,false,[],false⟩
def Ints (H:Heap)(a:Option Addr)(l:Nat)(xs:List Int):Prop:=
 l=xs.length/\(xs=[]∨∃i w,a=some ⟨i,0,none⟩/\i<H.next/\H.get i=some (.cells w 1 (xs.map I)))
theorem kinds_ok {x:Int}(hR:∀H' a l,Frm [] H H'->Ints H' a l (kindD x).does->R (.tuple #[.agg #[I (kindD x).words,.bool (kindD x).buckets,.bool (kindD x).nested,.slice a l 0,.bool (kindD x).bucketed],.bool (kindOf x).isSome]) H') :
  CA en F.decl_kinds [I x] H R:=by
 apply vc_decl_kinds;refine nwH_in λi1 H2 e1 h2=>nwH_in λi3 H4 e3 h4=>nwH_in λi5 H6 e5 h6=>nwH_in λi7 H8 e7 h8=>?_
 have g8:H8.get i1=some (.cells true 0 [I 0,.bool false,.bool false,.slice none 0 0,.bool false])/\H8.get i3=some (.cells true 1 [I 1,I 2,I 4])/\H8.get i5=some (.cells true 1 [I 6,I 7,I 8])/\H8.get i7=some (.cells true 1 [I 3,I 5])/\H8.next=H.next+4/\i1=H.next/\i3=H.next+1/\i5=H.next+2/\i7=H.next+3:=by
  subst_vars;simp only [get_new,next_new];refine ⟨?_,?_,?_,?_,?_,?_,?_,?_,?_⟩<;>first|trivial|omega|((repeat (first|rw [if_pos trivial]|rw [if_pos rfl]|rw [if_neg (by omega)]));try (first|rfl|assumption))
 have f8:Frm [] H H8:=by subst_vars;exact ((((Frm.refl _ _).new _).new _).new _).new _
 clear e1 h2 e3 h4 e5 h6 e7 h8;have⟨g1,g3,g5,g7,n8,i1e,i3e,i5e,i7e⟩:=g8;refine ⟨[I 1,I 2,I 4],by simp [rowOf,firstCellsA,g3,takeAt],?_⟩;refine apd_grow (old:=[I 3,I 5]) g7 (by decide) (by decide) rfl (by decide) λj H11 ej hj=>?_
 refine nwH_in λi12 H13 e12 h13=>?_
 have g13:H13.get i1=some (.cells true 0 [I 0,.bool false,.bool false,.slice none 0 0,.bool false])/\H13.get i3=some (.cells true 1 [I 1,I 2,I 4])/\H13.get i5=some (.cells true 1 [I 6,I 7,I 8])/\H13.get j=some (.cells true 1 [I 3,I 5,I 1,I 2,I 4])/\H13.get i12=some (.cells true 1 [I 3])/\H13.next=H.next+6/\j=H.next+4/\i12=H.next+5:=by
  subst e12 h13 ej hj;simp only [get_new,get_set,next_new,next_set];refine ⟨?_,?_,?_,?_,?_,by omega,by omega,by omega⟩<;>(first|trivial|omega|((repeat (first|rw [if_pos trivial]|rw [if_pos rfl]|rw [if_neg (by omega)]));try (first|rfl|assumption)))
 have f13:Frm [] H H13:=by subst e12 h13 ej hj;exact ((f8.set _ (by right;omega)).new _).new _
 clear e12 h13 ej hj g1 g3 g5 g7;have⟨g1,g3,g5,gj,g12,n13,je,i12e⟩:=g13;refine ⟨[I 1,I 2,I 4],by simp [rowOf,firstCellsA,g3,takeAt],?_⟩;refine apd_grow (old:=[I 3]) g12 (by decide) (by decide) rfl (by decide) λq H16 eq hq=>?_
 refine nwH_in λi17 H18 e17 h18=>nwH_in λi19 H20 e19 h20=>?_
 have g20:H20.get i1=some (.cells true 0 [I 0,.bool false,.bool false,.slice none 0 0,.bool false])/\H20.get i3=some (.cells true 1 [I 1,I 2,I 4])/\H20.get i5=some (.cells true 1 [I 6,I 7,I 8])/\H20.get j=some (.cells true 1 [I 3,I 5,I 1,I 2,I 4])/\H20.get q=some (.cells true 1 [I 3,I 1,I 2,I 4])/\H20.get i17=some (.cells true 1 [I 6,I 8])/\(∃c,H20.get i19=some (.cells true 0 c)/\c.length=55)/\H20.next=H.next+9/\q=H.next+6/\i17=H.next+7/\i19=H.next+8:=by
  subst e17 h18 e19 h20 eq hq;simp only [get_new,get_set,next_new,next_set];refine ⟨?_,?_,?_,?_,?_,?_,⟨_,if_pos trivial,rfl⟩,by omega,by omega,by omega,by omega⟩<;>(first|trivial|omega|((repeat (first|rw [if_pos trivial]|rw [if_pos rfl]|rw [if_neg (by omega)]));try (first|rfl|assumption)))
 have f20:Frm [] H H20:=by subst e17 h18 e19 h20 eq hq;exact (((f13.set _ (by right;omega)).new _).new _).new _
 clear e17 h18 e19 h20 eq hq g1 g3 g5 gj g12;have⟨g1,g3,g5,gj,gq,g17,⟨c,g19,hc⟩,n20,qe,i17e,i19e⟩:=g20;refine stc_of' g19 (by rw [hc];exact Nat.le_refl _) λH23 e23=>?_
 have hset:∀vs:List Value,vs.length=55->setAt c 0 vs=vs:=by
  intro vs hv;have key:∀(vs c pre:List Value),vs.length=c.length->setAt (pre++c) pre.length vs=pre++vs:=by
   intro vs
   induction vs with
   |nil=>intro c pre h;cases c with|nil=>simp [setAt]|cons=>simp at h
   |cons v vs ih=>
    intro c pre h;cases c with
    |nil=>simp at h
    |cons x c=>
     simp only [setAt];rw [List.set_append_right _ _ (Nat.le_refl _),Nat.sub_self,List.set_cons_zero]
     have:=ih c (pre++[v]) (by simpa using h)
     simpa using this
  have:=key vs c [] (by omega)
  simpa using this
 rw [hset _ rfl] at e23;have t19:=(congrArg (λh:Heap=>h.get i19) e23).trans (get_set_self _ _ _);have f23:Frm [] H H23:=by rw [e23];exact f20.set _ (by right;omega)
 have n23:H23.next=H.next+9:=by rw [e23,next_set];exact n20
 have s1:H23.get i1=some (.cells true 0 [I 0,.bool false,.bool false,.slice none 0 0,.bool false]):=by rw [e23,get_set_ne (by omega)];exact g1
 have s3:H23.get i3=some (.cells true 1 [I 1,I 2,I 4]):=by rw [e23,get_set_ne (by omega)];exact g3
 have s5:H23.get i5=some (.cells true 1 [I 6,I 7,I 8]):=by rw [e23,get_set_ne (by omega)];exact g5
 have sj:H23.get j=some (.cells true 1 [I 3,I 5,I 1,I 2,I 4]):=by rw [e23,get_set_ne (by omega)];exact gj
 have sq:H23.get q=some (.cells true 1 [I 3,I 1,I 2,I 4]):=by rw [e23,get_set_ne (by omega)];exact gq
 have s17:H23.get i17=some (.cells true 1 [I 6,I 8]):=by rw [e23,get_set_ne (by omega)];exact g17
 clear e23 g1 g3 g5 gj gq g17 g19;have none1:kindOf x=none->stc H23 i1 0 [I 0,.bool false,.bool false,.slice none 0 0,.bool false] λH24=>∃n25 b26 b27 a28 i29 b30,H24.cellsAt i1 0 5=some [I n25,.bool b26,.bool b27,.slice a28 i29 0,.bool b30]/\R (.tuple #[.agg #[I n25,.bool b26,.bool b27,.slice a28 i29 0,.bool b30],.bool false]) H24:=by
  intro hk;refine stc_of' s1 (by decide) λH24 e24=>?_
  have hD:kindD x=⟨0,false,false,[],false⟩:=by unfold kindD;rw [hk];rfl
  have:=hR H24 none 0 (by rw [e24];exact f23.set _ (by right;omega)) (by rw [hD];exact ⟨rfl,.inl rfl⟩)
  rw [hD,hk] at this;exact ⟨0,false,false,none,0,false,by rw [e24,cellsAt_of (get_set_self _ _ _)];rfl,this⟩
 have some1:∀(K:Kind)(a:Option Addr)(i:Nat)(b:Bool),kindOf x=some K->a=some ⟨i,0,none⟩->i≠i1->i<H.next+9->H23.get i=some (.cells b 1 (K.does.map I))->∀l,l=K.does.length->
   H23.cellsAt i19 (0+x.toNat*5) 5=some [I K.words,.bool K.buckets,.bool K.nested,.slice a l 0,.bool K.bucketed]->
   ∃n38 b39 b40 a41 i42 b43,H23.cellsAt i19 (0+x.toNat*5) 5=some [I n38,.bool b39,.bool b40,.slice a41 i42 0,.bool b43]/\
    stc H23 i1 0 [I n38,.bool b39,.bool b40,.slice a41 i42 0,.bool b43] λH44=>∃n45 b46 b47 a48 i49 b50,H44.cellsAt i1 0 5=some [I n45,.bool b46,.bool b47,.slice a48 i49 0,.bool b50]/\
     R (.tuple #[.agg #[I n45,.bool b46,.bool b47,.slice a48 i49 0,.bool b50],.bool true]) H44:=by
  intro K a i b hk ha hne hlt hg l hl hcell;refine ⟨_,_,_,_,_,_,hcell,?_⟩;refine stc_of' s1 (Nat.le_refl _) λH44 e44=>?_
  have hD:kindD x=K:=by unfold kindD;rw [hk];rfl
  have:=hR H44 a l (by rw [e44];exact f23.set _ (by right;omega)) (by rw [hD];exact ⟨hl,.inr ⟨i,b,ha,by rw [e44,next_set];omega,by rw [e44,get_set_ne hne];exact hg⟩⟩)
  rw [hD,hk] at this;exact ⟨K.words,K.buckets,K.nested,a,l,K.bucketed,by rw [e44,cellsAt_of (get_set_self _ _ _)];rfl,this⟩
 refine cond_of (λh=>none1 ?_) λh=>cond_of (λh'=>none1 ?_) λh'=>⟨?_,?_⟩
 ·simp only [decide_eq_true_eq] at h;unfold kindOf
  repeat rw [if_neg (by omega)]
 ·simp only [decide_eq_true_eq,ge_iff_le] at h';unfold kindOf
  repeat rw [if_neg (by omega)]
 ·simp only [decide_eq_false_iff_not,ge_iff_le] at h h';exact ⟨by omega,by omega⟩
 ·simp only [decide_eq_false_iff_not,ge_iff_le] at h h';have hx:x=1∨x=2∨x=3∨x=4∨x=5∨x=6∨x=7∨x=8∨x=9∨x=10:=by omega
  rcases hx with rfl|rfl|rfl|rfl|rfl|rfl|rfl|rfl|rfl|rfl
  ·exact some1 ⟨1,false,false,[1,2,4],false⟩ _ i3 true rfl rfl (by omega) (by omega) s3 _ rfl (by rw [cellsAt_of t19];rfl)
  ·exact some1 ⟨1,false,false,[1,2,4],false⟩ _ i3 true rfl rfl (by omega) (by omega) s3 _ rfl (by rw [cellsAt_of t19];rfl)
  ·exact some1 ⟨4,false,false,[1,2,4],false⟩ _ i3 true rfl rfl (by omega) (by omega) s3 _ rfl (by rw [cellsAt_of t19];rfl)
  ·exact some1 ⟨1,true,false,[3,5,1,2,4],true⟩ _ j true rfl rfl (by omega) (by omega) sj _ rfl (by rw [cellsAt_of t19];rfl)
  ·exact some1 ⟨1,false,false,[3,5,1,2,4],false⟩ _ j true rfl rfl (by omega) (by omega) sj _ rfl (by rw [cellsAt_of t19];rfl)
  ·exact some1 ⟨4,false,false,[6,7,8],false⟩ _ i5 true rfl rfl (by omega) (by omega) s5 _ rfl (by rw [cellsAt_of t19];rfl)
  ·exact some1 ⟨4,false,false,[6,7,8],false⟩ _ i5 true rfl rfl (by omega) (by omega) s5 _ rfl (by rw [cellsAt_of t19];rfl)
  ·exact some1 ⟨1,true,false,[6,8],false⟩ _ i17 true rfl rfl (by omega) (by omega) s17 _ rfl (by rw [cellsAt_of t19];rfl)
  ·exact some1 ⟨1,false,true,[3,1,2,4],false⟩ _ q true rfl rfl (by omega) (by omega) sq _ rfl (by rw [cellsAt_of t19];rfl)
  ·exact some1 ⟨1,true,true,[3,1,2,4],true⟩ _ q true rfl rfl (by omega) (by omega) sq _ rfl (by rw [cellsAt_of t19];rfl)
structure Dc where
 kind:Int
 entries:Int
 words:Int
 buckets:Int
 inner:Int
abbrev Dc.cells (d:Dc):List Value:=[I d.kind,I d.entries,I d.words,I d.buckets,I d.inner]
abbrev Dc.val (d:Dc):Value:=.agg #[I d.kind,I d.entries,I d.words,I d.buckets,I d.inner]
end
section
variable {H:Heap} {R:Value->Heap->Prop}
def blm (k:BitVec 64):BitVec 64:=k*14029467366897019727#64
def pos1 (k:BitVec 64):Nat:=(blm k).toNat / 288230376151711744
def pos2 (k:BitVec 64):Nat:=(blm k).toNat / 4503599627370496 % 64
def pos3 (k:BitVec 64):Nat:=(blm k).toNat / 70368744177664 % 64
def hit (k:BitVec 64)(j:Nat):Bool:=decide (pos1 k=j)||decide (pos2 k=j)||decide (pos3 k=j)
def cnt (k:BitVec 64):Nat->Nat
 |0=>0
 |i+1=>cnt k i+if hit k i then 1 else 0
end
section
variable {H:Heap} {R:Value->Heap->Prop}
end
section
variable {H:Heap} {R:Value->Heap->Prop}
end
section
variable {H:Heap} {R:Value->Heap->Prop}
def flat (l:List Dc):List Value:=(l.map Dc.cells).flatten
def Rows (H:Heap)(a:Option Addr)(n:Nat)(l:List Dc):Prop:=
 n=l.length/\(l=[]∨∃i w z,a=some ⟨i,0,none⟩/\i<H.next/\H.get i=some (.cells w z (flat l)))
theorem Rows.frm {H H':Heap} {a n l}(h:Rows H a n l)(f:Frm [] H H'):Rows H' a n l:=by
 refine ⟨h.1,h.2.imp_right λ⟨i,w,z,h1,h2,h3⟩=>⟨i,w,z,h1,?_,?_⟩⟩
 ·have:=f.1;omega
 ·rw [f.2 i h2 (by simp)];exact h3
def dc0:Dc:=⟨0,0,0,0,0⟩
theorem flat_kind:∀(l:List Dc)(j:Nat),j<l.length->(flat l)[j*5]? =some (I (l.getD j dc0).kind)
 |[],j,h=>by simp at h
 |d::l,0,_=>rfl
 |d::l,j+1,h=>by
  have ih:=flat_kind l j (by simpa using h);have e:flat (d::l)=d.cells++flat l:=rfl;rw [e,List.getElem?_append_right (by simp only [List.length_cons,List.length_nil];omega)];have e2:(j+1)*5 - d.cells.length=j*5:=by simp only [List.length_cons,List.length_nil];omega
  rw [e2,ih];simp
theorem flat_take:∀(l:List Dc)(j:Nat),j<l.length->takeAt (flat l) (j*5) 5=some (l.getD j dc0).cells
 |[],j,h=>by simp at h
 |d::l,0,_=>rfl
 |d::l,j+1,h=>by
  have ih:=flat_take l j (by simpa using h);have e:flat (d::l)=d.cells++flat l:=rfl;have e2:(j+1)*5=(j*5)+1+1+1+1+1:=by omega
  rw [e,e2];simpa [takeAt] using ih
def pow (n:Int):Prop:=n=1∨n=2∨n=4∨n=8∨n=16∨n=32
instance (n:Int):Decidable (pow n):=inferInstanceAs (Decidable (n=1∨n=2∨n=4∨n=8∨n=16∨n=32))
def chk (l:List Dc)(d:Dc):Int:=
 if (kindOf d.kind).isSome=false then 1
 else if d.entries<1∨d.entries>64∨d.words<1∨d.words>(kindD d.kind).words then 1
 else if (kindD d.kind).buckets=true/\¬pow d.buckets∨(kindD d.kind).buckets=false/\d.buckets≠0 then 1
 else if (kindD d.kind).nested=true then
  (if d.inner<1∨d.inner>(l.length:Int) then 1 else if (kindD (l.getD (d.inner - 1).toNat dc0).kind).nested=true then 14 else 0)
 else if d.inner≠0 then 1 else 0
theorem Within_ok {x m:Int}(hR:R (.bool (decide (1<=x/\x<=m))) H):CA en F.decl_within [I x,I m] H R:=by
 apply vc_decl_within;refine cond_of (λh=>?_) λh=>?_
 ·have e:decide (1<=x/\x<=m)=decide (x<=m):=by
   simp only [decide_eq_true_eq] at h;rw [Bool.eq_iff_iff];simp only [decide_eq_true_eq];omega
  rw [e] at hR;exact hR
 ·have e:decide (1<=x/\x<=m)=false:=by
   simp only [decide_eq_false_iff_not] at h⊢;omega
  rw [e] at hR;exact hR
def popc (n:Int):Int:=(((List.range 6).filter λi=>n.toNat.testBit i).length:Nat)
theorem ones1 {n:Int}(h:sem en 50 F.math_bits_OnesCount [.int .u64 (IntKind.u64.wrap n)] H=some (I (popc n),H))(hp:popc n=1↔pow n)(hR:∀c:Int,(c=1↔pow n)->R (I c) H):CA en F.math_bits_OnesCount [.int .u64 (IntKind.u64.wrap n)] H R:=⟨50,_,H,h,hR _ hp⟩
theorem Ones_ok {n:Int}(h:1<=n/\n<=32)(hR:∀c:Int,(c=1↔pow n)->R (I c) H):CA en F.math_bits_OnesCount [.int .u64 (IntKind.u64.wrap n)] H R:=by
 have hx:n=1∨n=2∨n=3∨n=4∨n=5∨n=6∨n=7∨n=8∨n=9∨n=10∨n=11∨n=12∨n=13∨n=14∨n=15∨n=16∨n=17∨n=18∨n=19∨n=20∨n=21∨n=22∨n=23∨n=24∨n=25∨n=26∨n=27∨n=28∨n=29∨n=30∨n=31∨n=32:=by omega
 rcases hx with rfl|rfl|rfl|rfl|rfl|rfl|rfl|rfl|rfl|rfl|rfl|rfl|rfl|rfl|rfl|rfl|rfl|rfl|rfl|rfl|rfl|rfl|rfl|rfl|rfl|rfl|rfl|rfl|rfl|rfl|rfl|rfl<;>exact ones1 (by kernel_rfl) (by decide) hR
theorem check_ok {a:Option Addr}{n:Nat}{l:List Dc}{d:Dc}(hr:Rows H a n l)(hl:l.length<9223372036854775808)(hR:∀H',Frm [] H H'->R (I (chk l d)) H'):CA en F.decl_check [.slice a n 0,d.val] H R:=by
 obtain ⟨rfl,hr⟩:=hr;apply vc_decl_check;refine nwH_in λi1 H2 e1 h2=>?_
 have g2:H2.get i1=some (.cells true 0 d.cells):=by subst e1 h2;exact get_new_self _ _
 have l2:i1<H2.next:=by subst e1 h2;rw [next_new];omega
 have f2:Frm [] H H2:=by subst h2;exact (Frm.refl _ _).new _
 clear e1 h2;refine ⟨d.kind,by rw [cell_of g2];rfl,kinds_ok λH5 al ll f5 hi=>⟨_,_,_,_,_,_,_,rfl,?_⟩⟩;refine nwH_in λi13 H14 e13 h14=>?_
 have g14:H14.get i13=some (.cells true 0 [I 0,.bool false,.bool false,.slice none 0 0,.bool false]):=by subst e13 h14;exact get_new_self _ _
 refine stc_of' g14 (Nat.le_refl _) λH15 e15=>?_
 have f15:Frm [] H2 H15:=by
  subst e15 h14;exact (f5.new _).set _ (by right;have:=f5.1;omega)
 have g1:H15.get i1=some (.cells true 0 d.cells):=by rw [f15.2 _ l2 (by simp)];exact g2
 have g13:H15.get i13=some (.cells true 0 [I (kindD d.kind).words,.bool (kindD d.kind).buckets,.bool (kindD d.kind).nested,.slice al ll 0,.bool (kindD d.kind).bucketed]):=by rw [e15];exact get_set_self _ _ _
 have f:Frm [] H H15:=f2.trans f15 (by simp);clear e15 h14 g14 e13 hi f5 f2 g2;have hr15:l=[]∨∃(i:Nat)(w:Bool)(z:Nat),a=some ⟨i,0,none⟩/\i<H15.next/\H15.get i=some (AS.Obj.cells w z (flat l)):=
  hr.imp_right λ⟨i,w,z,h1,h2,h3⟩=>⟨i,w,z,h1,Nat.lt_of_lt_of_le h2 f.1,by rw [f.2 i h2 (by simp)];exact h3⟩
 have nested:(1<=d.inner/\d.inner<=(l.length:Int))->(∀H',Frm [] H H'->R (I (if (kindD (l.getD (d.inner - 1).toNat dc0).kind).nested=true then 14 else 0)) H')->
   ∃n44,H15.cell i1 4=some (I n44)/\inB (IntKind.i64.wrap (n44 - 1)) l.length/\asRow a λi45 i46=>
    ∃n47,H15.cell i45 (i46+(IntKind.i64.wrap (n44 - 1)).toNat*5)=some (I n47)/\CA en F.decl_kinds [I n47] H15 λv48 H49=>
     ∃n50 b51 b52 a53 i54 b55 b56,v48=.tuple #[.agg #[I n50,.bool b51,.bool b52,.slice a53 i54 0,.bool b55],.bool b56]/\
      nwH H49 (.cells true 0 [I 0,.bool false,.bool false,.slice none 0 0,.bool false]) λi57 H58=>
       stc H58 i57 0 [I n50,.bool b51,.bool b52,.slice a53 i54 0,.bool b55] λH59=>∃b60,H59.cell i57 2=some (.bool b60)/\cond b60 (R (I 14) H59) (R (I 0) H59):=by
  intro hin hR;refine ⟨d.inner,by rw [cell_of g1];rfl,?_⟩;rw [wrap_i64 (by omega)];refine ⟨by unfold inB;omega,?_⟩;rcases hr15 with rfl|⟨i,w,z,rfl,hb,hg⟩
  ·simp only [List.length_nil] at hin;omega
  ·rw [asRow_some];refine ⟨(l.getD (d.inner - 1).toNat dc0).kind,by rw [cell_of hg,Nat.zero_add];exact flat_kind l _ (by omega),?_⟩;refine kinds_ok λH49 a2 l3 f49 hi=>⟨_,_,_,_,_,_,_,rfl,?_⟩
   refine nwH_in λi57 H58 e57 h58=>?_
   have g58:H58.get i57=some (.cells true 0 [I 0,.bool false,.bool false,.slice none 0 0,.bool false]):=by subst e57 h58;exact get_new_self _ _
   refine stc_of' g58 (Nat.le_refl _) λH59 e59=>?_
   have f59:Frm [] H H59:=by
    subst e59 h58;exact ((f.trans f49 (by simp)).new _).set _ (by right;have:=f49.1;have:=f.1;omega)
   refine ⟨(kindD (l.getD (d.inner - 1).toNat dc0).kind).nested,by rw [e59,cell_of (get_set_self _ _ _)];rfl,?_⟩
   have:=hR _ f59
   refine cond_of (λh=>?_) λh=>?_
   ·rw [if_pos h] at this;exact this
   ·rw [if_neg (by rw [h];decide)] at this;exact this
 have leaf:∀c,chk l d=c->R (I c) H15:=λc e=>by have:=hR _ f;rw [e] at this;exact this
 have deep:∀c,chk l d=c->∀H',Frm [] H H'->R (I c) H':=λc e H' f'=>by have:=hR _ f';rw [e] at this;exact this
 clear hR hr15 hr f15 f;cases his:(kindOf d.kind).isSome
 ·exact leaf _ (by unfold chk;rw [if_pos his])
 cases hkb:(kindD d.kind).buckets<;>cases hkn:(kindD d.kind).nested<;>rw [hkb,hkn] at g13
 all_goals
  repeat' first
   |refine leaf _ ?_
   |refine Within_ok ⟨_,rfl,?_⟩
   |refine nested ?_ (deep _ ?_)
   |refine ⟨_,by rw [cell_of g1];rfl,?_⟩
   |refine ⟨_,by rw [cell_of g13];rfl,?_⟩
   |(refine Ones_ok (by simp only [Bool.not_eq_false',decide_eq_true_eq,Bool.not_eq_false] at *;omega) λc hc=>⟨_,rfl,?_⟩)
   |refine cond_of (λh=>?_) λh=>?_
 all_goals
  clear leaf nested deep g1 g13
  try unfold chk
  try unfold pow at *
  simp only [his,hkb,hkn,Bool.not_eq_true',Bool.not_eq_false',Bool.not_eq_true,Bool.not_eq_false,decide_eq_true_eq,decide_eq_false_iff_not,bne_iff_ne,bne_eq_false_iff_eq,Bool.not_true,Bool.not_false,Bool.true_eq_false,Bool.false_eq_true,if_true,if_false,true_and,false_and,or_false,false_or,ne_eq,reduceCtorEq] at *
  try ((repeat' split)<;>omega)
end
section
variable {H:Heap} {R:Value->Heap->Prop}
end
section
variable {H:Heap} {R:Value->Heap->Prop}
def firstBad (l:List Dc):List Dc->Int
 |[]=>0
 |d::r=>if chk l d≠0 then chk l d else firstBad l r
def chks (l:List Dc):Int:=if (l.length:Int)>10 then 19 else firstBad l l
theorem drop_getD (l:List Dc)(j:Nat)(h:j<l.length):l.drop j=l.getD j dc0::l.drop (j+1):=by
 rw [List.getD_eq_getElem?_getD,List.getElem?_eq_getElem h,Option.getD_some];exact List.drop_eq_getElem_cons h
theorem rows_row {a n l}(hr:Rows H a n l){j:Nat}(hj:j<l.length):∃i,a=some ⟨i,0,none⟩/\i<H.next/\H.cellsAt i (0+j*5) 5=some (l.getD j dc0).cells:=by
 rcases hr.2 with rfl|⟨i,w,z,rfl,h1,h2⟩
 ·simp at hj
 ·exact ⟨i,rfl,h1,by rw [cellsAt_of h2,Nat.zero_add];exact flat_take l j hj⟩
theorem Check_ok {a:Option Addr}{n:Nat}{l:List Dc}(hr:Rows H a n l)(hR:∀H',Frm [] H H'->R (I (chks l)) H'):CA en F.decl_Check [.slice a n 0] H R:=by
 obtain rfl:=hr.1;apply vc_decl_Check;refine cond_of (λh=>?_) λh=>?_
 ·have:=hR H (Frm.refl _ _)
  unfold chks at this;rw [if_pos (by simpa using h)] at this;exact this
 simp only [decide_eq_false_iff_not] at h;refine use_decl_Check_0 (λm _ i H'=>∃j:Nat,j<=l.length/\m=l.length - j/\i=(j:Int)/\Frm [] H H'/\chks l=firstBad l (l.drop j)) l.length ⟨0,by omega,rfl,rfl,Frm.refl _ _,by unfold chks;rw [if_neg h];rfl⟩ ?_;rintro m t2 i ys H' ⟨j,hj,rfl,rfl,fr,hc⟩;refine cond_of (λh=>?_) λh=>?_
 ·simp only [decide_eq_true_eq] at h;have hj':j<l.length:=by omega
  refine ⟨by unfold inB;omega,?_⟩;have hr':=hr.frm fr;obtain ⟨b,rfl,hb,hg⟩:=rows_row hr' hj';rw [asRow_some];refine ⟨_,_,_,_,_,by rw [Int.toNat_natCast];exact hg,?_⟩;have h0:Sep H' []:=Sep.nil;refine nwH_in λi8 H9 e8 e9=>?_
  have g9:H9.get i8=some (.cells true 0 [I 0,I 0,I 0,I 0,I 0]):=by subst e8 e9;exact get_new_self _ _
  refine stc_of' g9 (Nat.le_refl _) λH10 e10=>?_
  have fr10:Frm [] H H10:=by subst e8 e9 e10;exact (fr.new _).set _ (by right;exact fr.1)
  refine ⟨_,_,_,_,_,by rw [e10,cellsAt_of (get_set_self _ _ _)];rfl,?_⟩;refine check_ok (d:=l.getD j dc0) (hr.frm fr10) (by omega) λH17 fr17=>⟨_,rfl,?_⟩
  have fr':=fr10.trans fr17 (by simp);rw [drop_getD l j hj'] at hc;refine cond_of (λh1=>?_) λh1=>⟨l.length - (j+1),by omega,j+1,by omega,rfl,?_,fr',?_⟩
  ·simp only [List.getD_cons_succ,List.getD_cons_zero,asInt_int]
   have:=hR _ fr'
   rw [hc] at this;unfold firstBad at this;rw [if_pos (by simpa using h1)] at this;exact this
  ·rw [wrap_i64 (by omega)];omega
  ·rw [hc];show (if chk l (l.getD j dc0)≠0 then chk l (l.getD j dc0) else firstBad l (l.drop (j+1)))=_;rw [if_neg (by simpa using h1)]
 ·simp only [decide_eq_false_iff_not] at h;obtain rfl:j=l.length:=by omega
  rw [List.drop_length] at hc;simp only [List.getD_cons_succ,List.getD_cons_zero,asInt_int]
  have:=hR _ fr
  rw [hc] at this;exact this
end
section
variable {H H' H0:Heap} {R:Value->Heap->Prop} {L:List Asr} {a b:Option Addr} {ws:List (BitVec 64)}
def kl (k:Int):List Int:=if k=1 then [1,2,4] else if k=2 then [1,2,4] else if k=3 then [1,2,4] else if k=4 then [1,2,3,4,5] else if k=5 then [1,2,3,4,5] else if k=6 then [6,7,8] else if k=7 then [6,7,8] else if k=8 then [6,8] else [1,2,3,4]
theorem kl_len (k:Int):1<=(kl k).length/\(kl k).length<=5:=by
 unfold kl
 repeat' split
 all_goals decide
theorem kinds_s {k:Int}(h:Sep H L)(hR:∀H' i,Sep H' (bx i (.cells true 1 ((kl k).map I))::L)->R (.slice (some ⟨i,0,none⟩) (kl k).length 0) H'):CA en F.crossbarkit_kinds [I k] H R:=by
 apply vc_crossbarkit_kinds;unfold kl at hR;have go:∀{n:Int}{A B:Prop},(k=n->A)->(k≠n->B)->bif (k==n) then A else B:=λh1 h2=>cond_of (λz=>h1 (by simpa using z)) λz=>h2 (by simpa using z)
 refine go (λz=>?_) λz1=>go (λz=>?_) λz2=>go (λz=>?_) λz3=>go (λz=>?_) λz4=>go (λz=>?_) λz5=>go (λz=>?_) λz6=>go (λz=>?_) λz7=>go (λz=>?_) λz8=>?_
 all_goals
  refine Sep.nw h λi H2 h2=>?_
  revert h2
  have:=hR H2 i
  simp [*] at this;exact this
def fitK (k ok:Int):Int:=(kl k).getD (ok % (kl k).length).toNat 0
def fitB (k kind:Int):Bool:=kind==2||kind==6||(kind==8&&k==8)
def fitV (k:Int)(w:Nat)(kind:Int)(val:List (BitVec 64)):List (BitVec 64):=if fitB k kind then (List.range w).map λi=>val.getD i 0 else []
def fitF (k kind flag:Int):Int:=if kind=2 then flag % 3 else if kind=4 then flag % 2 else if kind=6 then (if k≠8 then 2*(flag % 2) else 0) else 0
theorem fit_loop {ob i1 i3 n:Nat}{q:Option Nat}(v:BitVec 64){kk ks:Value}{fs:List Value}{K:Heap->Prop}(h:Sep H (gl 1 q (wds ws)::bx ob (.cells true 0 (kk::ks::.slice (addr q) n 0::fs))::L))(hn:n=ws.length)(hq:q=none->ws=[])(hl:ws.length<100000)
  (k:∀H' q',Sep H' (gl 1 (some q') (wds (ws++[v]))::bx ob (.cells true 0 (kk::ks::.slice (addr (some q')) (n+1) 0::fs))::L)->K H') :
  ∃a l,H.cell ob 2=some (.slice a l 0)/\nwH H (.cells true 1 [W v]) λi H2=>∃l15,rowOf H2 1 (some ⟨i,0,none⟩) 1=some l15/\apd H2 8 1 a l 1 l15 λa16 i17 H18=>stc H18 ob 2 [(.slice a16 i17 0)] K:=by
 refine ⟨_,_,Sep.ld1 h rfl,Sep.nw h λi4 H5 h5=>⟨[W v],rowOf_bx (es:=1) (n:=1) (b:=i4) (Sep.get0 h5) (by decide) rfl,?_⟩⟩;subst hn;refine apd_gl (b:=q) (n:=1) (cs:=wds ws) (new:=[W v]) (Sep.up1 h5) (λh=>by rw [hq h];rfl) (by decide) (by simp) (by decide) rfl (by omega) λH' q' h'=>?_
 have e:wds ws++[W v]=wds (ws++[v]):=by simp
 rw [e] at h';exact Sep.st2 h' (Nat.le_of_ble_eq_true rfl) λH6 h6=>k H6 q' h6.rm1
set_option maxHeartbeats 1000000 in
theorem FitOp_s {d:Dc}{w n:Nat}{kind key flag cpu:Int}(hw:d.words=(w:Int))(hw2:w<=1000)(hd:d.inner=0)(hk2:d.kind≠2)(h:Sep H L)(ra:RdW L a ws)(hn':n=ws.length)
  (hR:∀H' q,(q=none->fitV d.kind w (fitK d.kind kind) ws=[])->Sep H' (gl 1 q (wds (fitV d.kind w (fitK d.kind kind) ws))::L)->R (.agg #[I (fitK d.kind kind),.int .u64 key,.slice (addr q) (fitV d.kind w (fitK d.kind kind) ws).length 0,I (fitF d.kind (fitK d.kind kind) flag),I 0]) H') :
  CA en F.crossbarkit_FitOp [.agg #[I d.kind,I d.entries,I d.words,I d.buckets,I d.inner],.agg #[I kind,.int .u64 key,.slice a n 0,I flag,I cpu],I 1] H R:=by
 apply vc_crossbarkit_FitOp;refine Sep.nw h λi1 H2 h2=>Sep.nw h2 λi3 H4 h4=>Sep.nw h4 λi5 H6 h6=>⟨_,Sep.ld2 h6 rfl,?_⟩
 refine kinds_s h6 λH9 i h9=>⟨_,_,rfl,?_⟩
 have hp:=h9.fore1 (n:=13) (a:=11) (.cells true 0 [I 0,.int .u64 0,.slice none 0 0,I 0,I 0]) (by decide);generalize hob:H9.next+11=ob at hp⊢;have⟨l1,l2⟩:=kl_len d.kind;have em1:=Int.emod_nonneg kind (b:=((kl d.kind).length:Int)) (by omega);have em2:=Int.emod_lt_of_pos kind (b:=((kl d.kind).length:Int)) (by omega);refine ⟨_,Sep.ld3 hp rfl,Pick_ok (by omega) (by omega) ⟨_,rfl,⟨by unfold inB;constructor<;>omega,?_⟩⟩⟩;have hb:(kind % ((kl d.kind).length:Int)).toNat<(kl d.kind).length:=by omega
 have hK:((kl d.kind).map I)[(kind % ((kl d.kind).length:Int)).toNat]? =some (I (fitK d.kind kind)):=by
  rw [List.getElem?_map,List.getElem?_eq_getElem hb];unfold fitK;rw [List.getD_eq_getElem?_getD,List.getElem?_eq_getElem hb];rfl
 refine asRow_in ⟨_,Sep.ld1 hp (by rw [Nat.zero_add,Nat.mul_one];exact hK),_,Sep.ld3 hp rfl,?_⟩;generalize hkk:fitK d.kind kind=kk at *;refine Sep.st0 hp (Nat.le_of_ble_eq_true rfl) λH20 h20=>⟨?_,⟨⟨_,Sep.get0 hp,by simp [sameN,sameN.sameL]⟩,⟨_,Sep.get0 hp,by simp [sameN,sameN.sameL]⟩,trivial⟩,⟨⟨_,Sep.ld3 hp rfl,rfl⟩,⟨_,Sep.ld3 hp rfl,rfl⟩,trivial⟩,trivial⟩
 refine ⟨λ_ H'=>H'=H20,⟨_,Sep.ld4 h20 rfl,cond_no (by simpa using hk2) rfl⟩,?_⟩;rintro ys H33 rfl;refine ⟨λl H'=>l=[.bool (fitB d.kind kk)]/\H'=H33,?_,?_⟩
 ·refine ⟨_,Sep.ld0 h20 rfl,cond_of (λz=>?_) λz=>⟨_,Sep.ld0 h20 rfl,cond_of (λz6=>?_) λz6=>⟨_,Sep.ld0 h20 rfl,cond_of (λz8=>⟨_,Sep.ld4 h20 rfl,?_⟩) λz8=>?_⟩⟩⟩
  ·refine ⟨?_,rfl⟩;unfold fitB;rw [z];rfl
  ·refine ⟨?_,rfl⟩;unfold fitB;rw [z6];simp
  ·refine ⟨?_,rfl⟩;unfold fitB;rw [z,z6,z8];simp
  ·refine ⟨?_,rfl⟩;unfold fitB;rw [z,z6,z8];simp
 rintro ys H40 b41 ⟨e1,rfl⟩;obtain rfl:b41=fitB d.kind kk:=by simpa using e1
 generalize hfb:fitB d.kind kk=vb at *;refine ⟨λ_ H'=>∃q,(q=none->fitV d.kind w kk ws=[])/\Sep H' (gl 1 q (wds (fitV d.kind w kk ws))::bx ob (.cells true 0 [I kk,.int .u64 key,.slice (addr q) (fitV d.kind w kk ws).length 0,I 0,I 0])::bx i5 (.cells true 0 [I 0,.int .u64 0,.slice none 0 0,I 0,I 0])::bx i3 (.cells true 0 [I kind,.int .u64 key,.slice a n 0,I flag,I cpu])::bx i1 (.cells true 0 [I d.kind,I d.entries,I d.words,I d.buckets,I d.inner])::L),?_,?_⟩
 ·let W0:=(List.range w).map λi=>ws.getD i 0
  refine use_crossbarkit_FitOp_0 (λk t10 H'=>∃(j:Nat)(q:Option Nat),j<=w/\k=w - j/\t10=(j:Int)/\(vb=false->j=0)/\(q=none->j=0)/\Sep H' (gl 1 q (wds ((List.range j).map λi=>ws.getD i 0))::bx ob (.cells true 0 [I kk,.int .u64 key,.slice (addr q) j 0,I 0,I 0])::bx i (.cells true 1 ((kl d.kind).map I))::bx i5 (.cells true 0 [I 0,.int .u64 0,.slice none 0 0,I 0,I 0])::bx i3 (.cells true 0 [I kind,.int .u64 key,.slice a n 0,I flag,I cpu])::bx i1 (.cells true 0 [I d.kind,I d.entries,I d.words,I d.buckets,I d.inner])::L)) w ⟨0,none,Nat.zero_le _,rfl,rfl,λ_=>rfl,λ_=>rfl,gl_none.2 h20⟩ ?_;rintro k t10 ys H3 ⟨j,q,hj,rfl,rfl,hvj,hqj,h3⟩;have hq':q=none->(List.range j).map (λi=>ws.getD i 0)=[]:=λe=>by rw [hqj e];rfl
  have done:(vb=true->j=w)->∃q,(q=none->fitV d.kind w kk ws=[])/\Sep H3 (gl 1 q (wds (fitV d.kind w kk ws))::bx ob (.cells true 0 [I kk,.int .u64 key,.slice (addr q) (fitV d.kind w kk ws).length 0,I 0,I 0])::bx i5 (.cells true 0 [I 0,.int .u64 0,.slice none 0 0,I 0,I 0])::bx i3 (.cells true 0 [I kind,.int .u64 key,.slice a n 0,I flag,I cpu])::bx i1 (.cells true 0 [I d.kind,I d.entries,I d.words,I d.buckets,I d.inner])::L):=λhv=>by
   have e:fitV d.kind w kk ws=(List.range j).map λi=>ws.getD i 0:=by
    unfold fitV;rw [hfb];cases vb with
    |false=>rw [hvj rfl];rfl
    |true=>rw [hv rfl];rfl
   have el:((List.range j).map λi=>ws.getD i 0).length=j:=by simp
   refine ⟨q,λe1=>by rw [e];exact hq' e1,?_⟩;rw [e,el];exact h3.rm2
  refine cond_of (λhc=>⟨_,Sep.ld5 h3 rfl,cond_of (λhlt=>?_) λhlt=>?_⟩) λhc=>?_
  ·have hlt:j<w:=by simp only [decide_eq_true_eq] at hlt;rw [hw] at hlt;omega
   have grow:∀(v:BitVec 64),v=ws.getD j 0->∃a8 l8,H3.cell ob 2=some (.slice a8 l8 0)/\nwH H3 (.cells true 1 [W v]) λi9 H2=>∃l15,rowOf H2 1 (some ⟨i9,0,none⟩) 1=some l15/\apd H2 8 1 a8 l8 1 l15 λa16 i17 H18=>stc H18 ob 2 [(.slice a16 i17 0)] λH'=>∃k',k'<w - j/\∃(j':Nat)(q:Option Nat),j'<=w/\k'=w - j'/\IntKind.i64.wrap ((j:Int)+1)=(j':Int)/\(vb=false->j'=0)/\(q=none->j'=0)/\Sep H' (gl 1 q (wds ((List.range j').map λi=>ws.getD i 0))::bx ob (.cells true 0 [I kk,.int .u64 key,.slice (addr q) j' 0,I 0,I 0])::bx i (.cells true 1 ((kl d.kind).map I))::bx i5 (.cells true 0 [I 0,.int .u64 0,.slice none 0 0,I 0,I 0])::bx i3 (.cells true 0 [I kind,.int .u64 key,.slice a n 0,I flag,I cpu])::bx i1 (.cells true 0 [I d.kind,I d.entries,I d.words,I d.buckets,I d.inner])::L):=λv ev=>by
    refine fit_loop (i1:=i1) (i3:=i3) v h3 (by simp) hq' (by simp;omega) λH' q' h'=>⟨w - (j+1),by omega,j+1,some q',by omega,rfl,by rw [wrap_i64 (by omega)];omega,λe=>(by rw [hc] at e;cases e),λe=>(by cases e),?_⟩
    have e:(List.range (j+1)).map (λi=>ws.getD i 0)=(List.range j).map (λi=>ws.getD i 0)++[v]:=by rw [List.range_succ,List.map_append,ev];rfl
    rw [e];exact h'
   refine ⟨_,Sep.ld5 h3 rfl,_,Sep.ld5 h3 rfl,cond_yes (by rw [hd];rfl) ⟨_,_,Sep.ld4 h3 rfl,cond_of (λhin=>?_) λhin=>?_⟩⟩
   ·have hin:j<ws.length:=by simp only [decide_eq_true_eq] at hin;omega
    have ra':=ra.tail' (A:=bx i1 (.cells true 0 [I d.kind,I d.entries,I d.words,I d.buckets,I d.inner]));obtain ⟨g,rfl,e1⟩:=ra H3 (Sep.drop h3 6) j (ws.getD j 0) (by rw [List.getD_eq_getElem?_getD,List.getElem?_eq_getElem hin];rfl);exact ⟨_,_,Sep.ld4 h3 rfl,⟨by unfold inB;omega,asRow_in ⟨_,e1,grow _ rfl⟩⟩⟩
   ·have hin:ws.length<=j:=by simp only [decide_eq_false_iff_not] at hin;omega
    have e0:IntKind.u64.wrap d.inner=((0:BitVec 64).toNat:Int):=by rw [hd];rfl
    rw [e0];exact grow 0 (by rw [List.getD_eq_getElem?_getD,List.getElem?_eq_none hin];rfl)
  ·exact done λ_=>by simp only [decide_eq_false_iff_not] at hlt;rw [hw] at hlt;omega
  ·exact done λe=>by rw [hc] at e;cases e
 rintro ys H46 ⟨q,hq,h46⟩;have hR:=λH'=>hR H' q hq
 have fin:∀(f:Int)(H2:Heap),f=fitF d.kind kk flag->Sep H2 (gl 1 q (wds (fitV d.kind w kk ws))::bx ob (.cells true 0 [I kk,.int .u64 key,.slice (addr q) (fitV d.kind w kk ws).length 0,I f,I 0])::bx i5 (.cells true 0 [I 0,.int .u64 0,.slice none 0 0,I 0,I 0])::bx i3 (.cells true 0 [I kind,.int .u64 key,.slice a n 0,I flag,I cpu])::bx i1 (.cells true 0 [I d.kind,I d.entries,I d.words,I d.buckets,I d.inner])::L)->
   ∃n53 n54 a55 i56 n57 n58,H2.cellsAt ob 0 5=some [I n53,.int .u64 n54,.slice a55 i56 0,I n57,I n58]/\stc H2 i5 0 [I n53,.int .u64 n54,.slice a55 i56 0,I n57,I n58] λH59=>∃n60 n61 a62 i63 n64 n65,H59.cellsAt i5 0 5=some [I n60,.int .u64 n61,.slice a62 i63 0,I n64,I n65]/\R (.agg #[I n60,.int .u64 n61,.slice a62 i63 0,I n64,I n65]) H59:=λf H2 ef h2=>by
  refine ⟨_,_,_,_,_,_,Sep.lds1 h2 rfl,Sep.st2 h2 (Nat.le_of_ble_eq_true rfl) λH59 h59=>⟨_,_,_,_,_,_,Sep.lds2 h59 rfl,?_⟩⟩;rw [ef];exact hR H59 (Sep.pick h59 5 [0] (by decide))
 refine ⟨_,Sep.ld1 h46 rfl,cond_of (λz=>?_) λz=>cond_of (λz4=>?_) λz4=>cond_of (λz6=>⟨_,Sep.ld4 h46 rfl,cond_of (λz8=>?_) λz8=>?_⟩) λz6=>?_⟩
 ·have z:kk=2:=by simpa using z
  refine ⟨_,Sep.ld3 h46 rfl,Pick_ok (by decide) (by decide) ⟨_,rfl,Sep.st1 h46 (Nat.le_of_ble_eq_true rfl) λH52 h52=>fin _ H52 ?_ h52⟩⟩;unfold fitF;rw [if_pos z]
 ·have z:¬kk=2:=by simpa using z
  have z4:kk=4:=by simpa using z4
  refine ⟨_,Sep.ld3 h46 rfl,Pick_ok (by decide) (by decide) ⟨_,rfl,Sep.st1 h46 (Nat.le_of_ble_eq_true rfl) λH52 h52=>fin _ H52 ?_ h52⟩⟩;unfold fitF;rw [if_neg z,if_pos z4]
 ·have z:¬kk=2:=by simpa using z
  have z4:¬kk=4:=by simpa using z4
  have z6:kk=6:=by simpa using z6
  have z8:d.kind≠8:=by simpa using z8
  refine ⟨_,Sep.ld3 h46 rfl,Pick_ok (by decide) (by decide) ⟨_,rfl,Sep.st1 h46 (Nat.le_of_ble_eq_true rfl) λH52 h52=>fin _ H52 ?_ h52⟩⟩;unfold fitF;rw [if_neg z,if_neg z4,if_pos z6,if_pos z8,wrap_i64 (by omega)]
 ·have z:¬kk=2:=by simpa using z
  have z4:¬kk=4:=by simpa using z4
  have z6:kk=6:=by simpa using z6
  have z8:¬d.kind≠8:=by simpa using z8
  refine fin _ H46 ?_ h46;unfold fitF;rw [if_neg z,if_neg z4,if_pos z6,if_neg z8]
 ·have z:¬kk=2:=by simpa using z
  have z4:¬kk=4:=by simpa using z4
  have z6:¬kk=6:=by simpa using z6
  refine fin _ H46 ?_ h46;unfold fitF;rw [if_neg z,if_neg z4,if_neg z6]
abbrev Bz:Nat:=140737488355328
def OldZ (H0:Heap)(P:List Value->Prop)(c:List Value):Prop:=
 c=[.slice none 0 0]∨∃(i:Nat)(cs:List (List Value)),c=[.slice (some ⟨i,0,none⟩) cs.length 0]/\i<H0.next/\H0.get i=some (AS.Obj.cells false 0 cs.flatten)/\(∀d∈cs,P d)/\cs.length<=140737488355328
theorem OldZ.of {P:List Value->Prop}{c:List Value}(h:OldZ H0 P c):∃a n css,c=[.slice a n 0]/\OldS H0 a n css/\(∀d∈css,P d)/\css.length<=Bz:=by
 rcases h with rfl|⟨i,cs,rfl,h1,h2,h3,h4⟩
 ·exact ⟨none,0,[],rfl,⟨rfl,.inl ⟨rfl,rfl⟩⟩,by simp,by simp⟩
 ·exact ⟨_,_,cs,rfl,⟨rfl,.inr ⟨i,rfl,h1,h2⟩⟩,h3,h4⟩
def OpZ (H0:Heap)(c:List Value):Prop:=
 ∃(a18 b19:List Value),c=a18++b19/\(∃n:Int,a18=[.int .i64 n]/\(Lit.int .i64 n).wf=true)/\(∃(a20 b21:List Value),b19=a20++b21/\(∃n:Int,a20=[.int .u64 n]/\(Lit.int .u64 n).wf=true)/\(∃(a22 b23:List Value),b21=a22++b23/\OldZ H0 (λd=>∃n:Int,d=[.int .u64 n]/\(Lit.int .u64 n).wf=true) a22/\(∃(a25 b26:List Value),b23=a25++b26/\(∃n:Int,a25=[.int .i64 n]/\(Lit.int .i64 n).wf=true)/\(∃(a27 b28:List Value),b26=a27++b28/\(∃n:Int,a27=[.int .i64 n]/\(Lit.int .i64 n).wf=true)/\b28=[]))))
theorem OpZ.of {c:List Value}(h:OpZ H0 c):∃o:Op,OpC H0 o c/\o.val.length<=Bz:=by
 obtain ⟨_,_,rfl,⟨k,rfl,_⟩,_,_,rfl,⟨key,rfl,hk⟩,_,_,rfl,hv,_,_,rfl,⟨f,rfl,_⟩,_,_,rfl,⟨cp,rfl,_⟩,rfl⟩:=h;obtain ⟨a,n,css,rfl,ho,hc,hl⟩:=hv.of;obtain ⟨l,rfl⟩:=words_of css hc;obtain ⟨w,rfl⟩:=word_of hk;rw [List.length_map] at hl;exact ⟨⟨k,w,l,f,cp⟩,⟨a,n,rfl,ho⟩,hl⟩
end
section
variable {H H0:Heap} {L:List Asr} {val:List (BitVec 64)} {a:Option Addr}
structure Deed where
 todo:Int
 o:Op
 v:BitVec 64
abbrev deedV (d:Deed)(a:Option Addr)(n:Nat):List Value:=[I d.todo,I d.o.kind,.int .u64 d.o.key.toNat,.slice a n 0,I d.o.flag,I d.o.cpu,.int .u64 d.v.toNat]
def DeedC (H0:Heap)(d:Deed)(c:List Value):Prop:=∃a n,c=deedV d a n/\OldS H0 a n (d.o.val.map λw=>[W w])
structure DeedsL (H0:Heap)(a:Option Addr)(n:Nat)(l:List Deed):Prop where
 len:n=l.length
 ex:∃css,OldS H0 a n css/\(∀c∈css,c.length=7)/\∀(j:Nat) o,l[j]? =some o->∃c,css[j]? =some c/\DeedC H0 o c
def DeedsC (H0:Heap)(l:List Deed)(c:List Value):Prop:=∃a n,c=[.slice a n 0]/\DeedsL H0 a n l
structure DeedsLL (H0:Heap)(a:Option Addr)(n:Nat)(ll:List (List Deed)):Prop where
 len:n=ll.length
 ex:∃css,OldS H0 a n css/\(∀c∈css,c.length=1)/\∀(k:Nat) l,ll[k]? =some l->∃c,css[k]? =some c/\DeedsC H0 l c
theorem DeedsLL.at' {n:Nat}{ll:List (List Deed)}(o:DeedsLL H0 a n ll)(hs:Sep H L)(hm:old H0∈L){k:Nat}{l:List Deed}(hk:ll[k]? =some l) :
  ∃i a' n',a=some ⟨i,0,none⟩/\H.cell i (0+k*1)=some (.slice a' n' 0)/\DeedsL H0 a' n' l:=by
 have⟨css,h1,h2,h3⟩:=o.ex;obtain ⟨c,hc,a',n',rfl,h4⟩:=h3 k l hk;have⟨i,e,h5⟩:=h1.cell0 hs hm h2 hc rfl;exact ⟨i,a',n',e,h5,h4⟩
theorem DeedsL.at' {n:Nat}{l:List Deed}(o:DeedsL H0 a n l)(hs:Sep H L)(hm:old H0∈L){j:Nat}{x:Deed}(hj:l[j]? =some x) :
  ∃i a' n',a=some ⟨i,0,none⟩/\H.cellsAt i (0+j*7) 7=some (deedV x a' n')/\H.cell i (0+j*7+3)=some (.slice a' n' 0)/\n'=x.o.val.length/\∀L,old H0∈L->RdW L a' x.o.val:=by
 have⟨css,h1,h2,h3⟩:=o.ex;obtain ⟨c,hc,a',n',rfl,h4⟩:=h3 j x hj;have⟨i,e,h5,h6⟩:=h1.row hs hm h2 hc;exact ⟨i,a',n',e,h5,h6 3 _ rfl,by rw [h4.len];simp,λL hL=>rdw_old h4 hL⟩
end
section
variable {H H' H0:Heap} {R:Value->Heap->Prop} {M:List Asr} {hs hs':List Int} {D:Dq} {c:Lc} {q:Qr} {X:Gx} {PL:List Asr} {r vb:Nat}
variable {z:Sd} {css:List (List Value)} {k:Nat} {u:Su} {a:Kb} {G:Gr} {kb:Option Nat} {v:Value}
structure Fresh (a a':Kb)(dk:Int):Prop where
 at_:a'.at_=a.at_+1
 i:a'.i=0
 dk:a'.dk=dk
 had:a'.had=false
 ra:a'.ra=a.ra/\a'.rv=a.rv
 kb:a'.kb=a.kb/\a'.ks=a.ks
 va:a'.va=none->a'.vl=[]
theorem fitV_len (x:Int)(ws:List Wd):(fitV 5 1 x ws).length<=1:=by unfold fitV;split<;>simp
theorem fitV_two {x:Int}(ws:List Wd)(h:x=2):∃w,fitV 5 1 x ws=[w]:=by
 subst h;exact ⟨ws.getD 0 0,rfl⟩
set_option maxHeartbeats 1000000 in
theorem start_s {ll:List (List Deed)}{l:List Deed}{at_:Nat}{x:Deed}(hk:KO css k)(hkn:k<z.n)(hm:old H0∈M)(dl:DeedsLL H0 z.la z.n ll)(hl:ll[k]? =some l)(hat:a.at_=(at_:Int))(hx:l[at_]? =some x)(hll:l.length<=1000)
  (hz:z.d=⟨5,c.d1,1,0,0⟩)(h:Sep H (xA c::grA c.g c.m X::SL c z css k u hs D a M))(hva:a.va=none->a.vl=[])
  (hE:(X.G.enter k).1=true)
  (hV:∀H' PL r vb b X' a',Fresh a a' (x.todo % 4)->X'.G=(X.G.enter k).2->(x.todo % 4=1∨x.todo % 4=2)->a'.ph=2->a'.run=none->a'.vis=some ⟨vb,0,none⟩->
   Vk H' PL r vb c {Qr.zero (some vb) with nx:=.enter ⟨b,0,0⟩ .room} X' (SL c z css k u hs D a' M)->R (.bool true) H')
  (hO:∀H' PL r b X' a' kd ky fl val,Fresh a a' (x.todo % 4)->X'.G=(X.G.enter k).2->(x.todo % 4≠1/\x.todo % 4≠2)->a'.ph=1->a'.run=some ⟨r,0,none⟩->OpK a' (Qr.new kd ky fl 0 val b)->(x.todo % 4=3->kd=1)->
   Rk H' PL r c (Qr.new kd ky fl 0 val b) X' (SL c z css k u hs D a' M)->R (.bool true) H') :
  CA en F.crossbarlaw16_side_start [P z.s,I k] H R:=by
 apply vc_crossbarlaw16_side_start;have hatl:at_<l.length:=(List.getElem?_eq_some_iff.1 hx).1;have hB:=h.bump 17;have hmS:∀{A:List Asr},old H0∈A++M:=λ{A}=>List.mem_append_right _ hm
 have hm2:old H0∈xA c::grA c.g c.m X::SL c z css k u hs D a M:=by simp [hm]
 have⟨i1,a1,n1,e1,c1,d1⟩:=dl.at' hB hm2 hl;have⟨i2,a2,n2,e2,c2,_,ev,hrd⟩:=d1.at' hB hm2 hx;refine asAddr_in ⟨_,_,Sep.ld3 h rfl,⟨by omega,by omega⟩,asRow_in (asAddr_in ⟨_,_,Sep.ld3 hB rfl,⟨by omega,by omega⟩,?_⟩)⟩;rw [e1];refine asRow_in ?_;rw [Int.toNat_natCast];refine ⟨_,_,c1,_,ald0 hk hB (j:=2) rfl rfl,?_⟩;show inB a.at_ n1/\_;rw [hat,e2];refine ⟨⟨by omega,by rw [d1.len];omega⟩,asRow_in ⟨_,_,_,_,_,_,_,_,by rw [Int.toNat_natCast];exact c2,?_⟩⟩;refine ast hk hB (j:=2) rfl {a with dk:=x.todo,ok:=x.o.kind,oy:=x.o.key,ova:=a2,ovn:=n2,ofl:=x.o.flag,ocp:=x.o.cpu,dn:=x.v} (Nat.le_of_ble_eq_true rfl) rfl λH26 h26=>⟨⟨_,ald hk h26 (j:=2) rfl rfl,?_⟩,trivial⟩
 refine Pick_ok (by decide) (by decide) ⟨_,rfl,?_⟩;refine ast hk h26 (j:=2) rfl {a with dk:=x.todo % 4,ok:=x.o.kind,oy:=x.o.key,ova:=a2,ovn:=n2,ofl:=x.o.flag,ocp:=x.o.cpu,dn:=x.v} (Nat.le_of_ble_eq_true rfl) rfl λH31 h31=>⟨_,ald0 hk h31 (j:=2) rfl rfl,?_⟩
 have ew:IntKind.i64.wrap (a.at_+1)=(at_:Int)+1:=by rw [hat,wrap_i64 (by omega)]
 show stc H31 _ _ [(I (IntKind.i64.wrap (a.at_+1)))] _;rw [ew];refine ast0 hk h31 (j:=2) rfl {a with at_:=(at_:Int)+1,dk:=x.todo % 4,ok:=x.o.kind,oy:=x.o.key,ova:=a2,ovn:=n2,ofl:=x.o.flag,ocp:=x.o.cpu,dn:=x.v} (Nat.le_of_ble_eq_true rfl) rfl λH33 h33=>?_
 refine ast hk h33 (j:=2) rfl {a with at_:=(at_:Int)+1,dk:=x.todo % 4,ok:=x.o.kind,oy:=x.o.key,ova:=a2,ovn:=n2,ofl:=x.o.flag,ocp:=x.o.cpu,dn:=x.v,had:=false} (Nat.le_of_ble_eq_true rfl) rfl λH34 h34=>?_
 refine ast hk h34 (j:=2) rfl {a with at_:=(at_:Int)+1,dk:=x.todo % 4,ok:=x.o.kind,oy:=x.o.key,ova:=a2,ovn:=n2,ofl:=x.o.flag,ocp:=x.o.cpu,dn:=x.v,had:=false,i:=0} (Nat.le_of_ble_eq_true rfl) rfl λH35 h35=>?_
 refine ast hk h35 (j:=2) rfl {a with at_:=(at_:Int)+1,dk:=x.todo % 4,ok:=x.o.kind,oy:=x.o.key,ova:=a2,ovn:=n2,ofl:=x.o.flag,ocp:=x.o.cpu,dn:=x.v,had:=false,i:=0,run:=none} (Nat.le_of_ble_eq_true rfl) rfl λH36 h36=>?_
 refine ast hk h36 (j:=2) rfl {a with at_:=(at_:Int)+1,dk:=x.todo % 4,ok:=x.o.kind,oy:=x.o.key,ova:=a2,ovn:=n2,ofl:=x.o.flag,ocp:=x.o.cpu,dn:=x.v,had:=false,i:=0,run:=none,ph:=1} (Nat.le_of_ble_eq_true rfl) rfl λH37 h37=>?_
 generalize hb:({a with at_:=(at_:Int)+1,dk:=x.todo % 4,ok:=x.o.kind,oy:=x.o.key,ova:=a2,ovn:=n2,ofl:=x.o.flag,ocp:=x.o.cpu,dn:=x.v,had:=false,i:=0,run:=none,ph:=1}:Kb)=b1 at h37;have h37:Sep H37 (xA c::grA c.g c.m X::SL c z css k u hs D b1 M):=by rw [<-hb];rw [<-hb] at h37;exact h37
 have f1:Fresh a b1 (x.todo % 4)/\b1.va=a.va/\b1.vl=a.vl/\b1.run=none/\b1.ph=1/\b1.oy=x.o.key/\b1.ova=a2/\b1.ovn=n2/\b1.ok=x.o.kind/\b1.ofl=x.o.flag/\b1.ocp=x.o.cpu:=by
  subst hb;exact ⟨⟨by rw [hat],rfl,rfl,rfl,⟨rfl,rfl⟩,⟨rfl,rfl⟩,hva⟩,rfl,rfl,rfl,rfl,rfl,rfl,rfl,rfl,rfl,rfl⟩
 have⟨fr,v1,v2,v3,v4,v5,v6,v7,v8,v9,v10⟩:=f1;clear h36 h35 h34 h33 h31 h26 hB c1 c2;refine asAddr_in ⟨_,Sep.ld3 h37 rfl,gcount_s (Sep.up1 h37) ⟨_,rfl,asAddr_in ⟨_,Sep.ld3 h37 rfl,?_⟩⟩⟩;refine enter_s (gr_isG (Sep.up1 h37)) λH48 h48=>⟨_,rfl,?_⟩
 rw [hE];have⟨X',eX,h49⟩:=isG_gr h48;have h49:Sep H48 (xA c::grA c.g c.m X'::SL c z css k u hs D b1 M):=Sep.up1 h49;have ecount:X'.G.S.count=X.G.S.count:=by rw [eX];unfold Gr.enter;split<;>rfl
 refine cond_no rfl ⟨_,ald hk h49 (j:=2) rfl rfl,?_⟩;have visit:∀(w:b1.dk=1∨b1.dk=2),stc H48 z.ab (0+k*24+1) [(I 2)] λH51=>AS.asAddr (P z.s) λi52 i53=>∃a54,H51.cell i52 (i53+2)=some (.pointer a54)/\
   CA en F.lru_Map_Room [(.pointer a54),(I 0)] H51 λv55 H56=>∃a57,v55=(.pointer a57)/\stc H56 z.ab (0+k*24+11) [(.pointer a57)] λH58=>∃a59,H58.cell z.ab (0+k*24+11)=some (.pointer a59)/\
    bif (!a59.isNone) then (AS.asAddr (P z.s) λi60 i61=>∃a62,H58.cell i60 i61=some (.pointer a62)/\CA en F.smem_Mem_Count [(.pointer a62)] H58 λv63 H64=>∃n65,v63=(I n65)/\R (.bool (n65==X.G.S.count)) H64)
    else (R (.bool false) H58):=λw=>by
  refine ast hk h49 (j:=2) rfl {b1 with ph:=2} (Nat.le_of_ble_eq_true rfl) rfl λH51 h51=>asAddr_in ⟨_,Sep.ld3 h51 rfl,?_⟩
  refine Room_s h51 λH56 PL r vb b o56=>⟨_,rfl,?_⟩
  have⟨kb,nv,x1,x2,x3,h56⟩:=o56.ex;refine ast hk h56 (j:=7) rfl {b1 with ph:=2,vis:=some ⟨vb,0,none⟩} (Nat.le_of_ble_eq_true rfl) rfl λH58 h58=>⟨_,ald hk h58 (j:=7) rfl rfl,cond_yes rfl (asAddr_in ⟨_,Sep.ld8 h58 rfl,gcount_s (Sep.up3 h58) ⟨_,rfl,?_⟩⟩)⟩
  have:=hV H58 PL r vb b X' {b1 with ph:=2,vis:=some ⟨vb,0,none⟩} ⟨fr.at_,fr.i,fr.dk,fr.had,fr.ra,fr.kb,fr.va⟩ eX (by rw [<-fr.dk];exact w) rfl v3 rfl ⟨kb,nv,x1,x2,x3,h58⟩
  rw [ecount];simpa using this
 refine cond_of (λw=>visit (.inl (by simpa using w))) λw1=>⟨_,ald hk h49 (j:=2) rfl rfl,cond_of (λw=>visit (.inr (by simpa using w))) λw2=>?_⟩
 have w1:b1.dk≠1:=by simpa using w1
 have w2:b1.dk≠2:=by simpa using w2
 clear visit hV;have hC:=h49.bump 17;refine asAddr_in ⟨_,Sep.ld3 hC rfl,asAddr_in ⟨_,_,_,_,_,Sep.lds7 hC rfl,_,_,_,_,_,_,alds hk hC (j:=2) (o:=3+1) rfl rfl,?_⟩⟩;show CA en F.crossbarkit_FitOp [.agg #[I z.d.a,I z.d.b,I z.d.c,I z.d.d,I z.d.e],.agg #[I b1.ok,W b1.oy,.slice b1.ova b1.ovn 0,I b1.ofl,I b1.ocp],I 1] _ _;rw [hz,v5,v6,v7,v8,v9,v10];refine FitOp_s (d:=⟨5,c.d1,1,0,0⟩) (w:=1) rfl (by decide) rfl (by show (5:Int)≠2;decide) hC (hrd _ (by simp [hm])) ev λH99 g hg h99=>⟨_,_,_,_,_,_,rfl,?_⟩
 have hV1:=fitV_len (fitK 5 x.o.kind) x.o.val;have tail:∀{H:Heap}{b2:Kb}{kd:Int}{ky:Wd}{fl:Int},Fresh a b2 (x.todo % 4)->b2.ph=1->b2.kd=kd->b2.ky=ky->b2.fl=fl->b2.cp=0->b2.vl.length<=1->(b2.kd=2->∃w,b2.vl=[w])->(x.todo % 4=3->kd=1)->Sep H (xA c::grA c.g c.m X'::SL c z css k u hs D b2 M)->
   CA en F.crossbarkit_CopyOp [(.agg #[I b2.kd,W b2.ky,.slice (addr b2.va) b2.vl.length 0,I b2.fl,I b2.cp])] H λv116 H117=>
    ∃n118,∃n119,∃a120 i121,∃n122,∃n123,v116=(.agg #[(I n118),(.int .u64 n119),(.slice a120 i121 0),(I n122),(I n123)])/\
    nwH H117 (.cells true 0 [(I 0),(.int .u64 0),(.slice none 0 0),(I 0),(I 0)]) λi124 H125=>
    stc H125 i124 0 [(I n118),(.int .u64 n119),(.slice a120 i121 0),(I n122),(I n123)] λH126=>
    AS.asAddr (P z.s) λi127 i128=>∃a129,(H126.bump 10).cell i127 (i128+2)=some (.pointer a129)/\
    ∃n130,∃n131,∃a132 i133,∃n134,∃n135,(H126.bump 10).cellsAt i124 0 5=some [(I n130),(.int .u64 n131),(.slice a132 i133 0),(I n134),(I n135)]/\
    CA en F.lru_Map_Begin [(.pointer a129),(.agg #[(I n130),(.int .u64 n131),(.slice a132 i133 0),(I n134),(I n135)])] (H126.bump 10) λv136 H137=>
    ∃a138,v136=(.pointer a138)/\stc H137 z.ab (0+k*24+10) [(.pointer a138)] λH139=>((
     ∃a140 i141,H139.cell i124 2=some (.slice a140 i141 0)/\CA en F.crossbarkit_SpoilWords [(.slice a140 i141 0)] H139 λv142 H143=>v142=undef/\
     ∃a144,H143.cell z.ab (0+k*24+10)=some (.pointer a144)/\
     bif (!a144.isNone) then (AS.asAddr (P z.s) λi145 i146=>∃a147,H143.cell i145 i146=some (.pointer a147)/\CA en F.smem_Mem_Count [(.pointer a147)] H143 λv148 H149=>∃n150,v148=(I n150)/\R (.bool (n150==X.G.S.count)) H149)
     else (R (.bool false) H143))/\True):=by
  intro H b2 kd ky fl fr2 hph ekd eky efl ecp hvl htwo h3 hsep;refine CopyOp_s (ws:=b2.vl) hsep (rdw_gl (q:=b2.va) (by simp) fr2.va) rfl (by omega) λH117 g2 hg2 h117=>⟨_,_,_,_,_,_,rfl,?_⟩
  refine Sep.nw h117 λi124 H125 h125=>Sep.st0 h125 (Nat.le_of_ble_eq_true rfl) λH126 h126=>?_
  have hD:=h126.bump 10;refine asAddr_in ⟨_,Sep.ld5 hD rfl,_,_,_,_,_,_,Sep.lds0 hD rfl,?_⟩;have hD2:Sep (H126.bump 10) (xA c::grA c.g c.m X'::aB z css k b2::sB c z u::bx i124 (.cells true 0 [I b2.kd,W b2.ky,.slice (addr g2) b2.vl.length 0,I b2.fl,I b2.cp])::gl 1 g2 (wds b2.vl)::gl 1 b2.va (wds b2.vl)::gl 1 b2.ra (wds b2.rv)::gl 1 b2.kb (wds b2.ks)::y16 z.y z.d u.lb u.wb D::l16 u.lb D::w16 u.wb D::pzA hs u::pzB u::M):=Sep.pick hD 6 [2,3,4,5,0,1] (by decide);rw [ecp];refine Begin_s (vs:=b2.vl) hD2 rfl (λw hw=>?_) λH137 r PL b o137=>⟨_,rfl,?_⟩
  ·cases g2 with
   |none=>rw [hg2 rfl] at hw;cases hw
   |some g2=>
    refine ⟨g2,0,rfl,λH' hs'=>?_⟩;have h4:=gl_some.1 (hs'.drop 3);refine Sep.ld0 h4 ?_;cases hvl:b2.vl with
    |nil=>rw [hvl] at hw;cases hw
    |cons y ys=>rw [hvl] at hw;injection hw with hw;subst hw;rfl
  have⟨sa,nv,y1,y2,h137⟩:=o137.ex;refine ast hk h137 (j:=5) rfl {b2 with run:=some ⟨r,0,none⟩} (Nat.le_of_ble_eq_true rfl) rfl λH139 h139=>⟨⟨_,_,Sep.ld7 h139 rfl,?_⟩,trivial⟩
  have h140:=Sep.up8 h139;refine SpoilWords_s (q:=g2) (ws:=b2.vl) rfl (by omega) hg2 h140 λH143 h143=>⟨rfl,_,ald hk h143 (j:=5) rfl rfl,cond_yes rfl (asAddr_in ⟨_,Sep.ld6 h143 rfl,gcount_s (Sep.up3 h143) ⟨_,rfl,?_⟩⟩)⟩
  have ev2:b2.kd=2->∃g,b2.va=some g/\b2.vl=[b2.vl.headD 0]:=λe=>by
   have⟨w,e2⟩:=htwo e;cases hb:b2.va with
   |none=>rw [fr2.va hb] at e2;cases e2
   |some g=>exact ⟨g,rfl,by rw [e2];rfl⟩
  have:=hO H143 PL r b X' {b2 with run:=some ⟨r,0,none⟩} b2.kd b2.ky b2.fl (b2.vl.headD 0) ⟨fr2.at_,fr2.i,fr2.dk,fr2.had,fr2.ra,fr2.kb,fr2.va⟩ eX (by rw [<-fr.dk];exact ⟨w1,w2⟩) hph rfl ⟨rfl,rfl,rfl,rfl,ev2⟩ (λe=>ekd.trans (h3 e)) ⟨sa,nv,y1,y2,Sep.rm7 h143⟩
  rw [ecount];simpa using this
 have h100:Sep H99 (xA c::grA c.g c.m X'::aB z css k b1::sB c z u::gl 1 g (wds (fitV 5 1 (fitK 5 x.o.kind) x.o.val))::gl 1 b1.ra (wds b1.rv)::gl 1 b1.kb (wds b1.ks)::y16 z.y z.d u.lb u.wb D::l16 u.lb D::w16 u.wb D::pzA hs u::pzB u::M):=Sep.pick h99 8 [1,2,3,4,0,6,7] (by decide);refine ast hk h100 (j:=2) rfl {b1 with kd:=fitK 5 x.o.kind,ky:=x.o.key,va:=g,vl:=fitV 5 1 (fitK 5 x.o.kind) x.o.val,fl:=fitF 5 (fitK 5 x.o.kind) x.o.flag,cp:=0} (Nat.le_of_ble_eq_true rfl) rfl λH106 h106=>⟨⟨_,ald hk h106 (j:=2) rfl rfl,?_⟩,trivial⟩
 refine cond_of (λw3=>?_) λw3=>?_
 ·have w3:b1.dk=3:=by simpa using w3
  refine ⟨_,ald hk h106 (j:=2) (o:=3+1+1) rfl rfl,?_⟩;have h107:Sep H106 (gl 1 none (wds [])::xA c::grA c.g c.m X'::aB z css k {b1 with kd:=fitK 5 x.o.kind,ky:=x.o.key,va:=g,vl:=fitV 5 1 (fitK 5 x.o.kind) x.o.val,fl:=fitF 5 (fitK 5 x.o.kind) x.o.flag,cp:=0}::sB c z u::gl 1 b1.ra (wds b1.rv)::gl 1 b1.kb (wds b1.ks)::y16 z.y z.d u.lb u.wb D::l16 u.lb D::w16 u.wb D::pzA hs u::pzB u::M):=gl_none.2 (Sep.rm4 h106);have h108:=Sep.pick h107 5 [1,2,3,4,0] (by decide);show stc H106 _ _ [I 1,W b1.oy,.slice none 0 0,I 0,I 0] _;rw [v5];refine ast hk h108 (j:=2) rfl {b1 with kd:=1,ky:=x.o.key,va:=none,vl:=[],fl:=0,cp:=0} (Nat.le_of_ble_eq_true rfl) rfl λH109 h109=>⟨_,_,_,_,_,_,alds hk h109 (j:=2) rfl rfl,?_⟩
  exact tail (b2:={b1 with kd:=1,ky:=x.o.key,va:=none,vl:=[],fl:=0,cp:=0}) ⟨fr.at_,fr.i,fr.dk,fr.had,fr.ra,fr.kb,λ_=>rfl⟩ v4 rfl rfl rfl rfl (Nat.zero_le _) (λe=>by cases e) (λ_=>rfl) h109
 ·have w3:b1.dk≠3:=by simpa using w3
  refine ⟨_,_,_,_,_,_,alds hk h106 (j:=2) rfl rfl,?_⟩;exact tail (b2:={b1 with kd:=fitK 5 x.o.kind,ky:=x.o.key,va:=g,vl:=fitV 5 1 (fitK 5 x.o.kind) x.o.val,fl:=fitF 5 (fitK 5 x.o.kind) x.o.flag,cp:=0}) ⟨fr.at_,fr.i,fr.dk,fr.had,fr.ra,fr.kb,hg⟩ v4 rfl rfl rfl rfl hV1 (λe=>fitV_two _ e) (λe=>absurd (fr.dk.trans e) w3) h106
end
section
variable {H H' H0:Heap} {L:List Asr} {hs hs':List Int} {D D':Dq} {c:Lc} {q:Qr} {X X':Gx} {PL:List Asr} {r vb:Nat}
variable {z:Sd} {k:Nat} {u u':Su} {a a':Kb} {m0:Int} {G:Gr} {kb:Option Nat} {v:Value}
structure Own (a:Kb):Prop where
 va:a.va=none->a.vl=[]
 ra:a.ra=none->a.rv=[]
 kb:a.kb=none->a.ks=[]
def RB (c:Lc)(q:Qr)(r:Nat)(B:List Asr):Prop:=∃PL sa v,RV PL q.rv sa/\NV PL r q.nx v/\B=[rA r c q sa v,many PL,many (tkL c q.nx)]
def VB (c:Lc)(q:Qr)(r vb:Nat)(B:List Asr):Prop:=∃PL kb nv,(kb=none->q.keys=[])/\q.rv=[]/\NW PL r vb q.nx nv/\B=[rA r c q none nv,many PL,many (tkL c q.nx),vA r vb kb q,kA kb q]
structure AOp (c:Lc)(q:Qr)(a:Kb)(B:List Asr):Prop where
 ph:a.ph=1
 run:∃r,a.run=some ⟨r,0,none⟩/\RB c q r B
 op:OpK a q
 rs:ResK a q
 st:q.st=false
 dk:a.dk=3->a.kd=1
 i:a.i=0
structure AVs (c:Lc)(q:Qr)(a:Kb)(B:List Asr):Prop where
 ph:a.ph=2
 run:a.run=none
 had:a.had=false
 i:a.i=0
 dk:a.dk=1∨a.dk=2
 vis:∃r vb,a.vis=some ⟨vb,0,none⟩/\q.vb=some vb/\VB c q r vb B
 nx:q.nx.vis
structure AIn (c:Lc)(a:Kb)(B:List Asr):Prop where
 ph:a.ph=3
 dk:a.dk=1∨a.dk=2
 i:∃j:Nat,a.i=(j:Int)/\j<=a.ks.length
 len:(a.ks.length:Int)<=c.d1
 vis:∃r vb kb q v,a.vis=some ⟨vb,0,none⟩/\q.keys=a.ks/\(kb=none->q.keys=[])/\B=vsL r vb c kb q v
def Tld (hs:List Int)(DL:List (Wd×Nat))(u:Su)(q:Qr):Prop:=q.kd=1->q.no=0->∃p∈DL,q.el=elOf hs p.2/\p.2∈u.B
inductive AgI (c:Lc)(hs:List Int)(DL:List (Wd×Nat))(u:Su):Ph->Kb->List Asr->Prop where
 |out {a:Kb}(h:a.ph=0):AgI c hs DL u .out a []
 |idle {a:Kb}(h:a.ph=6):AgI c hs DL u .idle a []
 |opU {q:Qr}{a:Kb}{B:List Asr}(h:AOp c q a B)(hd:a.had=false):AgI c hs DL u (.und q) a B
 |opW {q:Qr}{a:Kb}{B:List Asr}(h:AOp c q a B)(hd:a.had=false):AgI c hs DL u (.wai q) a B
 |opR {q:Qr}{a:Kb}{B:List Asr}{n:Nat}{had:Bool}{m0:Int}(h:AOp c q a B)(hd:a.had=had)(hm:0<=m0)(ht:had=true->Tld hs DL u q):AgI c hs DL u (.run q n had m0) a B
 |viU {q:Qr}{a:Kb}{B:List Asr}(h:AVs c q a B):AgI c hs DL u (.und q) a B
 |viW {q:Qr}{a:Kb}{B:List Asr}(h:AVs c q a B):AgI c hs DL u (.wai q) a B
 |viR {q:Qr}{a:Kb}{B:List Asr}{n:Nat}{m0:Int}(h:AVs c q a B)(hm:0<=m0)(hn:q.keys.length+n<=900):AgI c hs DL u (.run q n false m0) a B
 |rest {a:Kb}{B:List Asr}(h:AIn c a B)(hr:a.run=none):AgI c hs DL u .rest a [many B]
 |inR {q:Qr}{a:Kb}{B B2:List Asr}{n:Nat}{had:Bool}{m0:Int}{r:Nat}(h:AIn c a B)(hr:a.run=some ⟨r,0,none⟩)(hb:RB c q r B2)(op:OpK a q)(rs:ResK a q)(st:q.st=true)(hd:a.had=had)(hm:0<=m0):AgI c hs DL u (.run q n had m0) a (many B::B2)
 |cell {a:Kb}{h:Int}{b:Nat}(hp:a.ph=5)(he:a.el=h)(hb:a.elem=(b:Int))(hr:1<=b/\b<=hs.length)(hh:elOf hs b=h)(hi:a.i=0∨a.i=1):AgI c hs DL u (.cell h) a []
theorem AgI.mono {DL DL':List (Wd×Nat)}{p:Ph}{B:List Asr}(h:AgI c hs DL u p a B)(pz:PzOk hs u)(hx:hs'=hs∨∃h,hs'=hs++[h])(hB:∀b∈u.B,b∈u'.B)(hD:p.isRun=true->DL'=DL):AgI c hs' DL' u' p a B:=by
 have ex:∀{b:Nat},b<=hs.length->elOf hs' b=elOf hs b/\b<=hs'.length:=λ{b} hb=>by
  rcases hx with rfl|⟨h,rfl⟩
  ·exact ⟨rfl,hb⟩
  ·exact ⟨elOf_ext hb,by rw [List.length_append];omega⟩
 cases h with
 |out h=>exact .out h
 |idle h=>exact .idle h
 |opU h hd=>exact .opU h hd
 |opW h hd=>exact .opW h hd
 |opR h hd hm ht=>
  obtain rfl:=hD rfl;refine .opR h hd hm λe h1 h2=>?_
  have⟨p,hp,e1,e2⟩:=ht e h1 h2;exact ⟨p,hp,by rw [e1,(ex (pz.rng _ e2).2).1],hB _ e2⟩
 |viU h=>exact .viU h
 |viW h=>exact .viW h
 |viR h hm hn=>exact .viR h hm hn
 |rest h hr=>exact .rest h hr
 |inR h hr hb op rs st hd hm=>exact .inR h hr hb op rs st hd hm
 |cell hp he hb hr hh hi=>exact .cell hp he hb ⟨hr.1,(ex hr.2).2⟩ (by rw [(ex hr.2).1];exact hh) hi
def agA (a:Kb)(B:List Asr):Asr:=many (gl 1 a.va (wds a.vl)::gl 1 a.ra (wds a.rv)::gl 1 a.kb (wds a.ks)::B)
structure St (H0:Heap)(c:Lc)(z:Sd)(ps:List Ph)(Ks:List Kb)(Q:List Nat)(sv:Wd)(hs:List Int)(D:Dq)(la:List El)(X:Gx)(u:Su)(AB:List Asr)(H:Heap):Prop where
 len:ps.length=z.n/\Ks.length=z.n/\AB.length=z.n/\1<=z.n/\z.n<=4
 dz:z.d=⟨5,c.d1,1,0,0⟩
 w:Wo c ps Q sv hs D la X.G
 ok:Ok16 c.d1 u.lb u.wb D
 pz:PzOk hs u
 ag:∀(k:Nat)(p:Ph)(a:Kb)(A:Asr),ps[k]? =some p->Ks[k]? =some a->AB[k]? =some A->∃B,A=agA a B/\AgI c hs D.L u p a B/\Own a
 sep:Sep H (bx z.ab (.cells true 24 (Ks.map Kb.cells).flatten)::sB c z u::y16 z.y z.d u.lb u.wb D::l16 u.lb D::w16 u.wb D::pzA hs u::pzB u::xA c::grA c.g c.m X::many AB::[old H0])
theorem ks_len (Ks:List Kb):∀c∈Ks.map Kb.cells,c.length=24:=by
 intro c hc;obtain ⟨q,_,rfl⟩:=List.mem_map.1 hc;rfl
variable {ps:List Ph} {Ks:List Kb} {Q Q':List Nat} {sv sv':Wd} {la la':List El} {AB:List Asr} {p p':Ph} {B B':List Asr}
abbrev Mk (H0:Heap)(AB:List Asr)(k:Nat):List Asr:=many (AB.eraseIdx k)::[old H0]
theorem St.focus (s:St H0 c z ps Ks Q sv hs D la X u AB H)(hk:k<z.n):∃p a B,ps[k]? =some p/\Ks[k]? =some a/\AB[k]? =some (agA a B)/\AgI c hs D.L u p a B/\Own a/\KO (Ks.map Kb.cells) k/\Sep H (B++(xA c::grA c.g c.m X::SL c z (Ks.map Kb.cells) k u hs D a (Mk H0 AB k))):=by
 have⟨l1,l2,l3,l4,l5⟩:=s.len;have⟨p,hp⟩:∃p,ps[k]? =some p:=⟨_,List.getElem?_eq_getElem (by omega)⟩;have⟨a,ha⟩:∃p,Ks[k]? =some p:=⟨_,List.getElem?_eq_getElem (by omega)⟩;have⟨A,hA⟩:∃p,AB[k]? =some p:=⟨_,List.getElem?_eq_getElem (by omega)⟩;obtain ⟨B,rfl,hI,hO⟩:=s.ag k p a A hp ha hA;refine ⟨p,a,B,hp,ha,hA,hI,hO,⟨ks_len Ks,by rw [List.length_map];omega⟩,?_⟩;have e1:(Ks.map Kb.cells).set k a.cells=Ks.map Kb.cells:=set_same (by rw [List.getElem?_map,ha];rfl);have h1:=mny_out hA (Sep.up9 s.sep);have h2:=Sep.many_iff.1 h1;have h3:Sep H (gl 1 a.va (wds a.vl)::gl 1 a.ra (wds a.rv)::gl 1 a.kb (wds a.ks)::(B++(many (AB.eraseIdx k)::aB z (Ks.map Kb.cells) k a::sB c z u::y16 z.y z.d u.lb u.wb D::l16 u.lb D::w16 u.wb D::pzA hs u::pzB u::xA c::grA c.g c.m X::[old H0]))):=by
  show Sep H (_::_::_::(B++(_::bx z.ab (.cells true 24 ((Ks.map Kb.cells).set k a.cells).flatten)::_)));rw [e1];exact h2
 have h4:Sep H (B++(gl 1 a.va (wds a.vl)::gl 1 a.ra (wds a.rv)::gl 1 a.kb (wds a.ks)::many (AB.eraseIdx k)::aB z (Ks.map Kb.cells) k a::sB c z u::y16 z.y z.d u.lb u.wb D::l16 u.lb D::w16 u.wb D::pzA hs u::pzB u::xA c::grA c.g c.m X::[old H0])):=
  h3.perm (List.perm_append_comm_assoc [_,_,_] B _)
 have h5:=Sep.many_iff.2 h4;have h6:=Sep.pick h5 14 [0,12,13,5,6,1,2,3,7,8,9,10,11,4] (by decide);exact Sep.many_iff.1 h6
theorem St.go (s:St H0 c z ps Ks Q sv hs D la X u AB H)(hk:k<z.n){p0:Ph}{a0:Kb}(hp0:ps[k]? =some p0)(ha0:Ks[k]? =some a0)(w:Wo c (ps.set k p') Q' sv' hs' D' la' X'.G)(o:Ok16 c.d1 u'.lb u'.wb D')(pz:PzOk hs' u')(hx:hs'=hs∨∃h,hs'=hs++[h])(hB:∀b∈u.B,b∈u'.B)
  (hD:∀(j:Nat)(p:Ph),j≠k->ps[j]? =some p->p.isRun=true->D'.L=D.L)(hI:AgI c hs' D'.L u' p' a' B')(hO:Own a')
  (hs0:Sep H' (B'++(xA c::grA c.g c.m X'::SL c z (Ks.map Kb.cells) k u' hs' D' a' (Mk H0 AB k)))):St H0 c z (ps.set k p') (Ks.set k a') Q' sv' hs' D' la' X' u' (AB.set k (agA a' B')) H':=by
 have⟨l1,l2,l3,l4,l5⟩:=s.len;refine ⟨⟨by rw [List.length_set];exact l1,by rw [List.length_set];exact l2,by rw [List.length_set];exact l3,l4,l5⟩,s.dz,w,o,pz,λj p a A hp ha hA=>?_,?_⟩
 ·rw [lget_set (by omega)] at hp ha hA;by_cases e:j=k
  ·rw [if_pos e] at hp ha hA;injection hp with hp;injection ha with ha;injection hA with hA
   subst hp;subst ha;subst hA;exact ⟨B',rfl,hI,hO⟩
  ·rw [if_neg e] at hp ha hA;obtain ⟨B,rfl,h1,h2⟩:=s.ag j p a A hp ha hA;exact ⟨B,rfl,h1.mono s.pz hx hB (hD j p e hp),h2⟩
 ·have h1:=Sep.many_iff.2 hs0;have h2:=Sep.pick h1 14 [0,5,6,7,13,3,4,8,9,10,11,12,1,2] (by decide);have h3:Sep H' (B'++([gl 1 a'.va (wds a'.vl),gl 1 a'.ra (wds a'.rv),gl 1 a'.kb (wds a'.ks)]++(many (AB.eraseIdx k)::aB z (Ks.map Kb.cells) k a'::sB c z u'::y16 z.y z.d u'.lb u'.wb D'::l16 u'.lb D'::w16 u'.wb D'::pzA hs' u'::pzB u'::xA c::grA c.g c.m X'::[old H0]))):=Sep.many_iff.1 h2;have h4:Sep H' ((gl 1 a'.va (wds a'.vl)::gl 1 a'.ra (wds a'.rv)::gl 1 a'.kb (wds a'.ks)::B')++(many (AB.eraseIdx k)::aB z (Ks.map Kb.cells) k a'::sB c z u'::y16 z.y z.d u'.lb u'.wb D'::l16 u'.lb D'::w16 u'.wb D'::pzA hs' u'::pzB u'::xA c::grA c.g c.m X'::[old H0])):=
   h3.perm (List.perm_append_comm_assoc B' [_,_,_] _)
  have h5:Sep H' (agA a' B'::many (AB.eraseIdx k)::_):=Sep.many_iff.2 h4;have h6:=mny_in (by omega) h5;have h7:=Sep.pick h6 10 [1,2,3,4,5,6,7,8,9,0] (by decide);have e1:(Ks.map Kb.cells).set k a'.cells=(Ks.set k a').map Kb.cells:=(List.map_set ..).symm;have h8:Sep H' (bx z.ab (.cells true 24 ((Ks.map Kb.cells).set k a'.cells).flatten)::_):=h7;rw [e1] at h8;exact h8
end
section
variable {hs hs':List Int} {D D':Dq} {c:Lc} {q q':Qr} {G G':Gr} {k n:Nat} {a:Kb} {m0:Int} {had:Bool}
variable {ps:List Ph} {Q Q':List Nat} {sv:Wd} {la la':List El} {p p':Ph}
abbrev Tt (E:Nat):Nat:=2*E+11
def phi (E:Nat):Ph->Kb->Nat
 |.und q,_=>(if q.vb.isSome then (E+1)*Tt E+3 else Tt E+3)+1
 |.wai q,_=>if q.vb.isSome then (E+1)*Tt E+3 else Tt E+3
 |.run q n _ _,a=>if q.vb.isSome then n+E*Tt E+2 else if q.st then (a.ks.length - a.i.toNat)*Tt E+1+n else n+3
 |.rest,a=>(a.ks.length - a.i.toNat)*Tt E+1
 |.cell _,a=>if a.i=0 then 2 else 1
 |_,_=>0
abbrev Ee (c:Lc):Nat:=c.d1.toNat
theorem do_ws {E kd fl:Int}{ky v:Wd}:(D.do E kd ky fl v).2.ws.length<=D.ws.length+1:=by
 unfold Dq.do;split
 ·exact Nat.le_succ _
 ·split
  ·split
   ·split
    ·exact Nat.le_succ _
    ·simp
   ·split
    ·simp
    ·split<;>simp
  ·split<;>simp
theorem did_ws (h:Did c m0 G q' hs hs' D D'):D'.ws.length<=D.ws.length+1/\(hs'=hs∨∃h,hs'=hs++[h]):=by
 unfold Did at h;split at h
 ·rw [h.1];exact ⟨by omega,.inl h.2.1⟩
 ·rcases h with ⟨_,h1,h2,_⟩|⟨_,_,h1,h2⟩
  ·rw [h1];exact ⟨by omega,.inl h2⟩
  ·rw [h1];exact ⟨do_ws,h2.imp id λ⟨h,e,_⟩=>⟨h,e⟩⟩
theorem kp_of (h:q'.op=q.op/\(q'.eff=true∨q'.res=q.res)):Kp {q with eff:=false} q':=by
 refine ⟨h.1,?_⟩;cases he:q'.eff with
 |true=>exact .inr rfl
 |false=>exact .inl ⟨rfl,(h.2.resolve_left λe=>by rw [he] at e;cases e)⟩
structure Zc (c:Lc)(ps:List Ph)(k:Nat)(G:Gr)(hs hs':List Int)(D D':Dq):Prop where
 hx:hs'=hs∨∃h,hs'=hs++[h]
 ws:D'.ws.length<=D.ws.length+1
 oth:∀(j:Nat)(p:Ph),j≠k->ps[j]? =some p->p.isRun=true->D'.L=D.L
structure Zw (c:Lc)(ps:List Ph)(k:Nat)(Q Q':List Nat)(sv:Wd)(hs:List Int)(D:Dq)(la:List El)(q q':Qr)(p p':Ph)(G':Gr):Prop where
 w:Wo c (ps.set k p') Q' sv hs D la G'
 dn:q'.dn=false
 eff:q'.eff=false
 ph:(p'=.wai q'/\((∃q,p=.und q)∨(p=.wai q/\Q'=Q/\Q[0]? ≠some k)))∨∃n m0,p=.wai q/\p'=.run q' n false m0/\0<=m0/\n<=2*Ee c+10/\n<=138
theorem Wo.e (w:Wo c ps Q sv hs D la G):2*la.length+10<=2*Ee c+10/\2*la.length+10<=138:=by
 have h1:=w.ls.le;have h2:=w.ls.d1;unfold Ee;omega
theorem zw_und (w:Wo c ps Q sv hs D la G)(hk:ps[k]? =some (.und q)):∃q' G' p' Q',(∀b,q.step c G b=(q',G'))/\Zw c ps k Q Q' sv hs D la q q' (.und q) p' G':=by
 have⟨q',G',h1,h2,h3,h4,_⟩:=w.draw hk;exact ⟨q',G',_,_,h1,h2,h3,h4,.inl ⟨rfl,.inl ⟨q,rfl⟩⟩⟩
theorem zw_wai (w:Wo c ps Q sv hs D la G)(hk:ps[k]? =some (.wai q))(hN:ps.length<=4)(hm:G.S.made<2305843009213693951):∃q' G' p' Q',(∀b,q.step c G b=(q',G'))/\Zw c ps k Q Q' sv hs D la q q' (.wai q) p' G':=by
 by_cases hq:Q[0]? =some k
 ·have⟨q',G',h1,h2,h3,h4,_⟩:=w.got hm hk hq;have hmade:0<=G'.S.made:=by
   have:=h2.made;exact this.1
  exact ⟨q',G',_,_,h1,h2,h3,h4,.inr ⟨_,_,rfl,rfl,hmade,w.e.1,w.e.2⟩⟩
 ·have⟨q',G',h1,h2,h3,h4,_⟩:=w.wait hN hk hq;exact ⟨q',G',_,_,h1,h2,h3,h4,.inl ⟨rfl,.inr ⟨rfl,rfl,hq⟩⟩⟩
structure Zr (c:Lc)(ps:List Ph)(k:Nat)(Q:List Nat)(sv:Wd)(hs hs':List Int)(D D':Dq)(q':Qr)(n:Nat)(had:Bool)(m0:Int)(G':Gr):Prop where
 ex:∃la',(q'.dn=false->1<n/\Wo c (ps.set k (.run q' (n - 1) (had||q'.eff) m0)) Q sv hs' D' la' G')/\
  (q'.dn=true->0<n/\((q'.st=true∨q'.vb.isSome=true)->Wo c (ps.set k .rest) Q sv hs' D' la' G')/\
   (q'.st=false->q'.vb=none->∃Q1,Q=k::Q1/\Wo c (ps.set k .idle) Q1 (sv+1) hs' D' la' G'/\Mem c (cxT (sv+1)) G' la' [] (lenW la')))
 lone:∀(j:Nat)(p':Ph),j≠k->ps[j]? =some p'->p'.isRun=false
 hx:hs'=hs∨∃h,hs'=hs++[h]
 ws:D'.ws.length<=D.ws.length+1
theorem zr_run (w:Wo c ps Q sv hs D la G)(hk:ps[k]? =some (.run q n had m0))(hl:D.ws.length<1000000):q.dn=false/\q.nx≠.none/\G.S.fresh/\G.q.length<10000/\
  ∀b,∃hs' D',Stp c had m0 G q (q.step c G b).1 hs hs' D D'/\Zr c ps k Q sv hs hs' D D' (q.step c G b).1 n had m0 (q.step c G b).2:=by
 have⟨h1,h2,h3,h4,h5⟩:=w.step hk;refine ⟨h1,h2,h3,h4,λb=>?_⟩;have⟨hs',D',la',g1,g2,g3,g4,g5⟩:=h5 b;have hx:(hs'=hs∨∃h,hs'=hs++[h])/\D'.ws.length<=D.ws.length+1:=by
  cases he:(q.step c G b).1.eff with
  |false=>obtain ⟨rfl,rfl,_⟩:=g1 he;exact ⟨.inl rfl,by omega⟩
  |true=>have:=did_ws (g2 he).2;exact ⟨this.2,this.1⟩
 have hls:Ls c hs' D' la' (q.step c G b).2.S:=by
  cases hd:(q.step c G b).1.dn with
  |false=>exact (g4 hd).2.ls
  |true=>
   have⟨_,_,g6,g7⟩:=g5 hd;cases hv:(q.step c G b).1.vb with
   |some v=>exact (g6 (.inr (by rw [hv];rfl))).1.ls
   |none=>
    cases hst:(q.step c G b).1.st with
    |true=>exact (g6 (.inl hst)).1.ls
    |false=>have⟨Q1,_,h,_⟩:=g7 hst hv;exact h.ls
 refine ⟨hs',D',⟨λe=>⟨(g1 e).1,(g1 e).2.1⟩,g2,λe=>(g5 e).2.1,kp_of (step_kp h1 G b),hls.nd,?_⟩,⟨⟨la',g4,λhd=>?_⟩,w.lonely2 hk rfl,hx.1,hx.2⟩⟩
 ·have:=hls.cor.len;omega
 ·have⟨e1,_,e2,e3⟩:=g5 hd;exact ⟨e1,λh=>(e2 h).1,e3⟩
end
section
variable {hs hs':List Int} {D D':Dq} {c:Lc} {q q':Qr} {G G':Gr} {k n:Nat} {m0 m1:Int} {had had':Bool}
variable {ps:List Ph} {Q Q':List Nat} {sv sv':Wd} {la la':List El} {p p':Ph}
inductive Nxt (c:Lc)(ps:List Ph)(k:Nat)(Q:List Nat)(q q':Qr)(had':Bool)(p:Ph)(G G':Gr)(hs':List Int)(D D':Dq):Prop where
 |wai {Q':List Nat}{sv':Wd}{la':List El}(w:Wo c (ps.set k (.wai q')) Q' sv' hs' D' la' G')(dn:q'.dn=false)(hd:had'=false)(hv:p=.und q∨(p=.wai q/\Q'=Q/\Q[0]? ≠some k))(made:G'.S.made=G.S.made)(hD:D'=D):Nxt c ps k Q q q' had' p G G' hs' D D'
 |run {Q':List Nat}{sv':Wd}{la':List El}{n:Nat}{m0:Int}(w:Wo c (ps.set k (.run q' n had' m0)) Q' sv' hs' D' la' G')(dn:q'.dn=false)(hm:0<=m0)(h:(p=.wai q/\q.keys=[]/\n<=2*Ee c+10/\n<=138)∨∃n0 had m0,p=.run q n0 had m0/\n<n0):Nxt c ps k Q q q' had' p G G' hs' D D'
 |rest {Q':List Nat}{sv':Wd}{la':List El}(w:Wo c (ps.set k .rest) Q' sv' hs' D' la' G')(dn:q'.dn=true)(h:∃n0 had m0,p=.run q n0 had m0/\0<n0)(hv:q'.st=true∨q'.vb.isSome=true):Nxt c ps k Q q q' had' p G G' hs' D D'
 |idle {Q':List Nat}{sv':Wd}{la':List El}(w:Wo c (ps.set k .idle) Q' sv' hs' D' la' G')(M:Mem c (cxT sv') G' la' [] (lenW la'))(dn:q'.dn=true)(h:∃n0 had m0,p=.run q n0 had m0/\0<n0)(hv:q'.st=false/\q'.vb=none)
   (lone:∀(j:Nat)(p':Ph),j≠k->ps[j]? =some p'->p'.isRun=false):Nxt c ps k Q q q' had' p G G' hs' D D'
theorem enter_made {t:Tk}{kk:KS}(hd:q.dn=false)(hn:q.nx=.enter t kk)(b:Nat):(q.step c G b).2.S.made=G.S.made:=by
 rw [step_nx hd,hn];show (if _ then _ else _:Qr×Gr).2.S.made=_;split
 ·have h:=(doKS_G (c:=c) kk {q with eff:=false,nx:=.enter (t.step c G.S).2.1 kk} (G.mem (t.step c G.S).2.2) b).2.2.1;exact h.trans tk_made.1
 ·exact tk_made.1
theorem stp_quiet (w:Wo c ps Q sv hs D la G)(hd:q.dn=false)(b:Nat)(he:(q.step c G b).1.eff=false)(hn:(q.step c G b).1.dn=false)(hl:D.ws.length<1000000):Stp c had m0 G q (q.step c G b).1 hs hs D D:=
 ⟨λ_=>⟨rfl,rfl⟩,(λe=>by rw [he] at e;cases e),(λe=>by rw [hn] at e;cases e),kp_of (step_kp hd G b),w.ls.nd,by have:=w.ls.cor.len;omega⟩
theorem nxt_all (w:Wo c ps Q sv hs D la G)(hk:ps[k]? =some p)(hN:ps.length<=4)(hm:G.S.made<2305843009213693951)(hl:D.ws.length<1000000)(hm1:0<=m1)
  (hp:(p=.und q/\had=false)∨(p=.wai q/\had=false)∨∃n,p=.run q n had m1) :
  q.dn=false/\q.nx≠.none/\G.S.fresh/\G.q.length<10000/\∀b,∃hs' D',Stp c had m1 G q (q.step c G b).1 hs hs' D D'/\Zc c ps k G hs hs' D D'/\Nxt c ps k Q q (q.step c G b).1 (had||(q.step c G b).1.eff) p G (q.step c G b).2 hs' D D':=by
 have⟨l,x,cnt,M⟩:=w.memo;rcases hp with ⟨rfl,rfl⟩|⟨rfl,rfl⟩|⟨n,rfl⟩
 ·have hw:=w.lk.un k q hk;have⟨b0,hn⟩:=hw.nx;have⟨q',G',p',Q',h1,z⟩:=zw_und w hk;refine ⟨hw.dn,(by rw [hn];intro e;cases e),M.fresh,M.qlen,λb=>⟨hs,D,stp_quiet w hw.dn b (by rw [h1 b];exact z.eff) (by rw [h1 b];exact z.dn) hl,⟨.inl rfl,by omega,λ_ _ _ _ _=>rfl⟩,?_⟩⟩;have hmade:=enter_made (c:=c) (G:=G) hw.dn hn b;rw [h1 b] at hmade⊢;rcases z.ph with ⟨rfl,h⟩|⟨n,m0,h,_⟩
  ·exact .wai z.w z.dn (by rw [z.eff];rfl) (.inl rfl) hmade rfl
  ·cases h
 ·have⟨i,hi⟩:=List.getElem?_of_mem ((w.lk.inq k).2 ⟨_,hk,rfl⟩);have hw:=w.lk.tk i k q hi hk;have⟨b0,hn⟩:=hw.nx;have⟨q',G',p',Q',h1,z⟩:=zw_wai w hk hN hm;refine ⟨hw.dn,(by rw [hn];intro e;cases e),M.fresh,M.qlen,λb=>⟨hs,D,stp_quiet w hw.dn b (by rw [h1 b];exact z.eff) (by rw [h1 b];exact z.dn) hl,⟨.inl rfl,by omega,λ_ _ _ _ _=>rfl⟩,?_⟩⟩;have hmade:=enter_made (c:=c) (G:=G) hw.dn hn b;rw [h1 b] at hmade⊢;have ef:(false||q'.eff)=false:=by rw [z.eff];rfl
  rcases z.ph with ⟨rfl,h⟩|⟨n,m0,_,rfl,h2,h3,h4⟩
  ·rcases h with ⟨_,h⟩|⟨_,h2,h3⟩
   ·cases h
   ·exact .wai z.w z.dn ef (.inr ⟨rfl,h2,h3⟩) hmade rfl
  ·refine .run (n:=n) (m0:=m0) (by rw [ef];exact z.w) z.dn h2 (.inl ⟨rfl,hw.keys,h3,h4⟩)
 ·have⟨h1,h2,h3,h4,h5⟩:=zr_run w hk hl;refine ⟨h1,h2,h3,h4,λb=>?_⟩;have⟨hs',D',sp,z⟩:=h5 b;refine ⟨hs',D',sp,⟨z.hx,z.ws,λj p hj hp hr=>by rw [z.lone j p hj hp] at hr;cases hr⟩,?_⟩;have⟨la',g1,g2⟩:=z.ex;cases hd:(q.step c G b).1.dn with
  |false=>
   have⟨e1,w'⟩:=g1 hd;exact .run w' hd hm1 (.inr ⟨n,had,m1,rfl,by omega⟩)
  |true=>
   have⟨e1,e2,e3⟩:=g2 hd;cases hv:(q.step c G b).1.vb with
   |some v=>exact .rest (e2 (.inr (by rw [hv];rfl))) hd ⟨n,had,m1,rfl,e1⟩ (.inr (by rw [hv];rfl))
   |none=>
    cases hst:(q.step c G b).1.st with
    |true=>exact .rest (e2 (.inl hst)) hd ⟨n,had,m1,rfl,e1⟩ (.inl hst)
    |false=>
     have⟨Q1,_,w',M'⟩:=e3 hst hv;exact .idle w' M' hd ⟨n,had,m1,rfl,e1⟩ ⟨hst,hv⟩ z.lone
theorem vis_step (hd:q.dn=false)(hv:q.nx.vis)(b:Nat):(q.step c G b).1.eff=(q.step c G b).1.dn/\((q.step c G b).1.dn=false->(q.step c G b).1.nx.vis)/\(q.step c G b).1.keys.length<=q.keys.length+1:=by
 rw [step_nx hd];generalize hq:({q with eff:=false}:Qr)=q0;have e1:q0.eff=false/\q0.dn=false/\q0.keys=q.keys:=by subst hq;exact ⟨rfl,hd,rfl⟩
 have⟨e1,e2,e3⟩:=e1;generalize q.nx=nx at hv;have le0:q0.keys.length<=q.keys.length+1:=by rw [e3];omega
 have e0:=e1.trans e2.symm
 match nx,hv with
 |.enter t .room,_=>
  by_cases hc:(t.step c G.S).1=true
  ·have e:doNx c (.enter t .room) q0 G b=(({q0 with nx:=.enter (t.step c G.S).2.1 .room}:Qr).walk c .room,G.mem (t.step c G.S).2.2):=if_pos hc;rw [e];exact ⟨e0,λ_=>trivial,le0⟩
  ·have e:doNx c (.enter t .room) q0 G b=({q0 with nx:=.enter (t.step c G.S).2.1 .room},G.mem (t.step c G.S).2.2):=if_neg hc;rw [e];exact ⟨e0,λ_=>trivial,le0⟩
 |.load x i (.walkAt .room),_=>
  by_cases hc:(G.S.acc x i true id).1.1=0
  ·have e:doNx c (.load x i (.walkAt .room)) q0 G b=(Qr.stop c {q0 with cur:=IntKind.i64.wrap ((G.S.acc x i true id).1.1).toNat} .room,G.mem (G.S.acc x i true id).2):=congrArg (·,_) (if_pos hc);rw [e];refine ⟨rfl,(λh=>by cases h),?_⟩;show (srt q0.keys).length<=_;rw [(srt_perm _).length_eq];exact le0
  ·have e:doNx c (.load x i (.walkAt .room)) q0 G b=(({q0 with cur:=IntKind.i64.wrap ((G.S.acc x i true id).1.1).toNat}:Qr).load (IntKind.i64.wrap ((G.S.acc x i true id).1.1).toNat) 0 (.walkKey .room),G.mem (G.S.acc x i true id).2):=congrArg (·,_) (if_neg hc);rw [e];exact ⟨e0,λ_=>trivial,le0⟩
 |.load x i (.walkKey .room),_=>
  exact ⟨e0,λ_=>trivial,by show (q0.keys++[_]).length<=_;rw [e3,List.length_append];exact Nat.le_refl _⟩
end
section
variable {H H' H0:Heap} {L M:List Asr} {hs hs':List Int} {D D':Dq} {c:Lc} {q q':Qr} {X X':Gx} {PL:List Asr} {r vb:Nat}
variable {z:Sd} {k n:Nat} {u u':Su} {a a':Kb} {m0:Int} {G:Gr} {kb:Option Nat} {v:Value} {E:Nat} {had:Bool}
variable {ps:List Ph} {Ks:List Kb} {Q Q':List Nat} {sv sv':Wd} {la la':List El} {AB:List Asr} {p p':Ph} {B B':List Asr}
structure Go1 (c:Lc)(k:Nat)(Q Q':List Nat)(D D':Dq)(X X':Gx)(p p':Ph)(a a':Kb):Prop where
 at_:a'.at_=a.at_
 ins:X'.G.ins=X.G.ins
 cnt:X'.G.S.count=X.G.S.count∨X'.G.S.count=wr (X.G.S.count+1)
 made:X'.G.S.made=X.G.S.made∨X'.G.S.made=wr (X.G.S.made+1)
 ws:D'.ws.length<=D.ws.length+1
 pro:phi (Ee c) p' a'<phi (Ee c) p a∨((∃q q',p=.wai q/\p'=.wai q')/\Q'=Q/\Q[0]? ≠some k/\phi (Ee c) p' a'=phi (Ee c) p a/\X'.G.S.made=X.G.S.made/\D'.ws.length=D.ws.length)
 fin:p'≠.out/\∀q,p'≠.und q
def Mid (H0:Heap)(c:Lc)(z:Sd)(ps:List Ph)(Ks:List Kb)(Q:List Nat)(D:Dq)(X:Gx)(k:Nat)(p:Ph)(a:Kb)(H':Heap):Prop:=
 ∃p' a' Q' sv' hs' D' la' X' u' AB',St H0 c z (ps.set k p') (Ks.set k a') Q' sv' hs' D' la' X' u' AB' H'/\Go1 c k Q Q' D D' X X' p p' a a'
theorem phi_und_op (h:q.vb=none):phi E (.und q) a=Tt E+4:=by show (if q.vb.isSome then (E+1)*Tt E+3 else Tt E+3)+1=_;rw [h];rfl
theorem phi_wai_op (h:q.vb=none):phi E (.wai q) a=Tt E+3:=by show (if q.vb.isSome then (E+1)*Tt E+3 else Tt E+3)=_;rw [h];rfl
theorem phi_run_op (h:q.vb=none)(h2:q.st=false):phi E (.run q n had m0) a=n+3:=by show (if q.vb.isSome then n+E*Tt E+2 else if q.st then (a.ks.length - a.i.toNat)*Tt E+1+n else n+3)=_;rw [h,h2];rfl
theorem phi_run_in (h:q.vb=none)(h2:q.st=true):phi E (.run q n had m0) a=(a.ks.length - a.i.toNat)*Tt E+1+n:=by show (if q.vb.isSome then n+E*Tt E+2 else if q.st then (a.ks.length - a.i.toNat)*Tt E+1+n else n+3)=_;rw [h,h2];rfl
theorem phi_und_vi {b:Nat}(h:q.vb=some b):phi E (.und q) a=(E+1)*Tt E+4:=by show (if q.vb.isSome then (E+1)*Tt E+3 else Tt E+3)+1=_;rw [h];rfl
theorem phi_wai_vi {b:Nat}(h:q.vb=some b):phi E (.wai q) a=(E+1)*Tt E+3:=by show (if q.vb.isSome then (E+1)*Tt E+3 else Tt E+3)=_;rw [h];rfl
theorem phi_run_vi {b:Nat}(h:q.vb=some b):phi E (.run q n had m0) a=n+E*Tt E+2:=by show (if q.vb.isSome then n+E*Tt E+2 else if q.st then (a.ks.length - a.i.toNat)*Tt E+1+n else n+3)=_;rw [h];rfl
theorem RB.rk (h:RB c q r B)(hs:Sep H (B++(xA c::grA c.g c.m X::L))):∃PL,Rk H PL r c q X L:=by
 obtain ⟨PL,sa,v,h1,h2,rfl⟩:=h;exact ⟨PL,sa,v,h1,h2,Sep.pick hs 5 [0,1,3,4,2] (by decide)⟩
theorem Rk.rb (h:Rk H PL r c q X L):∃B,RB c q r B/\Sep H (B++(xA c::grA c.g c.m X::L)):=by
 have⟨sa,v,h1,h2,hs⟩:=h.ex;exact ⟨_,⟨PL,sa,v,h1,h2,rfl⟩,Sep.pick hs 5 [0,1,4,2,3] (by decide)⟩
theorem Rk.off (h:Rk H PL r c q X L):Sep H (xA c::grA c.g c.m X::L):=by
 have⟨sa,v,h1,h2,hs⟩:=h.ex;exact Sep.pick hs 5 [2,3] (by decide)
theorem kp_op (kp:Kp {q with eff:=false} q'):q'.st=q.st/\q'.vb=q.vb/\q'.kd=q.kd:=by
 have h:=kp.1;unfold Qr.op at h;simp only [Prod.mk.injEq] at h;exact ⟨h.2.2.2.2.2,h.2.2.2.2.1,h.1⟩
theorem tld_el (C:Cor hs D la)(hp:∃p∈D.L,q.el=elOf hs p.2/\p.2∈u.B):∃e b,e∈la/\e.h∈hs/\q.el=e.h/\1<=b/\b<=hs.length/\elOf hs b=e.h/\b∈u.B:=by
 have⟨p,hp,e1,e2⟩:=hp;have hr:=C.rng p hp;have e3:(elO hs p).h=elOf hs p.2:=by unfold elO elOf;rw [if_neg (by omega)]
 refine ⟨elO hs p,p.2,by rw [C.map];simp only [List.mem_reverse,List.mem_map];exact ⟨p,hp,rfl⟩,by rw [e3];exact elOf_mem hr,by rw [e1,e3],hr.1,hr.2,e3.symm,e2⟩
theorem midOp (s : St H0 c z ps Ks Q sv hs D la X u AB H) (hk : k < z.n) (hp : ps[k]? = some p) (ha : Ks[k]? = some a) (hph : a.ph = 1) (hl : D.ws.length < 1000000) (hm : X.G.S.made < 2305843009213693951)
    {J : List Value → Heap → Prop} (hJ : ∀ H', Mid H0 c z ps Ks Q D X k p a H' → J [.bool true] H') :
    CA en F.crossbarlaw16_side_runs [P z.s, .pointer (some ⟨z.ab, 0 + k * 24, none⟩)] H fun v37 H38 => ∃ b39, ∃ b40, v37 = (.tuple #[(.bool b39), (.bool b40)]) ∧
      bif b39 then (stc H38 z.ab (0 + k * 24 + 1) [(I 6)] fun H41 => ∃ n42, H41.cell z.ab (0 + k * 24 + 3) = some (I n42) ∧
        bif (n42 == 3) then (∃ n43, H41.cell z.ab (0 + k * 24 + 18) = some (I n43) ∧
          bif (n43 == 0) then (stc H41 z.ab (0 + k * 24 + 1) [(I 5)] fun H44 => ∃ n45, H44.cell z.ab (0 + k * 24 + 18 + 3) = some (I n45) ∧
            CA en F.crossbarlaw16_side_told [P z.s, (I n45)] H44 fun v46 H47 => ∃ n48, v46 = (I n48) ∧ stc H47 z.ab (0 + k * 24 + 23) [(I n48)] fun H49 =>
              bif b40 then (∃ n50, H49.cell z.ab (0 + k * 24 + 23) = some (I n50) ∧ J [(.bool (decide (n50 > 0)))] H49) else (J [(.bool false)] H49))
          else (J [(.bool b40)] H41)) else (J [(.bool b40)] H41)) else (J [(.bool b40)] H38) := by
  obtain ⟨p1, a1, B, hp', ha', hA, hI, hO, hko, hs0⟩ := s.focus hk
  rw [hp] at hp'; injection hp' with hp'; subst hp'
  rw [ha] at ha'; injection ha' with ha'; subst ha'
  have h4 := s.len
  -- what is known of it
  have key : ∃ q m1, AOp c q a B ∧ 0 ≤ m1 ∧ ((p = .und q ∧ a.had = false) ∨ (p = .wai q ∧ a.had = false) ∨ ∃ n, p = .run q n a.had m1) ∧ (a.had = true → Tld hs D.L u q) := by
    cases hI with
    | out h => rw [h] at hph; cases hph
    | idle h => rw [h] at hph; cases hph
    | opU h hd => exact ⟨_, 0, h, Int.le_refl _, .inl ⟨rfl, hd⟩, fun e => by rw [hd] at e; cases e⟩
    | opW h hd => exact ⟨_, 0, h, Int.le_refl _, .inr (.inl ⟨rfl, hd⟩), fun e => by rw [hd] at e; cases e⟩
    | @opR q _ _ n had m1 h hd hm ht => exact ⟨q, m1, h, hm, .inr (.inr ⟨n, by rw [hd]⟩), fun e => ht (hd.symm.trans e)⟩
    | viU h => have := h.ph; rw [hph] at this; cases this
    | viW h => have := h.ph; rw [hph] at this; cases this
    | viR h => have := h.ph; rw [hph] at this; cases this
    | rest h => have := h.ph; rw [hph] at this; cases this
    | inR h => have := h.ph; rw [hph] at this; cases this
    | cell h => rw [h] at hph; cases hph
  obtain ⟨q, m1, op, hm1, hpq, htl⟩ := key
  obtain ⟨r, hrun, hrb⟩ := op.run
  obtain ⟨PL, rk⟩ := hrb.rk hs0
  obtain ⟨g1, g2, g3, g4, g5⟩ := nxt_all s.w hp (by omega) hm hl hm1 hpq
  refine runs_s hko rk hrun s.ok (by rw [s.dz]) s.pz hO.va op.op op.rs hl hm1 g4 g3 g2 g1 (Z := fun b hs' D' => Zc c ps k X.G hs hs' D D' ∧ Nxt c ps k Q q (q.step c X.G b).1 (a.had || (q.step c X.G b).1.eff) p X.G (q.step c X.G b).2 hs' D D') g5 fun H' PL' X' a' u' b hs' D' hZ eX e1 e2 op' rs' o' pz' hsub hel sp hu o2 => ⟨_, _, rfl, ?_⟩
  obtain ⟨zc, nx⟩ := hZ
  obtain ⟨gg, no, rv, rkk, el, rfl⟩ := e2
  have hG := step_G (c := c) g1 X.G b
  generalize q.step c X.G b = st at *
  obtain ⟨k1, k2, k3⟩ := kp_op sp.kp
  have hvb : q.vb = none := op.op.vb
  have hvb' : st.1.vb = none := k2.trans hvb
  have hst' : st.1.st = false := k1.trans op.st
  have hO' : ∀ (ph : Int) (em : Int), Own { a with had := a.had || st.1.eff, no := no, ra := gg, rv := rv, rk := rkk, el := el, ph := ph, elem := em } := fun ph em => ⟨hO.va, rs'.na, hO.kb⟩
  have htl' : (a.had || st.1.eff) = true → Tld hs' D'.L u' st.1 := fun e => by
    cases he : st.1.eff with
    | true => exact hel he
    | false =>
      rw [he, Bool.or_false] at e
      obtain ⟨rfl, rfl⟩ := sp.no he
      obtain rfl := hu he
      have hres := res_keep sp.kp he
      unfold Qr.res at hres
      simp only [Prod.mk.injEq] at hres
      intro h1 h2
      obtain ⟨p0, h3, h4, h5⟩ := htl e (k3.symm.trans h1) (hres.1.symm.trans h2)
      exact ⟨p0, h3, hres.2.2.2.trans h4, h5⟩
  have hins : X'.G.ins = X.G.ins := by rw [eX]; exact hG.1
  have hcnt : X'.G.S.count = X.G.S.count ∨ X'.G.S.count = wr (X.G.S.count + 1) := by rw [eX]; exact hG.2.2.2
  have hmade : X'.G.S.made = X.G.S.made ∨ X'.G.S.made = wr (X.G.S.made + 1) := by rw [eX]; exact hG.2.2.1
  -- it goes on
  have goOn : ∀ {p2 : Ph} {Q2 sv2 la2}, st.1.dn = false → Wo c (ps.set k p2) Q2 sv2 hs' D' la2 X'.G → (∀ {B2}, AOp c st.1 { a with had := a.had || st.1.eff, no := no, ra := gg, rv := rv, rk := rkk, el := el } B2 → AgI c hs' D'.L u' p2 { a with had := a.had || st.1.eff, no := no, ra := gg, rv := rv, rk := rkk, el := el } B2) →
      (phi (Ee c) p2 a < phi (Ee c) p a ∨ ((∃ q q', p = .wai q ∧ p2 = .wai q') ∧ Q2 = Q ∧ Q[0]? ≠ some k ∧ phi (Ee c) p2 a = phi (Ee c) p a ∧ X'.G.S.made = X.G.S.made ∧ D'.ws.length = D.ws.length)) → (p2 ≠ .out ∧ ∀ q, p2 ≠ .und q) → (∀ b1 b2 b3 b4 b5 b6, phi (Ee c) p2 { a with had := b1, no := b2, ra := b3, rv := b4, rk := b5, el := b6 } = phi (Ee c) p2 a) →
      J [.bool true] H' := fun {p2 Q2 sv2 la2} hd w2 hI2 hpro hfin hphi => by
    obtain ⟨B2, hrb2, hs2⟩ := o2.rb
    refine hJ H' ⟨p2, _, Q2, sv2, hs', D', la2, X', u', _, s.go hk hp ha w2 o' pz' zc.hx hsub (fun j p hj hp hr => zc.oth j p hj hp hr) (hI2 ⟨hph, ⟨r, hrun, hrb2⟩, op', rs', hst', op.dk, op.i⟩) (hO' a.ph a.elem) hs2, ⟨rfl, hins, hcnt, hmade, zc.ws, ?_, hfin⟩⟩
    rw [hphi]; exact hpro
  refine cond_of (fun hd => ?_) fun hd => ?_
  · -- it is over
    obtain ⟨hwI, M2, hlone⟩ : ∃ Q2 sv2 la2, Wo c (ps.set k .idle) Q2 sv2 hs' D' la2 X'.G ∧ Mem c (cxT sv2) X'.G la2 [] (lenW la2) ∧ (∀ (j : Nat) (p' : Ph), j ≠ k → ps[j]? = some p' → p'.isRun = false) := by
      cases nx with
      | wai w dn => rw [dn] at hd; cases hd
      | run w dn => rw [dn] at hd; cases hd
      | rest w dn h hv => rcases hv with hv | hv
                          · rw [hst'] at hv; cases hv
                          · rw [hvb'] at hv; cases hv
      | idle w M dn h hv lone => rw [← eX] at w M; exact ⟨_, _, _, w, M, lone⟩
    obtain ⟨la2, w2, M2, hlone⟩ := hlone
    have hrun0 : ∃ n0 had m0, p = .run q n0 had m0 ∧ 0 < n0 := by
      cases nx with
      | wai w dn => rw [dn] at hd; cases hd
      | run w dn => rw [dn] at hd; cases hd
      | rest w dn h hv => exact h
      | idle w M dn h hv lone => exact h
    obtain ⟨n0, had0, m2, hp0, hn0⟩ := hrun0
    have hphi0 : phi (Ee c) p a = n0 + 3 := by rw [hp0]; exact phi_run_op hvb op.st
    have h2 := o2.off
    refine ast hko h2 (j := 2) rfl { a with had := a.had || st.1.eff, no := no, ra := gg, rv := rv, rk := rkk, el := el, ph := 6 } (Nat.le_of_ble_eq_true rfl) rfl fun H41 h41 => ⟨_, ald hko h41 (j := 2) rfl rfl, ?_⟩
    have over : J [.bool true] H41 := by
      refine hJ H41 ⟨.idle, _, _, _, hs', D', _, X', u', _, s.go hk hp ha (B' := []) w2 o' pz' zc.hx hsub (fun j p hj hp hr => zc.oth j p hj hp hr) (.idle rfl) (hO' 6 a.elem) h41, ⟨rfl, hins, hcnt, hmade, zc.ws, .inl ?_, (fun e => by cases e), fun q e => by cases e⟩⟩
      rw [hphi0]
      show 0 < _
      omega
    refine cond_of (fun w3 => ⟨_, ald hko h41 (j := 2) rfl rfl, cond_of (fun w4 => ?_) fun _ => over⟩) fun _ => over
    have w3 : a.dk = 3 := by simpa using w3
    have w4 : no = 0 := by simpa using w4
    have hhad : (a.had || st.1.eff) = true := sp.dn hd
    obtain ⟨r1, r2, r3, r4, r5⟩ := rs'.same hhad
    have r1 : no = st.1.no := r1
    have r4 : el = st.1.el := r4
    have hkd1 : st.1.kd = 1 := by rw [← op'.kd]; exact op.dk w3
    obtain ⟨e, b0, he1, he2, he3, he4, he5, he6, he7⟩ := tld_el w2.ls.cor (htl' hhad hkd1 (r1.symm.trans w4))
    refine ast hko h41 (j := 2) rfl { a with had := a.had || st.1.eff, no := no, ra := gg, rv := rv, rk := rkk, el := el, ph := 5 } (Nat.le_of_ble_eq_true rfl) rfl fun H44 h44 => ⟨_, ald hko h44 (j := 2) (o := 18 + 3) rfl rfl, ?_⟩
    -- x g a s va ra kb y l w A B
    have h45 := Sep.pick h44 12 [3, 10, 11, 0, 1, 2, 4, 5, 6, 7, 8, 9] (by decide)
    show CA en F.crossbarlaw16_side_told [P z.s, I el] H44 _
    rw [show el = elOf hs' b0 from r4.trans (he3.trans he6.symm)]
    refine told_s pz' he7 h45 ⟨_, rfl, ?_⟩
    refine ast hko h44 (j := 2) rfl { a with had := a.had || st.1.eff, no := no, ra := gg, rv := rv, rk := rkk, el := el, ph := 5, elem := (b0 : Int) } (Nat.le_of_ble_eq_true rfl) rfl fun H49 h49 => cond_yes rfl ⟨_, ald hko h49 (j := 2) rfl rfl, ?_⟩
    have hw3 := w2.tell M2 (fun j p' hj => ?_) (k := k) (by rw [lget_set (lt_of_get hp), if_pos rfl]) he1 he2
    · rw [List.set_set] at hw3
      have hgt : (decide ((b0 : Int) > 0) : Bool) = true := by simp; omega
      rw [hgt]
      refine hJ H49 ⟨.cell e.h, _, _, _, hs', D', _, X', u', _, s.go hk hp ha (B' := []) hw3 o' pz' zc.hx hsub (fun j p hj hp hr => zc.oth j p hj hp hr) (.cell rfl (r4.trans he3) rfl ⟨he4, he5⟩ he6 (.inl ?_)) (hO' 5 b0) h49, ⟨rfl, hins, hcnt, hmade, zc.ws, .inl ?_, (fun e => by cases e), fun q e => by cases e⟩⟩
      · exact op.i
      · rw [hphi0]
        show (if a.i = 0 then 2 else 1) < _
        split <;> omega
    · rw [lget_set (lt_of_get hp)] at hj
      split at hj
      · injection hj with hj; subst hj; rfl
      · exact hlone j p' ‹_› hj
  · cases nx with
    | wai w dn hd2 hv hmd hD2 =>
      rw [← eX] at w hmd
      subst hD2
      refine goOn dn w (fun h => .opW h hd2) ?_ ⟨fun e => (by cases e), fun q e => (by cases e)⟩ (fun _ _ _ _ _ _ => rfl)
      rcases hv with rfl | ⟨rfl, rfl, hq⟩
      · left; rw [phi_und_op hvb, phi_wai_op hvb']; omega
      · right; exact ⟨⟨_, _, rfl, rfl⟩, rfl, hq, by rw [phi_wai_op hvb, phi_wai_op hvb'], hmd, rfl⟩
    | @run _ _ _ n m0 w dn hm0 h =>
      rw [← eX] at w
      refine goOn dn w (fun h => .opR h rfl hm0 htl') (.inl ?_) ⟨fun e => (by cases e), fun q e => (by cases e)⟩ (fun _ _ _ _ _ _ => rfl)
      rw [phi_run_op hvb' hst']
      rcases h with ⟨rfl, _, h1, _⟩ | ⟨n0, had0, m2, rfl, hn⟩
      · rw [phi_wai_op hvb]; show n + 3 < 2 * Ee c + 11 + 3; omega
      · rw [phi_run_op hvb op.st]; omega
    | rest w dn => rw [dn] at hd; cases hd
    | idle w M dn => rw [dn] at hd; cases hd
end
section
variable {H H' H0:Heap} {L M:List Asr} {hs hs':List Int} {D D':Dq} {c:Lc} {q:Qr} {X X':Gx} {PL:List Asr} {r vb:Nat}
variable {z:Sd} {k n:Nat} {u:Su} {a a':Kb} {m0:Int} {G:Gr} {kb:Option Nat} {v:Value} {had:Bool}
variable {ps:List Ph} {Ks:List Kb} {Q:List Nat} {sv:Wd} {la:List El} {AB:List Asr} {p:Ph} {B B':List Asr}
theorem VB.vk (h:VB c q r vb B)(hs:Sep H (B++(xA c::grA c.g c.m X::L))):∃PL,Vk H PL r vb c q X L:=by
 obtain ⟨PL,kb,nv,h1,h2,h3,rfl⟩:=h;exact ⟨PL,kb,nv,h1,h2,h3,Sep.pick hs 7 [0,1,5,6,2,3,4] (by decide)⟩
theorem Vk.bod (h:Vk H PL r vb c q X L):∃B,VB c q r vb B/\Sep H (B++(xA c::grA c.g c.m X::L)):=by
 have⟨kb,nv,h1,h2,h3,hs⟩:=h.ex;exact ⟨_,⟨PL,kb,nv,h1,h2,h3,rfl⟩,Sep.pick hs 7 [0,1,4,5,6,2,3] (by decide)⟩
theorem midVis (s:St H0 c z ps Ks Q sv hs D la X u AB H)(hk:k<z.n)(hp:ps[k]? =some p)(ha:Ks[k]? =some a)(hph:a.ph=2)(hl:D.ws.length<1000000)(hm:X.G.S.made<2305843009213693951)
  {J:List Value->Heap->Prop}(hJ:∀H',Mid H0 c z ps Ks Q D X k p a H'->J [.bool true] H') :
  CA en F.crossbarlaw16_side_enters [P z.s,.pointer (some ⟨z.ab,0+k*24,none⟩)] H λv H'=>∃b,v=.bool b/\J [.bool b] H':=by
 have⟨p1,a1,B,hp',ha',hA,hI,hO,hko,hs0⟩:=s.focus hk;rw [hp] at hp';injection hp' with hp';subst hp'
 rw [ha] at ha';injection ha' with ha';subst ha'
 have h4:=s.len;have key:∃q m1,AVs c q a B/\0<=m1/\((p=.und q/\a.had=false)∨(p=.wai q/\a.had=false)∨∃n,p=.run q n a.had m1)/\(∀n had m1,p=.run q n had m1->q.keys.length+n<=900):=by
  cases hI with
  |out h=>rw [h] at hph;cases hph
  |idle h=>rw [h] at hph;cases hph
  |opU h hd=>have:=h.ph;rw [hph] at this;cases this
  |opW h hd=>have:=h.ph;rw [hph] at this;cases this
  |opR h hd hm ht=>have:=h.ph;rw [hph] at this;cases this
  |viU h=>exact ⟨_,0,h,Int.le_refl _,.inl ⟨rfl,h.had⟩,λ_ _ _ e=>by cases e⟩
  |viW h=>exact ⟨_,0,h,Int.le_refl _,.inr (.inl ⟨rfl,h.had⟩),λ_ _ _ e=>by cases e⟩
  |@viR q _ _ n m1 h hm hn=>exact ⟨q,m1,h,hm,.inr (.inr ⟨n,by rw [h.had]⟩),λ_ _ _ e=>by injection e with e1 e2;subst e2;exact hn⟩
  |rest h=>have:=h.ph;rw [hph] at this;cases this
  |inR h=>have:=h.ph;rw [hph] at this;cases this
  |cell h=>rw [h] at hph;cases hph
 have⟨q,m1,vs,hm1,hpq,hkn⟩:=key;have⟨r,vb,hvis,hqvb,hvB⟩:=vs.vis;have⟨PL,vk⟩:=hvB.vk hs0;have⟨g1,g2,g3,g4,g5⟩:=nxt_all s.w hp (by omega) hm hl hm1 hpq;have⟨hs',D',sp,zc,nx⟩:=g5 0;have⟨v1,v2,v3⟩:=vis_step (c:=c) (G:=X.G) g1 vs.nx 0;have hG:=step_G (c:=c) g1 X.G 0;have⟨k1,k2,k3⟩:=kp_op sp.kp;have hvb':(q.step c X.G 0).1.vb=some vb:=k2.trans hqvb;have hkl:q.keys.length<=900/\(p=.wai q->q.keys.length=0):=by
  rcases hpq with ⟨rfl,_⟩|⟨rfl,_⟩|⟨n,rfl⟩
  ·have:=(s.w.lk.un k q hp).keys;rw [this];exact ⟨Nat.zero_le _,λ_=>rfl⟩
  ·have⟨i,hi⟩:=List.getElem?_of_mem ((s.w.lk.inq k).2 ⟨_,hp,rfl⟩)
   have:=(s.w.lk.tk i k q hi hp).keys;rw [this];exact ⟨Nat.zero_le _,λ_=>rfl⟩
  ·exact ⟨by have:=hkn _ _ _ rfl;omega,λe=>by cases e⟩
 have hdid:(q.step c X.G 0).1.dn=true->D'=D/\hs'=hs/\(q.step c X.G 0).1.keys=D.keys:=λhd=>by
  have:=(sp.yes (v1.trans hd)).2
  unfold Did at this;rw [if_pos (by rw [hvb'];rfl)] at this;exact ⟨this.1,this.2.1,this.2.2.2⟩
 have hnd:(q.step c X.G 0).1.dn=false->hs'=hs/\D'=D:=λhd=>sp.no (v1.trans hd)
 refine enters_s hko vk hvis vs.had s.ok (by omega) vs.nx g1 v1 (λhd=>(hdid hd).2.2) (λH' PL' X' hd eX o2=>⟨_,rfl,?_⟩) λH' X' kb v g hd eX hkb hg h2=>⟨_,rfl,?_⟩
 ·obtain ⟨rfl,rfl⟩:=hnd hd;have hins:X'.G.ins=X.G.ins:=by rw [eX];exact hG.1
  have hcnt:X'.G.S.count=X.G.S.count∨X'.G.S.count=wr (X.G.S.count+1):=by rw [eX];exact hG.2.2.2
  have hmade:X'.G.S.made=X.G.S.made∨X'.G.S.made=wr (X.G.S.made+1):=by rw [eX];exact hG.2.2.1
  have heff:(a.had||(q.step c X.G 0).1.eff)=false:=by rw [vs.had,v1,hd];rfl
  generalize q.step c X.G 0=st at *;have⟨B2,hvB2,hs2⟩:=o2.bod;have hav:AVs c st.1 a B2:=⟨hph,vs.run,vs.had,vs.i,vs.dk,⟨r,vb,hvis,hvb',hvB2⟩,v2 hd⟩;cases nx with
  |wai w dn hd2 hv hmd hD2=>
   rw [<-eX] at w hmd;refine hJ H' ⟨.wai st.1,a,_,_,hs',D',_,X',u,_,s.go hk hp ha w s.ok s.pz (.inl rfl) (λ_ h=>h) (λ_ _ _ _ _=>rfl) (.viW hav) hO hs2,⟨rfl,hins,hcnt,hmade,Nat.le_succ _,?_,(λe=>by cases e),λq e=>by cases e⟩⟩;rcases hv with rfl|⟨rfl,rfl,hq⟩
   ·left;rw [phi_und_vi hqvb,phi_wai_vi hvb'];omega
   ·right;exact ⟨⟨_,_,rfl,rfl⟩,rfl,hq,by rw [phi_wai_vi hqvb,phi_wai_vi hvb'],hmd,rfl⟩
  |@run _ _ _ n m0 w dn hm0 h=>
   rw [<-eX,heff] at w;have hn9:st.1.keys.length+n<=900:=by
    rcases h with ⟨e,_,_,h2⟩|⟨n0,had0,m2,e,h2⟩
    ·have:=hkl.2 e;omega
    ·have:=hkn _ _ _ e;omega
   refine hJ H' ⟨.run st.1 n false m0,a,_,_,hs',D',_,X',u,_,s.go hk hp ha w s.ok s.pz (.inl rfl) (λ_ h=>h) (λ_ _ _ _ _=>rfl) (.viR hav hm0 hn9) hO hs2,⟨rfl,hins,hcnt,hmade,Nat.le_succ _,.inl ?_,(λe=>by cases e),λq e=>by cases e⟩⟩;rw [phi_run_vi hvb'];rcases h with ⟨rfl,_,h1,_⟩|⟨n0,had0,m2,rfl,hn⟩
   ·rw [phi_wai_vi hqvb,Nat.succ_mul];show n+Ee c*Tt (Ee c)+2<Ee c*Tt (Ee c)+(2*Ee c+11)+3;omega
   ·rw [phi_run_vi hqvb];omega
  |rest w dn=>rw [dn] at hd;cases hd
  |idle w M dn=>rw [dn] at hd;cases hd
 ·obtain ⟨rfl,rfl,hkeys⟩:=hdid hd;have hins:X'.G.ins=X.G.ins:=by rw [eX];exact hG.1
  have hcnt:X'.G.S.count=X.G.S.count∨X'.G.S.count=wr (X.G.S.count+1):=by rw [eX];exact hG.2.2.2
  have hmade:X'.G.S.made=X.G.S.made∨X'.G.S.made=wr (X.G.S.made+1):=by rw [eX];exact hG.2.2.1
  generalize q.step c X.G 0=st at *;have hlen:(st.1.keys.length:Int)<=c.d1:=by rw [hkeys,keys_len];exact s.ok.le
  have hlen2:st.1.keys.length<=Ee c:=by unfold Ee;omega
  cases nx with
  |wai w dn=>rw [dn] at hd;cases hd
  |run w dn=>rw [dn] at hd;cases hd
  |idle w M dn h hv=>rw [hvb'] at hv;cases hv.2
  |rest w dn h hv=>
   rw [<-eX] at w;obtain ⟨n0,had0,m2,rfl,hn0⟩:=h;refine hJ H' ⟨.rest,_,_,_,hs',D',_,X',u,_,s.go hk hp ha (a':={a with had:=true,kb:=g,ks:=st.1.keys,ph:=3}) (B':=[many (vsL r vb c kb st.1 v)]) w s.ok s.pz (.inl rfl) (λ_ h=>h) (λ_ _ _ _ _=>rfl) (.rest ⟨rfl,vs.dk,⟨0,vs.i,Nat.zero_le _⟩,hlen,⟨r,vb,kb,st.1,v,hvis,rfl,hkb,rfl⟩⟩ vs.run) ⟨hO.va,hO.ra,hg⟩ h2,⟨rfl,hins,hcnt,hmade,Nat.le_succ _,.inl ?_,(λe=>by cases e),λq e=>by cases e⟩⟩;rw [phi_run_vi hqvb];show (st.1.keys.length - a.i.toNat)*Tt (Ee c)+1<_
   have:=Nat.mul_le_mul_right (Tt (Ee c)) (Nat.le_trans (Nat.sub_le st.1.keys.length a.i.toNat) hlen2)
   omega
theorem midCell (s:St H0 c z ps Ks Q sv hs D la X u AB H)(hk:k<z.n)(hp:ps[k]? =some p)(ha:Ks[k]? =some a)(hph:a.ph=5)(hl:D.ws.length<1000000)
  {J:List Value->Heap->Prop}(hJ:∀H',Mid H0 c z ps Ks Q D X k p a H'->J [.bool true] H') :
  CA en F.crossbarlaw16_side_cell [P z.s,.pointer (some ⟨z.ab,0+k*24,none⟩)] H λv H'=>∃b,v=.bool b/\J [.bool b] H':=by
 have⟨p1,a1,B,hp',ha',hA,hI,hO,hko,hs0⟩:=s.focus hk;rw [hp] at hp';injection hp' with hp';subst hp'
 rw [ha] at ha';injection ha' with ha';subst ha'
 have hcl:=s.w.ls.cor.len;cases hI with
 |out h=>rw [h] at hph;cases hph
 |idle h=>rw [h] at hph;cases hph
 |opU h hd=>have:=h.ph;rw [hph] at this;cases this
 |opW h hd=>have:=h.ph;rw [hph] at this;cases this
 |opR h hd hm ht=>have:=h.ph;rw [hph] at this;cases this
 |viU h=>have:=h.ph;rw [hph] at this;cases this
 |viW h=>have:=h.ph;rw [hph] at this;cases this
 |viR h hm hn=>have:=h.ph;rw [hph] at this;cases this
 |rest h=>have:=h.ph;rw [hph] at this;cases this
 |inR h=>have:=h.ph;rw [hph] at this;cases this
 |@cell _ h b _ he hb hr hh hi=>
  subst he;have hb1:hs[b - 1]? =some a.el:=by rw [elOf_get hr,hh]
  have hel:1<=a.el:=s.pz.pos _ (List.mem_of_getElem? hb1);rcases hi with hi|hi
  ·have⟨e1,w2⟩:=s.w.store hp hb1 a.dn;refine cell0_s hko hs0 hi hel hb ⟨hr.1,by omega⟩ s.ok λH' h2=>⟨_,rfl,?_⟩
   rw [e1];have ok2:Ok16 c.d1 u.lb u.wb ⟨D.L,D.ws.set (b - 1) a.dn⟩:=⟨s.ok.n1,(λe=>by show D.ws.set (b - 1) a.dn=[];rw [s.ok.n2 e];rfl),s.ok.le,s.ok.e1,s.ok.e2,(by show (D.ws.set (b - 1) a.dn).length<=_;rw [List.length_set];exact s.ok.lv),(λx hx=>by show _/\_<=(D.ws.set (b - 1) a.dn).length;rw [List.length_set];exact s.ok.el x hx),s.ok.nd⟩;refine hJ H' ⟨.cell a.el,_,_,_,hs,_,_,(X.to (X.G.S.acc a.el 1 true λ_=>a.dn).2),u,_,s.go hk hp ha (a':={a with i:=1}) (B':=[]) w2 ok2 s.pz (.inl rfl) (λ_ h=>h) (λ_ _ _ _ _=>rfl) (.cell hph rfl hb hr hh (.inr rfl)) ⟨hO.va,hO.ra,hO.kb⟩ h2,⟨rfl,rfl,.inr acc_count,.inl (acc_made ..),by show (D.ws.set (b - 1) a.dn).length<=_;rw [List.length_set];exact Nat.le_succ _,.inl ?_,(λe=>by cases e),λq e=>by cases e⟩⟩;show (if (1:Int)=0 then 2 else 1)<(if a.i=0 then 2 else 1);rw [if_neg (by decide),if_pos hi];decide
  ·have⟨w0,hw0⟩:∃w,D.ws[b - 1]? =some w:=⟨_,List.getElem?_eq_getElem (by omega)⟩;have⟨e1,w2⟩:=s.w.load hp hb1 hw0;refine cell1_s hko hs0 hi hel hb ⟨hr.1,by omega⟩ s.ok hw0 e1 λH' h2=>⟨_,rfl,?_⟩
   refine hJ H' ⟨.idle,_,_,_,hs,D,_,(X.to (X.G.S.acc a.el 1 true id).2),u,_,s.go hk hp ha (a':={a with ph:=6}) (B':=[]) w2 s.ok s.pz (.inl rfl) (λ_ h=>h) (λ_ _ _ _ _=>rfl) (.idle rfl) ⟨hO.va,hO.ra,hO.kb⟩ h2,⟨rfl,rfl,.inr acc_count,.inl (acc_made ..),Nat.le_succ _,.inl ?_,(λe=>by cases e),λq e=>by cases e⟩⟩;show 0<(if a.i=0 then 2 else 1);split<;>decide
end
section
variable {H H' H0:Heap} {L M:List Asr} {hs hs':List Int} {D D':Dq} {c:Lc} {q q':Qr} {X X':Gx} {PL:List Asr} {r vb:Nat}
variable {z:Sd} {k n:Nat} {u u':Su} {a a':Kb} {m0:Int} {G:Gr} {kb:Option Nat} {v:Value} {had:Bool}
variable {ps:List Ph} {Ks:List Kb} {Q:List Nat} {sv:Wd} {la:List El} {AB:List Asr} {p:Ph} {B B':List Asr}
theorem st_step (sp:Stp c had m0 G q q' hs hs' D D')(h:q.st=true)(hv:q.vb=none):q'.st=true/\q'.vb=none:=by
 have⟨k1,k2,k3⟩:=kp_op sp.kp;exact ⟨k1.trans h,k2.trans hv⟩
set_option maxHeartbeats 1000000 in
theorem midIn (s:St H0 c z ps Ks Q sv hs D la X u AB H)(hk:k<z.n)(hp:ps[k]? =some p)(ha:Ks[k]? =some a)(hph:a.ph=3)(hl:D.ws.length<1000000)(hm:X.G.S.made<2305843009213693951)
  {J:List Value->Heap->Prop}(hJ:∀H',Mid H0 c z ps Ks Q D X k p a H'->J [.bool true] H') :
  CA en F.crossbarlaw16_side_visits [P z.s,.pointer (some ⟨z.ab,0+k*24,none⟩)] H λv H'=>∃b,v=.bool b/\J [.bool b] H':=by
 have⟨p1,a1,B,hp',ha',hA,hI,hO,hko,hs0⟩:=s.focus hk;rw [hp] at hp';injection hp' with hp';subst hp'
 rw [ha] at ha';injection ha' with ha';subst ha'
 have h4:=s.len;have⟨l0,x0,cnt0,M0⟩:=s.w.memo;have hmade0:=s.w.made;cases hI with
 |out h=>rw [h] at hph;cases hph
 |idle h=>rw [h] at hph;cases hph
 |opU h hd=>have:=h.ph;rw [hph] at this;cases this
 |opW h hd=>have:=h.ph;rw [hph] at this;cases this
 |opR h hd hm ht=>have:=h.ph;rw [hph] at this;cases this
 |viU h=>have:=h.ph;rw [hph] at this;cases this
 |viW h=>have:=h.ph;rw [hph] at this;cases this
 |viR h hm hn=>have:=h.ph;rw [hph] at this;cases this
 |cell h=>rw [h] at hph;cases hph
 |@rest _ B0 hin hrn=>
  have⟨j,hj,hjl⟩:=hin.i;obtain ⟨r,vb,kb,q,v,hvis,hks,hkb,rfl⟩:=hin.vis;have hlen:=hin.len;have hd1:=s.w.ls.d1;have hs1:Sep H (many (vsL r vb c kb q v)::xA c::grA c.g c.m X::SL c z (Ks.map Kb.cells) k u hs D a (Mk H0 AB k)):=hs0;by_cases he:j=a.ks.length
  ·
   have⟨Q1,G',h1,h2,w2⟩:=s.w.drop (q:={Qr.zero none with nx:=.drop}) hp rfl rfl;refine vend_s hko hs1 hvis hkb hrn (by rw [hj,he]) M0.qlen M0.fresh h1 rfl rfl λH' X' pp eX h3=>⟨_,rfl,?_⟩
   have hG:=step_G (c:=c) (q:={Qr.zero none with nx:=.drop}) rfl X.G 0;rw [h1 0,<-eX] at hG;rw [<-eX] at w2;refine hJ H' ⟨.idle,_,_,_,hs,D,_,X',u,_,s.go hk hp ha (a':={a with ph:=6,run:=pp}) (B':=[]) w2 s.ok s.pz (.inl rfl) (λ_ h=>h) (λ_ _ _ _ _=>rfl) (.idle rfl) ⟨hO.va,hO.ra,hO.kb⟩ h3,⟨rfl,hG.1,hG.2.2.2,hG.2.2.1,Nat.le_succ _,.inl ?_,(λe=>by cases e),λq e=>by cases e⟩⟩;show 0<(a.ks.length - a.i.toNat)*Tt (Ee c)+1;omega
  ·have⟨w0,hw⟩:∃w,a.ks[j]? =some w:=⟨_,List.getElem?_eq_getElem (by omega)⟩;have bg:∀kd,kd=1∨kd=5->Wo c (ps.set k (.run (vq c kd w0) (2*la.length+10) false X.G.S.made)) Q sv hs D la X.G:=λkd hkd=>s.w.begin hm hp rfl rfl rfl
   have hkl:=lt_of_get hp;have na:=λ(kd:Int)(hkd:kd=1∨kd=5)=>nxt_all (bg kd hkd) (k:=k) (p:=.run (vq c kd w0) (2*la.length+10) false X.G.S.made) (q:=vq c kd w0) (had:=false) (m1:=X.G.S.made) (by rw [lget_set hkl,if_pos rfl]) (by rw [List.length_set];omega) hm hl hmade0.1 (.inr (.inr ⟨_,rfl⟩))
   have hop:∀kd,(vq c kd w0).op=(kd,w0,0,0,none,true):=λkd=>(Kp.begin (c:=c) {Qr.zero none with kd:=kd,ky:=w0,st:=true}).1
   refine vnext_s hko hs1 hvis hkb hks hrn hin.dk hO.kb hO.ra hj hw (by omega) s.ok (by rw [s.dz]) s.pz hl hmade0.1 M0.qlen M0.fresh (λkd hkd=>⟨(na kd hkd).2.1,(na kd hkd).1,hop kd⟩)
    (Z:=λkd b hs' D'=>Zc c (ps.set k (.run (vq c kd w0) (2*la.length+10) false X.G.S.made)) k X.G hs hs' D D'/\Nxt c (ps.set k (.run (vq c kd w0) (2*la.length+10) false X.G.S.made)) k Q (vq c kd w0) ((vq c kd w0).step c X.G b).1 (false||((vq c kd w0).step c X.G b).1.eff) (.run (vq c kd w0) (2*la.length+10) false X.G.S.made) X.G ((vq c kd w0).step c X.G b).2 hs' D D')
    (λkd hkd=>(na kd hkd).2.2.2.2) λkd hkd r2 a1 ea H' X' a' u' b hs' D' hZ eX e1 e2 op' rs' o' pz' hsub hel sp hu o2=>⟨_,rfl,?_⟩
   have⟨zc,nx⟩:=hZ;have hG:=step_G (c:=c) (na kd hkd).1 X.G b;obtain ⟨gg,no,rv,rkk,el,rfl⟩:=e2;subst ea;have hopk:=hop kd;unfold Qr.op at hopk;simp only [Prod.mk.injEq] at hopk;have⟨st1,st2⟩:=st_step sp hopk.2.2.2.2.2 hopk.2.2.2.2.1;generalize (vq c kd w0).step c X.G b=st at *;have hins:X'.G.ins=X.G.ins:=by rw [eX];exact hG.1
   have hcnt:X'.G.S.count=X.G.S.count∨X'.G.S.count=wr (X.G.S.count+1):=by rw [eX];exact hG.2.2.2
   have hmade:X'.G.S.made=X.G.S.made∨X'.G.S.made=wr (X.G.S.made+1):=by rw [eX];exact hG.2.2.1
   have hoth:∀(j':Nat)(p:Ph),j'≠k->ps[j']? =some p->p.isRun=true->D'.L=D.L:=λj' p hj' hp' hr=>zc.oth j' p hj' (by rw [lget_set hkl,if_neg hj'];exact hp') hr
   have ephi:(a.ks.length - a.i.toNat)*Tt (Ee c)=(a.ks.length - (j+1))*Tt (Ee c)+Tt (Ee c):=by
    rw [hj,Int.toNat_natCast,<-Nat.succ_mul]
    congr 1;omega
   have hlaE:=s.w.e;have hin2:∀{a2:Kb} {BB},a2.ph=3->a2.dk=a.dk->a2.i=(j:Int)+1->a2.ks=a.ks->a2.vis=a.vis->BB=vsL r vb c kb q v->AIn c a2 BB:=λx1 x2 x3 x4 x5 x6=>⟨x1,by rw [x2];exact hin.dk,⟨j+1,by rw [x3];omega,by rw [x4];omega⟩,by rw [x4];exact hlen,⟨r,vb,kb,q,v,by rw [x5];exact hvis,by rw [x4];exact hks,hkb,x6⟩⟩
   have et:((j:Int)+1).toNat=j+1:=by omega
   rcases o2 with ⟨hd,PL',rk⟩|⟨hd,h5⟩
   ·have⟨B2,hB2,hs2⟩:=rk.rb;cases nx with
    |wai w dn hd2 hv=>rcases hv with hv|⟨hv,_⟩<;>cases hv
    |@run _ _ _ n m0 w dn hm0 h=>
     rw [List.set_set,<-eX] at w;rcases h with ⟨h,_⟩|⟨n0,had0,m2,h,hn⟩
     ·cases h
     injection h with h1 h2 h3 h4
     subst h2;have hs3:Sep H' ((many (vsL r vb c kb q v)::B2)++(xA c::grA c.g c.m X'::SL c z (Ks.map Kb.cells) k u' hs' D' {a with had:=false||st.1.eff,kd:=kd,ky:=w0,va:=none,vl:=[],fl:=0,cp:=0,run:=some ⟨r2,0,none⟩,i:=(j:Int)+1,no:=no,ra:=gg,rv:=rv,rk:=rkk,el:=el} (Mk H0 AB k))):=by
      have x1:=Sep.many_iff.2 hs2;have x2:=Sep.pick x1 14 [0,13,1,2,3,4,5,6,7,8,9,10,11,12] (by decide);have x3:=Sep.many_iff.1 x2;exact x3.perm List.perm_middle
     refine hJ H' ⟨.run st.1 n (false||st.1.eff) m0,_,_,_,hs',D',_,X',u',_,s.go hk hp ha (a':={a with had:=false||st.1.eff,kd:=kd,ky:=w0,va:=none,vl:=[],fl:=0,cp:=0,run:=some ⟨r2,0,none⟩,i:=(j:Int)+1,no:=no,ra:=gg,rv:=rv,rk:=rkk,el:=el}) w o' pz' zc.hx hsub hoth (.inR (hin2 hph rfl rfl rfl rfl rfl) rfl hB2 op' rs' st1 rfl hm0) ⟨λ_=>rfl,rs'.na,hO.kb⟩ hs3,⟨rfl,hins,hcnt,hmade,zc.ws,.inl ?_,(λe=>by cases e),λq e=>by cases e⟩⟩;rw [phi_run_in st2 st1];show (a.ks.length - ((j:Int)+1).toNat)*Tt (Ee c)+1+n<(a.ks.length - a.i.toNat)*Tt (Ee c)+1;rw [ephi,et]
     have:Tt (Ee c)=2*Ee c+11:=rfl
     omega
    |rest w dn=>rw [dn] at hd;cases hd
    |idle w M dn=>rw [dn] at hd;cases hd
   ·cases nx with
    |wai w dn=>rw [dn] at hd;cases hd
    |run w dn=>rw [dn] at hd;cases hd
    |idle w M dn h hv=>rw [st1] at hv;cases hv.1
    |rest w dn h hv=>
     rw [List.set_set,<-eX] at w;refine hJ H' ⟨.rest,_,_,_,hs',D',_,X',u',_,s.go hk hp ha (a':={a with had:=false||st.1.eff,kd:=kd,ky:=w0,va:=none,vl:=[],fl:=0,cp:=0,run:=none,i:=(j:Int)+1,no:=no,ra:=gg,rv:=rv,rk:=rkk,el:=el}) (B':=[many (vsL r vb c kb q v)]) w o' pz' zc.hx hsub hoth (.rest (hin2 hph rfl rfl rfl rfl rfl) rfl) ⟨λ_=>rfl,rs'.na,hO.kb⟩ h5,⟨rfl,hins,hcnt,hmade,zc.ws,.inl ?_,(λe=>by cases e),λq e=>by cases e⟩⟩;show (a.ks.length - ((j:Int)+1).toNat)*Tt (Ee c)+1<(a.ks.length - a.i.toNat)*Tt (Ee c)+1;rw [ephi,et]
     have:Tt (Ee c)=2*Ee c+11:=rfl
     omega
 |@inR q _ B0 B2 n had0 m1 r2 hin hr hb op rs hst hd hm1=>
  have⟨j,hj,hjl⟩:=hin.i;obtain ⟨r,vb,kb,q2,v,hvis,hks,hkb,rfl⟩:=hin.vis;have hs1:Sep H (B2++(xA c::grA c.g c.m X::SL c z (Ks.map Kb.cells) k u hs D a (many (vsL r vb c kb q2 v)::Mk H0 AB k))):=by
   have x0:Sep H (B2++(many (vsL r vb c kb q2 v)::xA c::grA c.g c.m X::SL c z (Ks.map Kb.cells) k u hs D a (Mk H0 AB k))):=hs0.perm List.perm_middle.symm;have x1:=Sep.many_iff.2 x0;exact Sep.many_iff.1 (Sep.pick x1 14 [0,2,3,4,5,6,7,8,9,10,11,12,13,1] (by decide))
  have⟨PL,rk⟩:=hb.rk hs1;have⟨g1,g2,g3,g4,g5⟩:=nxt_all (q:=q) (had:=a.had) (m1:=m1) s.w hp (by omega) hm hl hm1 (.inr (.inr ⟨n,by rw [hd]⟩));refine vgoes_s (kb2:=none) hko rk hr s.ok (by rw [s.dz]) s.pz hO.va op rs hl hm1 g4 g3 g2 g1 (Z:=λb hs' D'=>Zc c ps k X.G hs hs' D D'/\Nxt c ps k Q q (q.step c X.G b).1 (a.had||(q.step c X.G b).1.eff) (.run q n had0 m1) X.G (q.step c X.G b).2 hs' D D') g5 λH' X' a' u' b hs' D' hZ eX e1 e2 op' rs' o' pz' hsub hel sp hu o2=>⟨_,rfl,?_⟩
  have⟨zc,nx⟩:=hZ;have hG:=step_G (c:=c) g1 X.G b;obtain ⟨gg,no,rv,rkk,el,rfl⟩:=e2;have⟨st1,st2⟩:=st_step sp hst op.vb;generalize q.step c X.G b=st at *;have hins:X'.G.ins=X.G.ins:=by rw [eX];exact hG.1
  have hcnt:X'.G.S.count=X.G.S.count∨X'.G.S.count=wr (X.G.S.count+1):=by rw [eX];exact hG.2.2.2
  have hmade:X'.G.S.made=X.G.S.made∨X'.G.S.made=wr (X.G.S.made+1):=by rw [eX];exact hG.2.2.1
  rcases o2 with ⟨hd2,PL',rk⟩|⟨hd2,h5⟩
  ·have⟨B3,hB3,hs2⟩:=rk.rb;cases nx with
   |wai w dn hd2 hv=>rcases hv with hv|⟨hv,_⟩<;>cases hv
   |@run _ _ _ n' m0 w dn hm0 h=>
    rw [<-eX] at w;rcases h with ⟨h,_⟩|⟨n0,hx,m2,h,hn⟩
    ·cases h
    injection h with h1 h2 h3 h4
    subst h2;have hs3:Sep H' ((many (vsL r vb c kb q2 v)::B3)++(xA c::grA c.g c.m X'::SL c z (Ks.map Kb.cells) k u' hs' D' {a with had:=a.had||st.1.eff,no:=no,ra:=gg,rv:=rv,rk:=rkk,el:=el} (Mk H0 AB k))):=by
     have x1:=Sep.many_iff.2 hs2;have x2:=Sep.pick x1 14 [0,13,1,2,3,4,5,6,7,8,9,10,11,12] (by decide);have x3:=Sep.many_iff.1 x2;exact x3.perm List.perm_middle
    refine hJ H' ⟨.run st.1 n' (a.had||st.1.eff) m0,_,_,_,hs',D',_,X',u',_,s.go hk hp ha (a':={a with had:=a.had||st.1.eff,no:=no,ra:=gg,rv:=rv,rk:=rkk,el:=el}) w o' pz' zc.hx hsub zc.oth (.inR ⟨hph,hin.dk,⟨j,hj,hjl⟩,hin.len,⟨r,vb,kb,q2,v,hvis,hks,hkb,rfl⟩⟩ hr hB3 op' rs' st1 rfl hm0) ⟨hO.va,rs'.na,hO.kb⟩ hs3,⟨rfl,hins,hcnt,hmade,zc.ws,.inl ?_,(λe=>by cases e),λq e=>by cases e⟩⟩;rw [phi_run_in st2 st1,phi_run_in op.vb hst];show (a.ks.length - a.i.toNat)*Tt (Ee c)+1+n'<(a.ks.length - a.i.toNat)*Tt (Ee c)+1+n;omega
   |rest w dn=>rw [dn] at hd2;cases hd2
   |idle w M dn=>rw [dn] at hd2;cases hd2
  ·cases nx with
   |wai w dn=>rw [dn] at hd2;cases hd2
   |run w dn=>rw [dn] at hd2;cases hd2
   |idle w M dn h hv=>rw [st1] at hv;cases hv.1
   |rest w dn h hv=>
    rw [<-eX] at w;have⟨n0,hx,m2,h,hn0⟩:=h;injection h with h1 h2 h3 h4
    subst h2;refine hJ H' ⟨.rest,_,_,_,hs',D',_,X',u',_,s.go hk hp ha (a':={a with had:=a.had||st.1.eff,no:=no,ra:=gg,rv:=rv,rk:=rkk,el:=el,run:=none}) (B':=[many (vsL r vb c kb q2 v)]) w o' pz' zc.hx hsub zc.oth (.rest ⟨hph,hin.dk,⟨j,hj,hjl⟩,hin.len,⟨r,vb,kb,q2,v,hvis,hks,hkb,rfl⟩⟩ rfl) ⟨hO.va,rs'.na,hO.kb⟩ h5,⟨rfl,hins,hcnt,hmade,zc.ws,.inl ?_,(λe=>by cases e),λq e=>by cases e⟩⟩;rw [phi_run_in op.vb hst];show (a.ks.length - a.i.toNat)*Tt (Ee c)+1<(a.ks.length - a.i.toNat)*Tt (Ee c)+1+n;omega
end
section
variable {H H' H0:Heap} {R:Value->Heap->Prop} {L:List Asr} {hs hs':List Int} {D D':Dq} {c:Lc} {q q':Qr} {X X':Gx} {PL:List Asr} {r vb:Nat}
variable {z:Sd} {k n:Nat} {u u':Su} {a a':Kb} {G:Gr} {kb:Option Nat} {E:Nat} {had:Bool}
variable {ps:List Ph} {Ks:List Kb} {Q Q':List Nat} {sv sv':Wd} {la la':List El} {AB:List Asr} {p p':Ph} {B B':List Asr}
abbrev Cc (E:Nat):Nat:=(E+2)*Tt E+10
def pot (E:Nat)(l:List Deed)(p:Ph)(a:Kb):Nat:=phi E p a+(l.length - a.at_.toNat)*Cc E
structure Go2 (c:Lc)(l:List Deed)(k:Nat)(Q Q':List Nat)(D D':Dq)(X X':Gx)(p p':Ph)(a a':Kb):Prop where
 at_:∃n:Nat,a'.at_=(n:Int)/\n<=l.length
 ins:∀a∈X'.G.ins,a∈X.G.ins∨a=(k:Int)
 cnt:X'.G.S.count=X.G.S.count∨X'.G.S.count=wr (X.G.S.count+1)
 made:X'.G.S.made=X.G.S.made∨X'.G.S.made=wr (X.G.S.made+1)
 ws:D'.ws.length<=D.ws.length+1
 pro:pot (Ee c) l p' a'<pot (Ee c) l p a∨((∃q q',p=.wai q/\p'=.wai q')/\Q'=Q/\Q[0]? ≠some k/\pot (Ee c) l p' a'=pot (Ee c) l p a/\X'.G.S.made=X.G.S.made/\D'.ws.length=D.ws.length/\a'.at_=a.at_)
 fin:p'≠.idle/\∀q,p'≠.und q
theorem St.bump (s:St H0 c z ps Ks Q sv hs D la X u AB H)(n:Nat):St H0 c z ps Ks Q sv hs D la X u AB (H.bump n):=⟨s.len,s.dz,s.w,s.ok,s.pz,s.ag,s.sep.bump n⟩
theorem St.row (s:St H0 c z ps Ks Q sv hs D la X u AB H)(ha:Ks[k]? =some a):Sep H (aB z (Ks.map Kb.cells) k a::sB c z u::y16 z.y z.d u.lb u.wb D::l16 u.lb D::w16 u.wb D::pzA hs u::pzB u::xA c::grA c.g c.m X::many AB::[old H0]):=by
 have e2:(Ks.map Kb.cells).set k a.cells=Ks.map Kb.cells:=set_same (by rw [List.getElem?_map,ha];rfl);show Sep H (bx z.ab (.cells true 24 ((Ks.map Kb.cells).set k a.cells).flatten)::_);rw [e2];exact s.sep
theorem phase_of {p:Ph}{B:List Asr}(h:AgI c hs D.L u p a B)(h1:p≠.out)(h2:p≠.idle):a.ph=1∨a.ph=2∨a.ph=3∨a.ph=5:=by
 cases h with
 |out h=>exact absurd rfl h1
 |idle h=>exact absurd rfl h2
 |opU h=>exact .inl h.ph
 |opW h=>exact .inl h.ph
 |opR h=>exact .inl h.ph
 |viU h=>exact .inr (.inl h.ph)
 |viW h=>exact .inr (.inl h.ph)
 |viR h=>exact .inr (.inl h.ph)
 |rest h=>exact .inr (.inr (.inl h.ph))
 |inR h=>exact .inr (.inr (.inl h.ph))
 |cell h=>exact .inr (.inr (.inr h))
theorem out_of {p:Ph}{B:List Asr}(h:AgI c hs D.L u p a B)(h1:p=.out):a.ph=0/\B=[]:=by
 subst h1;cases h with|out h=>exact ⟨h,rfl⟩
theorem idle_of {p:Ph}{B:List Asr}(h:AgI c hs D.L u p a B)(h1:p=.idle):a.ph=6/\B=[]:=by
 subst h1;cases h with|idle h=>exact ⟨h,rfl⟩
def Beg (H0:Heap)(c:Lc)(z:Sd)(ps:List Ph)(Ks:List Kb)(Q:List Nat)(sv:Wd)(hs:List Int)(D:Dq)(la:List El)(X:Gx)(u:Su)(k:Nat)(l:List Deed)(p:Ph)(a:Kb)(H':Heap):Prop:=
 ∃p1 a1 X1 AB1,St H0 c z (ps.set k p1) (Ks.set k a1) Q sv hs D la X1 u AB1 H'/\(∀a∈X1.G.ins,a∈X.G.ins∨a=(k:Int))/\X1.G.S=X.G.S/\p1≠.out/\p1≠.idle/\((p1=p/\a1=a)∨(p=.out/\(∃q,p1=.und q)/\a1.at_=a.at_+1/\a.at_.toNat<l.length/\phi (Ee c) p1 a1<=(Ee c+1)*Tt (Ee c)+4))
theorem beg_s {ll:List (List Deed)}{l:List Deed}{at_:Nat}(s:St H0 c z ps Ks Q sv hs D la X u AB H)(hk:k<z.n)(hp:ps[k]? =some .out)(ha:Ks[k]? =some a)(dl:DeedsLL H0 z.la z.n ll)(hl:ll[k]? =some l)(hat:a.at_=(at_:Int))(hlt:at_<l.length)(hll:l.length<=1000)
  (hR:∀H',Beg H0 c z ps Ks Q sv hs D la X u k l .out a H'->R (.bool true) H'):CA en F.crossbarlaw16_side_start [P z.s,I k] H R:=by
 have⟨p1,a1,B,hp',ha',hA,hI,hO,hko,hs0⟩:=s.focus hk;rw [hp] at hp';injection hp' with hp';subst hp'
 rw [ha] at ha';injection ha' with ha';subst ha'
 obtain ⟨hph,rfl⟩:=out_of hI rfl;have⟨x,hx⟩:∃x,l[at_]? =some x:=⟨_,List.getElem?_eq_getElem hlt⟩;have hE:∀q,Wq q 0 0->(X.G.enter k).1=true/\Wo c (ps.set k (.und q)) Q sv hs D la (X.G.enter k).2:=λq hq=>s.w.enter hp hq
 have eS:(X.G.enter (k:Int)).2.S=X.G.S:=by unfold Gr.enter;split<;>rfl
 have eI:∀X':Gx,X'.G=(X.G.enter (k:Int)).2->∀a∈X'.G.ins,a∈X.G.ins∨a=(k:Int):=λX' e a ha=>by
  rw [e] at ha;unfold Gr.enter at ha;split at ha
  ·exact .inl ha
  ·rcases List.mem_append.1 ha with h|h
   ·exact .inl h
   ·simp only [List.mem_singleton] at h;exact .inr h
 refine start_s hko hk (by simp) dl hl hat hx hll s.dz hs0 hO.va (hE (Qr.new 0 0 0 0 0 0) ⟨⟨0,rfl⟩,rfl,rfl,rfl,rfl⟩).1 (λH' PL r vb b X' a' fr eX hdk hph hrn hvis vk=>?_) λH' PL r b X' a' kd ky fl val fr eX hdk hph hrn op h3 rk=>?_
 ·have⟨B2,hB2,hs2⟩:=vk.bod;have w2:=(hE {Qr.zero (some vb) with nx:=.enter ⟨b,0,0⟩ .room} ⟨⟨b,rfl⟩,rfl,rfl,rfl,rfl⟩).2;rw [<-eX] at w2 eS;refine hR H' ⟨_,a',X',_,s.go hk hp ha w2 s.ok s.pz (.inl rfl) (λ_ h=>h) (λ_ _ _ _ _=>rfl) (.viU ⟨hph,hrn,fr.had,fr.i,by rw [fr.dk];exact hdk,⟨r,vb,hvis,rfl,hB2⟩,trivial⟩) ⟨fr.va,by rw [fr.ra.1,fr.ra.2];exact hO.ra,by rw [fr.kb.1,fr.kb.2];exact hO.kb⟩ hs2,eI X' eX,eS,(λe=>by cases e),(λe=>by cases e),.inr ⟨rfl,⟨_,rfl⟩,fr.at_,by rw [hat];exact hlt,?_⟩⟩;rw [phi_und_vi (b:=vb) rfl];exact Nat.le_refl _
 ·have⟨B2,hB2,hs2⟩:=rk.rb;have w2:=(hE (Qr.new kd ky fl 0 val b) ⟨⟨b,rfl⟩,rfl,rfl,rfl,rfl⟩).2;rw [<-eX] at w2 eS;refine hR H' ⟨_,a',X',_,s.go hk hp ha w2 s.ok s.pz (.inl rfl) (λ_ h=>h) (λ_ _ _ _ _=>rfl) (.opU ⟨hph,⟨r,hrn,hB2⟩,op,⟨by rw [fr.ra.1,fr.ra.2];exact hO.ra,λe=>by rw [fr.had] at e;cases e⟩,rfl,λe=>by rw [op.kd];exact h3 (by rw [<-fr.dk];exact e),fr.i⟩ fr.had) ⟨fr.va,by rw [fr.ra.1,fr.ra.2];exact hO.ra,by rw [fr.kb.1,fr.kb.2];exact hO.kb⟩ hs2,eI X' eX,eS,(λe=>by cases e),(λe=>by cases e),.inr ⟨rfl,⟨_,rfl⟩,fr.at_,by rw [hat];exact hlt,?_⟩⟩;rw [phi_und_op rfl,Nat.succ_mul];omega
set_option maxHeartbeats 1000000 in
theorem step16_s {ll:List (List Deed)}{l:List Deed}{at_:Nat}(s:St H0 c z ps Ks Q sv hs D la X u AB H)(hk:k<z.n)(hp:ps[k]? =some p)(ha:Ks[k]? =some a)(hni:p≠.idle/\∀q,p≠.und q)(dl:DeedsLL H0 z.la z.n ll)(hl:ll[k]? =some l)(hat:a.at_=(at_:Int))(hle:at_<=l.length)(hll:l.length<=1000)
  (hws:D.ws.length<1000000)(hm:X.G.S.made<2305843009213693951)(hc:0<=X.G.S.count/\X.G.S.count<4611686018427387904)
  (hOver:∀H',p=.out->at_=l.length->St H0 c z ps Ks Q sv hs D la X u AB H'->R (.bool true) H')
  (hGo:∀H' p' a' Q' sv' hs' D' la' X' u' AB',St H0 c z (ps.set k p') (Ks.set k a') Q' sv' hs' D' la' X' u' AB' H'->Go2 c l k Q Q' D D' X X' p p' a a'->R (.bool true) H') :
  CA en F.crossbarlaw16_side_step [P z.s,I k] H R:=by
 apply vc_crossbarlaw16_side_step;have⟨p1,a1,B,hp',ha',hA,hI,hO,hko,hs0⟩:=s.focus hk;rw [hp] at hp';injection hp' with hp';subst hp'
 rw [ha] at ha';injection ha' with ha';subst ha'
 have h4:=s.len;have hkp:=lt_of_get hp;have hkk:=lt_of_get ha;have e0:ps.set k p=ps:=set_same hp;have e1:Ks.set k a=Ks:=set_same ha;have hsep:=s.row ha;refine asAddr_in ⟨_,_,Sep.ld1 s.sep rfl,⟨by omega,by omega⟩,asRow_in ?_⟩;rw [Int.toNat_natCast];refine ⟨λ_ H'=>Beg H0 c z ps Ks Q sv hs D la X u k l p a H',⟨_,ald hko hsep (j:=0) rfl rfl,cond_of (λw=>?_) λw=>?_⟩,?_⟩
 ·
  have w:a.ph=0:=by simpa using w
  have hpo:p=.out:=Classical.byContradiction λhne=>by
   have:=phase_of hI hne hni.1
   omega
  subst hpo;have hB:=hsep.bump 13;refine ⟨_,ald0 hko hB (j:=0) rfl rfl,?_⟩;have hsB:=s.sep.bump 13;have⟨i1,a1,n1,ee1,c1,d1⟩:=dl.at' (L:=_) hsB (by simp) hl;refine asAddr_in ⟨_,_,Sep.ld1 hsB rfl,⟨by omega,by omega⟩,?_⟩;rw [ee1];refine asRow_in ⟨_,_,c1,⟨?_,trivial⟩⟩;refine cond_of (λw2=>?_) λw2=>?_
  ·have w2:a.at_≥(n1:Int):=of_decide_eq_true w2;rw [hat,d1.len] at w2;exact hOver _ rfl (by omega) (s.bump 13)
  ·have w2:¬a.at_≥(n1:Int):=of_decide_eq_false w2;rw [hat,d1.len] at w2;exact beg_s (s.bump 13) hk hp ha dl hl hat (by omega) hll λH' h=>⟨_,rfl,cond_no rfl h⟩
 ·have w:a.ph≠0:=by simpa using w
  have hpo:p≠.out:=λe=>w (out_of hI e).1
  exact ⟨p,a,X,AB,by rw [e0,e1];exact s,λ_ h=>.inl h,rfl,hpo,hni.1,.inl ⟨rfl,rfl⟩⟩
 rintro ys H22 ⟨p1,a1,X1,AB1,s1,eI1,eX1,hn1,hn2,hcase⟩;have hp1:(ps.set k p1)[k]? =some p1:=by rw [lget_set hkp,if_pos rfl]
 have ha1:(Ks.set k a1)[k]? =some a1:=by rw [lget_set hkk,if_pos rfl]
 have ps2:∀p2,(ps.set k p1).set k p2=ps.set k p2:=λp2=>List.set_set ..
 have Ks2:∀a2,(Ks.set k a1).set k a2=Ks.set k a2:=λa2=>List.set_set ..
 generalize hps1:ps.set k p1=ps1 at s1 hp1 ps2;generalize hKs1:Ks.set k a1=Ks1 at s1 ha1 Ks2;have⟨p1',a1',B1,hq1,hq2,hA1,hI1,hO1,hko1,hs1⟩:=s1.focus hk;rw [hp1] at hq1;injection hq1 with hq1;subst hq1
 rw [ha1] at hq2;injection hq2 with hq2;subst hq2
 have hsep1:=s1.row ha1;refine asAddr_in ⟨_,Sep.ld1 s1.sep rfl,gcount_s (Sep.up8 s1.sep) ⟨_,rfl,asAddr_in ⟨_,Sep.ld1 s1.sep rfl,gbad_s (Sep.up8 s1.sep) ⟨_,rfl,?_⟩⟩⟩⟩;have hm1:X1.G.S.made<2305843009213693951:=by rw [eX1];exact hm
 refine ⟨λys H'=>ys=[.bool true]/\Mid H0 c z ps1 Ks1 Q D X1 k p1 a1 H',⟨_,ald hko1 hsep1 (j:=0) rfl rfl,?_⟩,?_⟩
 ·have hph:=phase_of hI1 hn1 hn2;refine cond_of (λw=>?_) λw1=>cond_of (λw=>?_) λw2=>cond_of (λw=>?_) λw3=>cond_of (λw=>?_) λw4=>cond_of (λw=>?_) λw5=>?_
  ·exact midOp s1 hk hp1 ha1 (by simpa using w) hws hm1 (J:=λys H'=>ys=[.bool true]/\Mid H0 c z ps1 Ks1 Q D X1 k p1 a1 H') λH' h=>⟨rfl,h⟩
  ·exact midVis s1 hk hp1 ha1 (by simpa using w) hws hm1 (J:=λys H'=>ys=[.bool true]/\Mid H0 c z ps1 Ks1 Q D X1 k p1 a1 H') λH' h=>⟨rfl,h⟩
  ·exact midIn s1 hk hp1 ha1 (by simpa using w) hws hm1 (J:=λys H'=>ys=[.bool true]/\Mid H0 c z ps1 Ks1 Q D X1 k p1 a1 H') λH' h=>⟨rfl,h⟩
  ·have w:a1.ph=4:=by simpa using w
   omega
  ·exact midCell s1 hk hp1 ha1 (by simpa using w) hws (J:=λys H'=>ys=[.bool true]/\Mid H0 c z ps1 Ks1 Q D X1 k p1 a1 H') λH' h=>⟨rfl,h⟩
  ·have w1:a1.ph≠1:=by simpa using w1
   have w2:a1.ph≠2:=by simpa using w2
   have w3:a1.ph≠3:=by simpa using w3
   have w5:a1.ph≠5:=by simpa using w5
   omega
 rintro ys63 H64 b65 ⟨eb,p2,a2,Q2,sv2,hs2,D2,la2,X2,u2,AB2,s2,g⟩;obtain rfl:b65=true:=by
  injection eb with eb
  injection eb
 rw [ps2,Ks2] at s2;have hp2:(ps.set k p2)[k]? =some p2:=by rw [lget_set hkp,if_pos rfl]
 have ha2:(Ks.set k a2)[k]? =some a2:=by rw [lget_set hkk,if_pos rfl]
 have⟨p2',a2',B2,hq1,hq2,hA2,hI2,hO2,hko2,hsf⟩:=s2.focus hk;rw [hp2] at hq1;injection hq1 with hq1;subst hq1
 rw [ha2] at hq2;injection hq2 with hq2;subst hq2
 have hsep2:=s2.row ha2;have hcnt:X2.G.S.count<=X1.G.S.count+1:=by
  have h1:=hc;rw [<-eX1] at h1;have e:wr (X1.G.S.count+1)=X1.G.S.count+1:=wrs (by omega);rcases g.cnt with h|h<;>omega
 have ewr:IntKind.i64.wrap (X1.G.S.count+1)=X1.G.S.count+1:=by rw [eX1];exact wrap_i64 (by omega)
 have⟨_,_,_,Mm1⟩:=s1.w.memo;have⟨_,_,_,Mm2⟩:=s2.w.memo;have hpo:∀p3 a3,phi (Ee c) p3 a3=phi (Ee c) p2 a2->a3.at_=a2.at_->(∃n:Nat,a3.at_=(n:Int)/\n<=l.length)/\(pot (Ee c) l p3 a3<pot (Ee c) l p a∨(p1=p/\a1=a/\(∃q q',p=.wai q/\p2=.wai q')/\Q2=Q/\Q[0]? ≠some k/\pot (Ee c) l p3 a3=pot (Ee c) l p a/\X2.G.S.made=X1.G.S.made/\D2.ws.length=D.ws.length/\a3.at_=a.at_)):=λp3 a3 ep ea=>by
  have e5:=g.at_;have hle2:phi (Ee c) p2 a2<=phi (Ee c) p1 a1:=by rcases g.pro with h|h;exact Nat.le_of_lt h;exact Nat.le_of_eq h.2.2.2.1
  rcases hcase with ⟨rfl,rfl⟩|⟨rfl,⟨qx,rfl⟩,f1,f2,f3⟩
  ·refine ⟨⟨at_,by rw [ea,e5,hat],hle⟩,?_⟩;have e6:a3.at_=a1.at_:=ea.trans e5;rcases g.pro with h|⟨⟨qa,qb,h1,h2⟩,h3,h4,h5,h6,h7⟩
   ·left;unfold pot;rw [ep,e6];omega
   ·right;exact ⟨rfl,rfl,⟨qa,qb,h1,h2⟩,h3,h4,by unfold pot;rw [ep,e6,h5],h6,h7,e6⟩
  ·have e6:a3.at_=((at_+1:Nat):Int):=by rw [ea,e5,f1,hat];rfl
   have f2:at_<l.length:=by rw [hat] at f2;exact f2
   refine ⟨⟨at_+1,e6,f2⟩,.inl ?_⟩;unfold pot;rw [ep,e6,hat,Int.toNat_natCast,Int.toNat_natCast];have e7:(l.length - at_)*Cc (Ee c)=(l.length - (at_+1))*Cc (Ee c)+Cc (Ee c):=by
    rw [<-Nat.succ_mul];congr 1;omega
   have e8:phi (Ee c) Ph.out a=0:=rfl;have e9:Cc (Ee c)=(Ee c+1)*Tt (Ee c)+Tt (Ee c)+10:=by
    show (Ee c+2)*Tt (Ee c)+10=_;rw [<-Nat.succ_mul]
   rw [e7,e8];omega
 refine ⟨_,ald hko2 hsep2 (j:=0) rfl rfl,cond_of (λw=>?_) λw=>?_⟩
 ·have w:a2.ph=6:=by simpa using w
  have hp6:p2=.idle:=by
   refine Classical.byContradiction λhne=>?_
   have:=phase_of hI2 g.fin.1 hne
   omega
  obtain ⟨_,rfl⟩:=idle_of hI2 hp6;subst hp6;refine finish_s hko2 hk hsf (by have:=Mm2.qlen;omega) λH68 X3 eX3 h68=>⟨rfl,cond_yes rfl ?_⟩
  have w3:=s2.w.exit hp2;rw [List.set_set,<-eX3] at w3;have s3:=s2.go hk hp2 ha2 (p':=.out) (a':={a2 with ph:=0}) (B':=[]) (by rw [List.set_set];exact w3) s2.ok s2.pz (.inl rfl) (λ_ h=>h) (λ_ _ _ _ _=>rfl) (.out rfl) ⟨hO2.va,hO2.ra,hO2.kb⟩ h68;rw [List.set_set,List.set_set] at s3;have⟨_,_,_,Mm3⟩:=s3.w.memo;have eI3:∀x∈X3.G.ins,x∈X.G.ins∨x=(k:Int):=λx hx=>by
   rw [eX3,leave_ins Mm2.ok] at hx;exact eI1 x (by rw [<-g.ins];exact hx.1)
  have ec3:X3.G.S.count=X2.G.S.count:=by rw [eX3];exact leave_count
  have em3:X3.G.S.made=X2.G.S.made:=by rw [eX3];exact leave_made
  refine asAddr_in ⟨_,Sep.ld3 h68 rfl,gcount_s (Sep.up1 h68) ⟨_,rfl,cond_yes ?_ (asAddr_in ⟨_,Sep.ld3 h68 rfl,gbad_s (Sep.up1 h68) ⟨_,rfl,?_⟩⟩)⟩⟩
  ·rw [ewr,ec3];simpa using hcnt
  rw [Mm3.bads,Mm1.bads];have⟨x1,x2⟩:=hpo .out {a2 with ph:=0} rfl rfl;refine hGo H68 _ _ _ _ _ _ _ _ _ _ s3 ⟨x1,eI3,by rw [ec3,<-eX1];exact g.cnt,by rw [em3,<-eX1];exact g.made,g.ws,?_,(λe=>by cases e),λq e=>by cases e⟩;rcases x2 with x2|⟨_,_,⟨_,_,_,x3⟩,_⟩
  ·exact .inl x2
  ·cases x3
 ·have w:a2.ph≠6:=by simpa using w
  have hp6:p2≠.idle:=λe=>w (idle_of hI2 e).1
  refine cond_yes rfl (asAddr_in ⟨_,Sep.ld1 s2.sep rfl,gcount_s (Sep.up8 s2.sep) ⟨_,rfl,cond_yes ?_ (asAddr_in ⟨_,Sep.ld1 s2.sep rfl,gbad_s (Sep.up8 s2.sep) ⟨_,rfl,?_⟩⟩)⟩⟩)
  ·rw [ewr];simpa using hcnt
  rw [Mm2.bads,Mm1.bads];have⟨x1,x2⟩:=hpo p2 a2 rfl rfl;refine hGo H64 _ _ _ _ _ _ _ _ _ _ s2 ⟨x1,λx hx=>eI1 x (by rw [<-g.ins];exact hx),by rw [<-eX1];exact g.cnt,by rw [<-eX1];exact g.made,g.ws,?_,hp6,g.fin.2⟩;rcases x2 with x2|⟨_,_,x3,x4,x5,x6,x7,x8,x9⟩
  ·exact .inl x2
  ·exact .inr ⟨x3,x4,x5,x6,by rw [x7,eX1],x8,x9⟩
end
section
variable {H H' H0:Heap} {R:Value->Heap->Prop} {c:Lc} {z:Sd} {k n:Nat} {ll:List (List Deed)} {ps ps':List Ph} {Ks Ks':List Kb} {Q Q':List Nat} {Cn:Int} {M0 E:Nat}
def potk (E:Nat)(ll:List (List Deed))(ps:List Ph)(Ks:List Kb)(k:Nat):Nat:=
 match ps[k]?,Ks[k]?,ll[k]? with
 |some p,some a,some l=>pot E l p a
 |_,_,_=>0
def sumTo (f:Nat->Nat):Nat->Nat
 |0=>0
 |n+1=>sumTo f n+f n
theorem sum_same {f g:Nat->Nat}:∀{n:Nat},(∀j,j<n->g j=f j)->sumTo g n=sumTo f n
 |0,_=>rfl
 |n+1,h=>by
  show sumTo g n+g n=sumTo f n+f n
  rw [sum_same λj hj=>h j (by omega),h n (by omega)]
theorem sum_upd {f g:Nat->Nat}:∀{n:Nat},k<n->(∀j,j≠k->g j=f j)->sumTo g n+f k=sumTo f n+g k
 |0,hk,_=>by omega
 |n+1,hk,h=>by
  show sumTo g n+g n+f k=sumTo f n+f n+g k
  by_cases e:k=n
  ·subst e
   rw [sum_same λj hj=>h j (by omega)];omega
  ·have:=sum_upd (n:=n) (by omega) h
   rw [h n (λe2=>e e2.symm)];omega
abbrev Phi (c:Lc)(ll:List (List Deed))(ps:List Ph)(Ks:List Kb)(n:Nat):Nat:=sumTo (potk (Ee c) ll ps Ks) n
structure Pst (H0:Heap)(c:Lc)(z:Sd)(ll:List (List Deed))(ps:List Ph)(Ks:List Kb)(Q:List Nat)(Cn:Int)(M0:Nat)(H:Heap):Prop where
 dl:DeedsLL H0 z.la z.n ll
 lll:ll.length=z.n
 lle:∀l∈ll,l.length<=1000
 hM:M0<=900000
 ni:∀(k:Nat)(p:Ph),ps[k]? =some p->p≠.idle/\∀q,p≠.und q
 at_:∀(k:Nat)(a:Kb)(l:List Deed),Ks[k]? =some a->ll[k]? =some l->∃n:Nat,a.at_=(n:Int)/\n<=l.length
 ex:∃sv hs D la X u AB,St H0 c z ps Ks Q sv hs D la X u AB H/\(∀a∈X.G.ins,∃j:Nat,a=(j:Int)/\j<z.n)/\0<=X.G.S.count/\X.G.S.count<=Cn/\X.G.S.made+(Phi c ll ps Ks z.n:Int)<=M0/\D.ws.length+Phi c ll ps Ks z.n<=M0
def OverK (ll:List (List Deed))(ps:List Ph)(Ks:List Kb)(j:Nat):Prop:=ps[j]? =some .out/\∃a l,Ks[j]? =some a/\ll[j]? =some l/\a.at_=(l.length:Int)
def Stk (ll:List (List Deed))(ps:List Ph)(Ks:List Kb)(Q:List Nat)(j:Nat):Prop:=OverK ll ps Ks j∨((∃q,ps[j]? =some (.wai q))/\Q[0]? ≠some j)
structure Prog (c:Lc)(ll:List (List Deed))(n:Nat)(ps:List Ph)(Ks:List Kb)(Q:List Nat)(ps':List Ph)(Ks':List Kb)(Q':List Nat)(k:Nat):Prop where
 oth:∀j,j≠k->ps'[j]? =ps[j]? /\Ks'[j]? =Ks[j]?
 pro:Phi c ll ps' Ks' n<Phi c ll ps Ks n∨(Phi c ll ps' Ks' n=Phi c ll ps Ks n/\Q'=Q/\Stk ll ps' Ks' Q' k)
theorem Pst.bump (Y:Pst H0 c z ll ps Ks Q Cn M0 H)(n:Nat):Pst H0 c z ll ps Ks Q Cn M0 (H.bump n):=by
 have⟨sv,hs,D,la,X,u,AB,s,h1,h2,h3,h4,h5⟩:=Y.ex;exact ⟨Y.dl,Y.lll,Y.lle,Y.hM,Y.ni,Y.at_,sv,hs,D,la,X,u,AB,s.bump n,h1,h2,h3,h4,h5⟩
theorem pst_step (Y:Pst H0 c z ll ps Ks Q Cn M0 H)(hk:k<z.n)(hC:Cn<4611686018427387904)
  (hR:∀H' ps' Ks' Q',Pst H0 c z ll ps' Ks' Q' (Cn+1) M0 H'->Prog c ll z.n ps Ks Q ps' Ks' Q' k->R (.bool true) H'):CA en F.crossbarlaw16_side_step [P z.s,I k] H R:=by
 have⟨sv,hs,D,la,X,u,AB,s,hins,hc1,hc2,hmd,hws⟩:=Y.ex;have⟨l1,l2,l3,l4,l5⟩:=s.len;have hM:=Y.hM;have hlll:=Y.lll;have⟨p,hp⟩:∃p,ps[k]? =some p:=⟨_,List.getElem?_eq_getElem (by omega)⟩;have⟨a,ha⟩:∃p,Ks[k]? =some p:=⟨_,List.getElem?_eq_getElem (by omega)⟩;have⟨l,hl⟩:∃p,ll[k]? =some p:=⟨_,List.getElem?_eq_getElem (by omega)⟩;have⟨at_,hat,hle⟩:=Y.at_ k a l ha hl;have hmade:=s.w.made;refine step16_s s hk hp ha (Y.ni k p hp) Y.dl hl hat hle (Y.lle l (List.mem_of_getElem? hl)) (by omega) (by omega) ⟨hc1,by omega⟩ (λH' e1 e2 s2=>?_) λH' p' a' Q' sv' hs' D' la' X' u' AB' s2 g=>?_
 ·subst e1;exact hR H' ps Ks Q ⟨Y.dl,Y.lll,Y.lle,Y.hM,Y.ni,Y.at_,sv,hs,D,la,X,u,AB,s2,hins,hc1,by omega,hmd,hws⟩ ⟨λ_ _=>⟨rfl,rfl⟩,.inr ⟨rfl,rfl,.inl ⟨hp,a,l,ha,hl,by rw [hat,e2]⟩⟩⟩
 ·have hkp:=lt_of_get hp;have hkk:=lt_of_get ha;have gp:=lget_set (p:=p') hkp;have gk:=lget_set (p:=a') hkk;have f1:potk (Ee c) ll ps Ks k=pot (Ee c) l p a:=by unfold potk;rw [hp,ha,hl]
  have f2:potk (Ee c) ll (ps.set k p') (Ks.set k a') k=pot (Ee c) l p' a':=by unfold potk;rw [gp,gk,if_pos rfl,if_pos rfl,hl]
  have hsum:=sum_upd (f:=potk (Ee c) ll ps Ks) (g:=potk (Ee c) ll (ps.set k p') (Ks.set k a')) hk λj hj=>by
   unfold potk;rw [gp,gk,if_neg hj,if_neg hj]
  rw [f1,f2] at hsum;have ew:wr (X.G.S.made+1)=X.G.S.made+1:=wrs (by omega);have ec:wr (X.G.S.count+1)=X.G.S.count+1:=wrs (by omega);have hmd2:=g.made;have hcn2:=g.cnt;rw [ew] at hmd2;rw [ec] at hcn2;have hws2:=g.ws;have key:X'.G.S.made+(Phi c ll (ps.set k p') (Ks.set k a') z.n:Int)<=M0/\D'.ws.length+Phi c ll (ps.set k p') (Ks.set k a') z.n<=M0:=by
   show X'.G.S.made+(sumTo (potk (Ee c) ll (ps.set k p') (Ks.set k a')) z.n:Int)<=M0/\D'.ws.length+sumTo (potk (Ee c) ll (ps.set k p') (Ks.set k a')) z.n<=M0;have hmd3:X.G.S.made+(sumTo (potk (Ee c) ll ps Ks) z.n:Int)<=M0:=hmd;have hws3:D.ws.length+sumTo (potk (Ee c) ll ps Ks) z.n<=M0:=hws;rcases g.pro with h|⟨_,_,_,h1,h2,h3,_⟩
   ·rcases hmd2 with h2|h2<;>omega
   ·omega
  refine hR H' _ _ Q' ⟨Y.dl,Y.lll,Y.lle,Y.hM,λj p1 hj=>?_,λj a1 l1 hj hl1=>?_,sv',hs',D',la',X',u',AB',s2,λx hx=>?_,?_,?_,key.1,key.2⟩ ⟨λj hj=>⟨by rw [gp,if_neg hj],by rw [gk,if_neg hj]⟩,?_⟩
  ·rw [gp] at hj;split at hj
   ·injection hj with hj;subst hj;exact g.fin
   ·exact Y.ni j p1 hj
  ·rw [gk] at hj;split at hj
   ·rename_i e;subst e;injection hj with hj;subst hj
    rw [hl] at hl1;injection hl1 with hl1;subst hl1
    exact g.at_
   ·exact Y.at_ j a1 l1 hj hl1
  ·rcases g.ins x hx with h|h
   ·exact hins x h
   ·exact ⟨k,h,hk⟩
  ·rcases hcn2 with h|h<;>omega
  ·rcases hcn2 with h|h<;>omega
  ·rcases g.pro with h|⟨⟨q1,q2,e1,e2⟩,e3,e4,e5,_,_,e6⟩
   ·left;show sumTo _ _<sumTo _ _;omega
   ·right;refine ⟨by show sumTo _ _=sumTo _ _;omega,e3,.inr ⟨⟨q2,by rw [gp,if_pos rfl,e2]⟩,by rw [e3];exact e4⟩⟩
theorem Prog.stk (g:Prog c ll n ps Ks Q ps' Ks' Q' k)(hQ:Q'=Q){j:Nat}(hj:j≠k)(h:Stk ll ps Ks Q j):Stk ll ps' Ks' Q' j:=by
 have⟨e1,e2⟩:=g.oth j hj;subst hQ;rcases h with ⟨h1,h2⟩|⟨⟨q,h1⟩,h2⟩
 ·exact .inl ⟨by rw [e1];exact h1,by rw [e2];exact h2⟩
 ·exact .inr ⟨⟨q,by rw [e1];exact h1⟩,h2⟩
theorem Prog.over (g:Prog c ll n ps Ks Q ps' Ks' Q' k){j:Nat}(hj:j≠k):OverK ll ps' Ks' j↔OverK ll ps Ks j:=by
 have⟨e1,e2⟩:=g.oth j hj;unfold OverK;rw [e1,e2]
theorem Pst.all (Y:Pst H0 c z ll ps Ks Q Cn M0 H)(h:∀j,j<z.n->Stk ll ps Ks Q j):∀j,j<z.n->OverK ll ps Ks j:=by
 have⟨sv,hs,D,la,X,u,AB,s,_⟩:=Y.ex;have hlen:=s.len;intro j hj;rcases h j hj with h1|⟨⟨q,h1⟩,h2⟩
 ·exact h1
 ·exfalso;have hm:j∈Q:=(s.w.lk.inq j).2 ⟨_,h1,rfl⟩;cases hQ:Q with
  |nil=>rw [hQ] at hm;cases hm
  |cons k0 Q1=>
   have hm0:k0∈Q:=by rw [hQ];simp
   have⟨p0,hp0,hi0⟩:=(s.w.lk.inq k0).1 hm0;rcases h k0 (by have:=lt_of_get hp0;omega) with ⟨h3,_⟩|⟨_,h3⟩
   ·rw [hp0] at h3;injection h3 with h3;subst h3;cases hi0
   ·exact h3 (by rw [hQ];rfl)
end
section
variable {H H' H0:Heap} {R:Value->Heap->Prop} {c:Lc} {z:Sd} {k n:Nat} {ll:List (List Deed)} {ps ps':List Ph} {Ks Ks':List Kb} {Q Q':List Nat} {Cn:Int} {M0:Nat}
theorem Pst.end_ (Y:Pst H0 c z ll ps Ks Q Cn M0 H)(h:∀j,j<z.n->OverK ll ps Ks j):∃sv hs D la X u AB,St H0 c z ps Ks Q sv hs D la X u AB H/\X.G.q=[]/\X.G.S.regs.length=1+D.L.length/\D.L.length<=64:=by
 have⟨sv,hs,D,la,X,u,AB,s,hins,_⟩:=Y.ex;have hlen:=s.len;have M:=s.w.mem λk p hp=>by
  have hk:=lt_of_get hp;rw [(h k (by omega)).1] at hp;injection hp with hp;subst hp;rfl
 have hq:X.G.q=[]:=M.ok.empty λa ha=>by
  obtain ⟨j,rfl,hj⟩:=hins a ha;exact (s.w.ins j (by omega)).1 ha (h j hj).1
 refine ⟨sv,hs,D,la,X,u,AB,s,hq,?_,s.ok.short⟩
 have:=M.perm.length_eq
 rw [hq] at this;simp only [List.length_map,List.length_cons,List.length_append,List.length_nil,List.map_nil] at this;have hcl:=s.w.ls.cor.length;omega
theorem St.row' {sv hs D la X u AB}(s:St H0 c z ps Ks Q sv hs D la X u AB H)(hk:k<z.n):∃p a,ps[k]? =some p/\Ks[k]? =some a/\(a.ph=0↔p=.out):=by
 have⟨p,a,B,hp,ha,_,hI,_⟩:=s.focus hk;refine ⟨p,a,hp,ha,λh=>Classical.byContradiction λhne=>?_,λe=>(out_of hI e).1⟩;by_cases h6:p=.idle
 ·have:=(idle_of hI h6).1;omega
 ·have:=phase_of hI hne h6;omega
theorem rest_s {most:Int}(Y:Pst H0 c z ll ps Ks Q Cn M0 H)(hb:z.base=1)(hm:(Phi c ll ps Ks z.n:Int)<=most)(hm2:most<1152921504606846976)(hC:Cn+4*((Phi c ll ps Ks z.n:Int)+1)<4611686018427387904)
  (hR:∀H',R (.bool true) H'):CA en F.crossbarlaw16_side_rest [P z.s,I most] H R:=by
 apply vc_crossbarlaw16_side_rest;refine use_crossbarlaw16_side_rest_0 (λn t4 t5 H'=>∃ps Ks Q Cn,Pst H0 c z ll ps Ks Q Cn M0 H'/\n=Phi c ll ps Ks z.n/\0<=t5/\t5+(Phi c ll ps Ks z.n:Int)<=most/\Cn+4*((Phi c ll ps Ks z.n:Int)+1)<4611686018427387904) _ ⟨ps,Ks,Q,Cn,Y,rfl,by omega,by omega,hC⟩ ?_;clear Y hm hC;rintro n t4 t5 ys H ⟨ps,Ks,Q,Cn,Y,rfl,h0,h1,hC⟩;have hz:1<=z.n/\z.n<=4:=by
  have⟨sv,hs,D,la,X,u,AB,s,_⟩:=Y.ex;exact ⟨s.len.2.2.2.1,s.len.2.2.2.2⟩
 refine cond_yes (by simp;omega) ?_;refine use_crossbarlaw16_side_rest_1 (λn t4 t6 t7 H'=>∃(j:Nat)(ps':List Ph)(Ks':List Kb)(Q':List Nat),j<=z.n/\n=z.n - j/\t7=(j:Int)/\Pst H0 c z ll ps' Ks' Q' (Cn+j) M0 H'/\(t6=true↔∀i,i<j->OverK ll ps' Ks' i)/\
  (Phi c ll ps' Ks' z.n<Phi c ll ps Ks z.n∨(Phi c ll ps' Ks' z.n=Phi c ll ps Ks z.n/\∀i,i<j->Stk ll ps' Ks' Q' i))) z.n ⟨0,ps,Ks,Q,by omega,rfl,rfl,by simpa using Y,⟨λ_ i hi=>by omega,λ_=>rfl⟩,.inr ⟨rfl,λi hi=>by omega⟩⟩ ?_
 rintro n t4' t6 t7 ys2 H2 ⟨j,ps',Ks',Q',hj,rfl,rfl,Y2,hov,hpr⟩;have⟨sv,hs,D,la,X,u,AB,s,_⟩:=Y2.ex;refine asAddr_in ⟨_,_,Sep.ld1 s.sep rfl,cond_of (λw=>?_) λw=>?_⟩
 ·have w:j<z.n:=by have:=of_decide_eq_true w;omega
  clear s;refine pst_step Y2 w (by omega) λH3 ps3 Ks3 Q3 Y3 g=>⟨_,rfl,cond_no rfl ?_⟩
  have ew:IntKind.i64.wrap ((j:Int)+1)=((j+1:Nat):Int):=by rw [wrap_i64 (by omega)];omega
  have hpr3:Phi c ll ps3 Ks3 z.n<Phi c ll ps Ks z.n∨(Phi c ll ps3 Ks3 z.n=Phi c ll ps Ks z.n/\∀i,i<j+1->Stk ll ps3 Ks3 Q3 i):=by
   rcases g.pro with h|⟨e1,e2,e3⟩
   ·left;rcases hpr with h2|h2<;>omega
   ·rcases hpr with h2|⟨h2,h3⟩
    ·left;omega
    ·refine .inr ⟨by omega,λi hi=>?_⟩;by_cases e:i=j
     ·subst e;exact e3
     ·exact g.stk e2 e (h3 i (by omega))
  have hovO:(∀i,i<j->OverK ll ps3 Ks3 i)↔(∀i,i<j->OverK ll ps' Ks' i):=⟨λh i hi=>(g.over (by omega)).1 (h i hi),λh i hi=>(g.over (by omega)).2 (h i hi)⟩;have e4:Cn+(j:Int)+1=Cn+((j+1:Nat):Int):=by omega
  rw [e4] at Y3;have goOn:∀b,(b=true↔∀i,i<j+1->OverK ll ps3 Ks3 i)->∃k',k'<z.n - j/\∃(j':Nat)(ps':List Ph)(Ks':List Kb)(Q':List Nat),j'<=z.n/\k'=z.n - j'/\IntKind.i64.wrap ((j:Int)+1)=(j':Int)/\Pst H0 c z ll ps' Ks' Q' (Cn+j') M0 (H3.bump 32)/\(b=true↔∀i,i<j'->OverK ll ps' Ks' i)/\
    (Phi c ll ps' Ks' z.n<Phi c ll ps Ks z.n∨(Phi c ll ps' Ks' z.n=Phi c ll ps Ks z.n/\∀i,i<j'->Stk ll ps' Ks' Q' i)):=λb hb=>
   ⟨z.n - (j+1),by omega,j+1,ps3,Ks3,Q3,by omega,rfl,ew,Y3.bump 32,hb,hpr3⟩
  have split:(∀i,i<j+1->OverK ll ps3 Ks3 i)↔(∀i,i<j->OverK ll ps3 Ks3 i)/\OverK ll ps3 Ks3 j:=⟨λh=>⟨λi hi=>h i (by omega),h j (by omega)⟩,λh i hi=>by
   by_cases e:i=j
   ·subst e;exact h.2
   ·exact h.1 i (by omega)⟩
  refine cond_of (λw6=>?_) λw6=>?_
  ·have hbef:=hovO.2 (hov.1 w6);have⟨sv,hs,D,la,X,u,AB,s3,_⟩:=Y3.ex;have⟨p,a,hp,ha,hph⟩:=s3.row' w;have hko:KO (Ks3.map Kb.cells) j:=⟨ks_len Ks3,by rw [List.length_map];exact lt_of_get ha⟩;have hB:=(s3.row ha).bump 32;have hsB:=s3.sep.bump 32;refine asAddr_in ⟨_,_,Sep.ld1 hB rfl,⟨by omega,by omega⟩,asRow_in ?_⟩;rw [Int.toNat_natCast];refine ⟨_,ald hko hB (j:=0) rfl rfl,cond_of (λw7=>?_) λw7=>?_⟩
   ·have w7:a.ph=0:=by simpa using w7
    have hpo:=hph.1 w7;subst hpo;refine asAddr_in ⟨_,_,Sep.ld1 hB rfl,⟨by omega,by omega⟩,asRow_in ⟨_,ald0 hko hB (j:=0) rfl rfl,?_⟩⟩;have⟨l,hl⟩:∃p,ll[j]? =some p:=⟨_,List.getElem?_eq_getElem (by have:=Y3.lll;omega)⟩;have⟨i1,a1,n1,ee1,c1,d1⟩:=Y3.dl.at' (L:=_) hsB (by simp) hl;refine asAddr_in ⟨_,_,Sep.ld1 hsB rfl,⟨by omega,by omega⟩,?_⟩;rw [ee1];refine asRow_in ⟨_,_,c1,⟨goOn _ ?_,trivial⟩⟩;rw [split];refine ⟨λe=>⟨hbef,hp,a,l,ha,hl,?_⟩,λh=>?_⟩
    ·have:a.at_=(n1:Int):=by simpa using e
     rw [this,d1.len]
    ·have⟨_,a2,l2,h2,h3,h4⟩:=h.2;rw [ha] at h2;injection h2 with h2;subst h2
     rw [hl] at h3;injection h3 with h3;subst h3
     rw [h4,d1.len];simp
   ·have w7:a.ph≠0:=by simpa using w7
    refine ⟨goOn false ?_,trivial⟩;rw [split];refine ⟨λe=>(by cases e),λh=>?_⟩
    have:=h.2.1
    rw [hp] at this;injection this with this
    exact absurd (hph.2 this) w7
  ·refine ⟨goOn false ?_,trivial⟩;rw [split];refine ⟨λe=>(by cases e),λh=>?_⟩
   have:=hov.2 (hovO.1 h.1)
   rw [this] at w6;cases w6
 ·have w:j=z.n:=by have:=of_decide_eq_false w;omega
  subst w;refine asBool_in (asBool_in (cond_of (λw6=>?_) λw6=>?_))
  ·
   have⟨sv,hs,D,la,X,u,AB,s4,hq,hlive,hD⟩:=Y2.end_ (hov.1 w6);have hB:=s4.sep.bump 28;refine asAddr_in ⟨_,Sep.ld1 hB rfl,waits_s (gr_isG (Sep.up8 hB)) ⟨_,rfl,?_⟩⟩;rw [hq];refine cond_yes rfl (asAddr_in ⟨_,Sep.ld1 hB rfl,glive_s (Sep.up8 hB) ⟨_,rfl,asAddr_in ⟨_,Sep.ld1 hB rfl,asAddr_in ⟨_,Sep.ld1 hB rfl,asAddr_in ⟨_,_,Sep.ld2 hB rfl,?_,⟨rfl,rfl,trivial⟩,⟨rfl,rfl,trivial⟩,⟨⟨_,_,Sep.ld2 hB rfl,rfl,rfl,rfl⟩,⟨_,_,Sep.ld2 hB rfl,rfl,rfl,rfl⟩,trivial⟩,⟨⟨_,Sep.ld1 hB rfl,rfl⟩,⟨_,Sep.ld1 hB rfl,rfl⟩,trivial⟩,⟨⟨_,Sep.ld1 hB rfl,rfl⟩,⟨_,Sep.ld1 hB rfl,rfl⟩,trivial⟩,trivial⟩⟩⟩⟩⟩);refine asBool_in ?_;have e:((X.G.S.regs.length:Int)==IntKind.i64.wrap (z.base+(D.L.length:Int)))=true:=by
    rw [hb,wrap_i64 (by omega),hlive];simp
   rw [e];exact hR _
  ·have hdrop:Phi c ll ps' Ks' z.n<Phi c ll ps Ks z.n:=by
    rcases hpr with h|⟨_,h⟩
    ·exact h
    ·have:=hov.2 (Y2.all h)
     rw [this] at w6;cases w6
   refine ⟨_,hdrop,ps',Ks',Q',_,Y2,rfl,?_,?_,?_⟩
   ·rw [wrap_i64 (by omega)];omega
   ·rw [wrap_i64 (by omega)];omega
   ·omega
end
section
variable {H H' H0:Heap} {R:Value->Heap->Prop} {L:List Asr} {k n:Nat} {ll:List (List Deed)} {d:Dc} {la:Option Addr}
def totD (ll:List (List Deed)):Nat:=(ll.map List.length).sum
theorem totD_snoc (ll:List (List Deed))(l:List Deed):totD (ll++[l])=totD ll+l.length:=by simp [totD]
theorem totD_le:∀{ll:List (List Deed)}{l:List Deed},l∈ll->l.length<=totD ll
 |a::ll,l,h=>by
  have e:totD (a::ll)=a.length+totD ll:=by simp [totD]
  rcases List.mem_cons.1 h with rfl|h
  ·omega
  ·have:=totD_le h;omega
theorem chk16 (h:chks [d]=0)(hk:d.kind=5):1<=d.entries/\d.entries<=64/\d=⟨5,d.entries,1,0,0⟩:=by
 have⟨kd,en',wd,bk,inn⟩:=d;have hk:kd=5:=hk;subst hk;have e:chks [⟨5,en',wd,bk,inn⟩]=chk [⟨5,en',wd,bk,inn⟩] ⟨5,en',wd,bk,inn⟩:=by
  show (if (1:Int)>10 then (19:Int) else if chk _ _≠0 then chk _ _ else 0)=_;rw [if_neg (by omega)];split<;>omega
 rw [e] at h;unfold chk at h;have hw:(kindD 5).words=1:=rfl;have hb:(kindD 5).buckets=false:=rfl;have hb2:(kindD 5).bucketed=false:=rfl;have hn:(kindD 5).nested=false:=rfl;rw [if_neg (by show ¬(kindOf 5).isSome=false;decide)] at h;by_cases h2:en'<1∨en'>64∨wd<1∨wd>(kindD 5).words
 ·rw [if_pos h2] at h;cases h
 rw [if_neg h2] at h;by_cases h3:(kindD 5).buckets=true/\¬pow bk∨(kindD 5).buckets=false/\bk≠0
 ·rw [if_pos h3] at h;cases h
 rw [if_neg h3,if_neg (by rw [hn];decide)] at h;by_cases h4:inn≠0
 ·rw [if_pos h4] at h;cases h
 rw [hw] at h2;rw [hb] at h3;have e1:bk=0:=Classical.byContradiction λhh=>h3 (.inr ⟨rfl,hh⟩)
 have e2:inn=0:=Classical.byContradiction h4;have e3:wd=1:=by omega
 subst e1;subst e2;subst e3;exact ⟨by show 1<=en';omega,by show en'<=64;omega,rfl⟩
theorem big16_s {pa:Option Addr}{pn:Nat}(o:DeedsLL H0 la n ll)(hl:∀l∈ll,l.length<=140737488355328)(hnb:n<=140737488355328)(h:Sep H L)(hm:old H0∈L)
  (hR1:∀H',Sep H' L->R (.bool true) H')(hR2:chks [d]=0->d.kind=5->1<=n/\n<=4->totD ll<=80->pn<=3000->∀H',Sep H' L->R (.bool false) H'):CA en F.crossbarlaw16_Big [.agg #[I d.kind,I d.entries,I d.words,I d.buckets,I d.inner],.slice la n 0,.slice pa pn 0] H R:=by
 apply vc_crossbarlaw16_Big;have hln:=o.len;have hbd:∀j,j<=ll.length->totD (ll.take j)<=j*140737488355328:=by
  intro j
  induction j with
  |zero=>intro _;simp [totD]
  |succ j ih=>
   intro hj;have hj':j<ll.length:=by omega
   rw [List.take_succ_eq_append_getElem hj',totD_snoc]
   have:=hl _ (List.getElem_mem hj')
   have:=ih (by omega)
   omega
 refine Sep.nw h λi1 H2 h2=>?_
 refine use_crossbarlaw16_Big_0 (λk t7 t8 H'=>∃j:Nat,j<=ll.length/\k=ll.length - j/\t8=(j:Int)/\(n<=4->t7=(totD (ll.take j):Int))/\Sep H' (bx i1 (.cells true 0 [I d.kind,I d.entries,I d.words,I d.buckets,I d.inner])::L)) ll.length ⟨0,by omega,rfl,rfl,λ_=>by simp [totD],h2⟩ ?_;clear h h2;rintro k t7 t8 ys H3 ⟨j,hj,rfl,rfl,ht,hs⟩;refine cond_of (λw=>?_) λw=>?_
 ·have w:j<ll.length:=by have:=of_decide_eq_true w;omega
  obtain ⟨i,a',n',rfl,e1,o'⟩:=o.at' hs (by simp [hm]) (List.getElem?_eq_getElem w);have e:totD (ll.take (j+1))=totD (ll.take j)+n':=by rw [List.take_succ_eq_append_getElem w,totD_snoc,o'.len]
  refine ⟨by unfold inB;omega,asRow_in ⟨_,_,e1,ll.length - (j+1),by omega,j+1,by omega,rfl,?_,λh4=>?_,hs⟩⟩
  ·rw [wrap_i64 (by omega)];omega
  ·have b1:=hbd j hj;have b2:=hl _ (List.getElem_mem w);rw [<-o'.len] at b2;have b3:j*140737488355328<=4*140737488355328:=Nat.mul_le_mul_right _ (by omega);rw [ht h4,wrap_i64 (by omega)];omega
 ·have w:j=ll.length:=by have:=of_decide_eq_false w;omega
  subst w;rw [List.take_length] at ht;refine asInt_in ⟨_,_,_,_,_,Sep.lds0 hs rfl,Sep.nw hs λi11 H12 h12=>?_⟩;refine Check_ok (l:=[d]) ⟨rfl,.inr ⟨i11,true,5,rfl,h12.footlt (by simp [bx]),Sep.get0 h12⟩⟩ λH14 fr=>⟨_,rfl,?_⟩
  have h14:=h12.keep fr;have out:=h14.tail.tail;refine cond_of (λ_=>hR1 H14 out) λw1=>⟨_,Sep.ld1 h14 rfl,cond_of (λ_=>hR1 H14 out) λw2=>cond_of (λ_=>hR1 H14 out) λw3=>cond_of (λ_=>hR1 H14 out) λw4=>cond_of (λ_=>hR1 H14 out) λw5=>?_⟩
  have w1:chks [d]=0:=by simpa using w1
  have w2:d.kind=5:=by simpa using w2
  have w3:=of_decide_eq_false w3;have w4:=of_decide_eq_false w4;have w5:=of_decide_eq_false w5;by_cases hp:pn<=3000
  ·have e:decide (((pn:Nat):Int)>3000)=false:=by rw [decide_eq_false_iff_not];omega
   rw [e];exact hR2 w1 w2 (by omega) (by have:=ht (by omega);omega) hp H14 out
  ·have e:decide (((pn:Nat):Int)>3000)=true:=by rw [decide_eq_true_iff];omega
   rw [e];exact hR1 H14 out
end
section
variable {H H' H0:Heap} {R:Value->Heap->Prop} {L:List Asr} {c:Lc} {z:Sd} {la:Option Addr} {m:Nat} {S:Sm}
theorem newG3_s {n:Int}(hs:Sep H (mem m S::L))(hR:∀H' g mi,IsG H' g m ⟨n,mi,[],[],S⟩ L->R (P g) H'):CA en F.grace_New [I n,P m] H R:=by
 apply vc_grace_New;refine im_new (ik:=.i64) hs λmi H2 h2=>Sep.nw h2 λg H4 h4=>hR H4 g mi ⟨none,[],λ_=>rfl,λ_=>rfl,?_⟩
 have h5:Sep H4 (wm []::bx g (.cells true 0 [P m,I n,.map (some mi),.slice none 0 0])::im .i64 mi []::mem m S::L):=Sep.many0 h4;have h6:Sep H4 (gl 2 none []::wm []::bx g (.cells true 0 [P m,I n,.map (some mi),.slice none 0 0])::im .i64 mi []::mem m S::L):=gl_none.2 h5;exact Sep.pick h6 5 [2,3,0,1,4] (by decide)
theorem chk_lru {n:Int}(h:1<=n/\n<=64):chks [⟨5,n,1,0,0⟩]=0:=by
 have e1:¬(n<1):=by omega
 have e2:¬(n>64):=by omega
 simp [chks,firstBad,chk,kindOf,kindD,e1,e2]
abbrev lcN (x m g:Nat)(n cp:Int):Lc:=⟨x,m,g,5,n,1,0,0,1,cp⟩
theorem lnew3_s {g:Nat}{X:Gx}{n cp:Int}(hn:1<=n/\n<=64)(h:Sep H (grA g m X::L))(hm:X.G.S.made=0)(hf:X.G.S.fresh)(hroom:4<=X.G.S.room)
  (hR:∀H' x b,Sep H' (xA (lcN x m g n cp)::grA g m (X.to (X.G.S.mk' b 4))::L)->R (.tuple #[P x,I 0]) H'):CA en F.lru_New [P m,P g,.agg #[I 5,I n,I 1,I 0,I 0],I 1] H R:=by
 apply vc_lru_New;refine Sep.nw h λi1 H2 h2=>⟨_,_,_,_,_,Sep.lds0 h2 rfl,Sep.nw h2 λi8 H9 h9=>?_⟩
 refine Check_ok (l:=[⟨5,n,1,0,0⟩]) ⟨rfl,.inr ⟨i8,true,5,rfl,h9.footlt (by simp [bx]),Sep.get0 h9⟩⟩ λH11 fr=>⟨_,rfl,?_⟩
 have h11:=(h9.keep fr).tail;rw [chk_lru hn];refine cond_no rfl ⟨_,Sep.ld0 h11 rfl,cond_no rfl ?_⟩;refine gmake_s (Sep.up1 h11) hf λH15 b h15=>⟨_,_,rfl,?_⟩
 have e:X.G.S.make b 4=((1,0),X.G.S.mk' b 4):=by
  unfold Sm.make;rw [if_neg (by omega),if_neg (by omega),hm];rfl
 rw [e] at h15⊢;refine cond_no rfl ⟨_,_,_,_,_,Sep.lds1 h15 rfl,Sep.nw h15 λx H24 h24=>?_⟩;exact hR H24 x b (Sep.pick h24 3 [0,1] (by decide))
structure New0 (c:Lc)(G:Gr)(N:Nat):Prop where
 mem:Mem c (cxT 0) G [] [] (lenW [])
 ins:G.ins=[]
 n:G.n=N
 made:G.S.made=1
 count:G.S.count=0
 live:G.S.regs.length=1
 dr:Dr c G.S (tick 0 0)
 d1:1<=c.d1/\c.d1<=64
theorem new0 {mp mi b x m g N:Nat}{n room:Int}(hn:1<=n/\n<=64)(hr:4<=room/\room<=20000) :
  New0 (lcN x m g n (room - 4)) (⟨N,mi,[],[],(newSm mp room).mk' b 4⟩:Gr) N:=by
 have hc:clampRoom room=room:=by rw [clampRoom_eq];omega
 have hw:wr ((newSm mp room).made+1)=1:=wrs (by simp [newSm]);have hV:((newSm mp room).mk' b 4).V 1=some [0,0,0,0]:=by
  rw [V_mk b 4 rfl,hw,if_pos rfl];rfl
 have hk:((newSm mp room).mk' b 4).regs.map Reg.h=[1]:=by
  show [wr ((newSm mp room).made+1)]=[1];rw [hw]
 have hmd:((newSm mp room).mk' b 4).made=1:=hw;have hrm:((newSm mp room).mk' b 4).room=room - 4:=by
  show wr (clampRoom room - 4)=room - 4;rw [hc];exact wrs (by omega)
 refine ⟨⟨⟨⟨by simp,by simp,by simp⟩,by simp⟩,⟨0,trivial,hV⟩,trivial,by simp,?_,?_,?_,?_,?_,?_,?_,rfl⟩,rfl,rfl,hmd,rfl,rfl,⟨0,0,0,hV⟩,hn⟩
 ·show (((newSm mp room).mk' b 4).regs.map Reg.h).Perm _;rw [hk];exact List.Perm.refl _
 ·show ∀h∈((newSm mp room).mk' b 4).regs.map Reg.h,1<=h/\h<=((newSm mp room).mk' b 4).made;rw [hk,hmd];intro h hh;simp only [List.mem_singleton] at hh;omega
 ·show (((newSm mp room).mk' b 4).regs.map Reg.h).Nodup;rw [hk];simp
 ·show 0<=((newSm mp room).mk' b 4).made/\((newSm mp room).mk' b 4).made<_;rw [hmd];decide
 ·show ((newSm mp room).mk' b 4).room+_=room - 4;rw [hrm];simp
 ·show 0<=((newSm mp room).mk' b 4).room;rw [hrm];omega
 ·show room - 4<=20000;omega
theorem rep_get {N j:Nat}{p:Ph}(h:(List.replicate N Ph.out)[j]? =some p):p=.out:=(List.mem_replicate.1 (List.mem_of_getElem? h)).2
theorem wo_new {G:Gr}{N:Nat}(w:New0 c G N):Wo c (List.replicate N .out) [] 0 [] ⟨[],[]⟩ [] G:=by
 have no:∀{j:Nat}{p:Ph}{α:Prop},(List.replicate N Ph.out)[j]? =some p->p≠.out->α:=λh h2=>absurd (rep_get h) h2
 refine ⟨⟨w.dr,List.nodup_nil,λj=>?_,(λi j q hi=>by simp at hi),(λj q hj=>no hj (λe=>by cases e)),(λi j p hi=>by simp at hi)⟩,⟨w.d1,⟨rfl,by simp,rfl⟩,List.nodup_nil,by have:=w.d1;simp;omega,by simp,List.nodup_nil,(λi a u h=>by simp at h)⟩,λ_=>w.mem,(λj q n had m0 hj=>no hj (λe=>by cases e)),λj hj=>?_,by rw [w.n];simp,(λj h hj=>no hj (λe=>by cases e))⟩
 ·constructor
  ·intro h;simp at h
  ·rintro ⟨p,hp,hi⟩;rw [rep_get hp] at hi;cases hi
 ·rw [w.ins];constructor
  ·intro h;simp at h
  ·intro h;exact absurd (by rw [List.getElem?_replicate,if_pos (by simpa using hj)]) h
def rs (i:Nat):Asr:=⟨[i],λ_=>True,λ_ h=>h⟩
theorem Sep.rs2 (h:Sep H L){n a b:Nat}(ha:a<n)(hb:b<n)(hab:b≠a):Sep (H.bump n) (rs (H.next+b)::rs (H.next+a)::L):=by
 have hB:=h.bump n;refine ⟨λA hA=>?_,?_,λi hi=>?_⟩
 ·rcases List.mem_cons.1 hA with rfl|hA
  ·trivial
  rcases List.mem_cons.1 hA with rfl|hA
  ·trivial
  ·exact hB.all A hA
 ·rw [feet_cons,feet_cons];show ([H.next+b]++([H.next+a]++feet L)).Nodup;simp only [List.singleton_append,List.nodup_cons,List.mem_cons,not_or];exact ⟨⟨by omega,λhc=>by have:=h.lt _ hc;omega⟩,λhc=>by have:=h.lt _ hc;omega,hB.nd⟩
 ·rw [feet_cons,feet_cons] at hi;have hi:i∈[H.next+b]++([H.next+a]++feet L):=hi;simp only [List.singleton_append,List.mem_cons] at hi;rw [next_bump];rcases hi with rfl|rfl|hi
  ·omega
  ·omega
  ·have:=h.lt _ hi;omega
theorem Sep.lay {i:Nat}(o:AS.Obj)(h:Sep H (rs i::L)):Sep (H.set i o) (bx i o::L):=
 Sep.fore o h.tail (h.lt i (by rw [feet_cons];exact List.mem_append_left _ (List.mem_singleton_self i))) (by
  have:=h.nd
  rw [feet_cons] at this
  exact (List.nodup_cons.1 this).1)
theorem dnew2_s {d:D5}(h:Sep H L)(hR:∀H',Sep H' (y16 (H.next+1) d none none ⟨[],[]⟩::l16 none ⟨[],[]⟩::w16 none ⟨[],[]⟩::L)->R (P (H.next+1)) H') :
  CA en F.crossbarref16_New [.agg #[I d.a,I d.b,I d.c,I d.d,I d.e]] H R:=by
 apply vc_crossbarref16_New;refine Sep.nwx' h λh2=>⟨_,_,_,_,_,Sep.lds0 h2 rfl,Sep.nwx' h2 λh9=>?_⟩
 have e:(H.new (.cells true 0 [I d.a,I d.b,I d.c,I d.d,I d.e])).next=H.next+1:=by rw [next_new]
 rw [e] at h9⊢;refine hR _ ?_;have h1:=gl_none (es:=2) (cs:=(prows []).flatten).2 (gl_none (es:=1) (cs:=([]:List Wd).map W).2 (Sep.rm1 h9));exact Sep.up2 h1
abbrev kb0:Kb:=⟨0,0,0,0,0,0,none,0,0,0,0,none,none,0,0,none,[],0,0,false,0,none,[],0,0,none,[],0⟩
theorem many_nils16 (h:Sep H L):∀n:Nat,Sep H (many (List.replicate n (agA kb0 []))::L)
 |0=>Sep.many0 h
 |n+1=>by
  refine Sep.many_iff.2 ?_
  rw [List.replicate_succ]
  have h1:=Sep.many_iff.1 (many_nils16 h n)
  have h2:Sep H (gl 1 none (wds [])::gl 1 none (wds [])::gl 1 none (wds [])::(List.replicate n (agA kb0 [])++L)):=gl_none.2 (gl_none.2 (gl_none.2 h1))
  exact Sep.many_iff.2 h2
set_option maxHeartbeats 1000000 in
theorem begin16_s {E room : Int} {n : Nat} (hE : 1 ≤ E ∧ E ≤ 64) (hn : 1 ≤ n ∧ n ≤ 4) (h : Sep H [old H0])
    (hR : ∀ H' c z u X AB, c.d1 = E → z.n = n → z.la = la → z.base = 1 → New0 c X.G n → St H0 c z (List.replicate n .out) (List.replicate n kb0) [] 0 [] ⟨[], []⟩ [] X u AB H' → R (P z.s) H') :
    CA en F.crossbarlaw16_begin [.agg #[I 5, I E, I 1, I 0, I 0], .slice la n 0, I room] H R := by
  apply vc_crossbarlaw16_begin
  refine Sep.nw h fun i1 H2 h2 => Cut_ok ⟨_, rfl, ?_⟩
  generalize hcut : max 0 (min room 8192) = cu
  have hcu : 0 ≤ cu ∧ cu ≤ 8192 := by omega
  rw [wrap_i64 (by omega)]
  refine new_s h2 fun H7 m mp h7 => ⟨_, rfl, cond_no rfl ?_⟩
  refine newG3_s h7 fun H10 g mi hg => ⟨_, rfl, ?_⟩
  obtain ⟨X, eX, h11⟩ := isG_gr hg
  refine ⟨_, _, _, _, _, Sep.lds1 h11 rfl, ?_⟩
  have hc : clampRoom (16 + cu) = 16 + cu := by rw [clampRoom_eq]; omega
  refine lnew3_s (cp := 16 + cu - 4) hE h11 (by rw [eX]; rfl) (by rw [eX]; rfl) (by rw [eX]; show 4 ≤ clampRoom (16 + cu); rw [hc]; omega) fun H18 x b h18 => ⟨_, _, rfl, cond_no rfl (cond_no rfl (cond_no rfl ?_))⟩
  have w0 : New0 (lcN x m g E (16 + cu - 4)) (X.to (X.G.S.mk' b 4)).G n := by
    show New0 _ (X.G.mem (X.G.S.mk' b 4)) n
    rw [eX]; exact new0 hE (by omega)
  generalize X.to (X.G.S.mk' b 4) = X1 at h18 w0
  -- x gr i1 old
  have hB := h18.bump 14
  refine ⟨_, _, _, _, _, Sep.lds2 hB rfl, ?_⟩
  have hr := Sep.rs2 h18 (n := 14) (a := 8) (b := 12) (by decide) (by decide) (by decide)
  have e1 : (H18.bump 14).next = H18.next + 14 := by rw [next_bump]
  refine dnew2_s (d := ⟨5, E, 1, 0, 0⟩) hr fun H27 h27 => ⟨_, rfl, ⟨by omega, Int.le_refl _, by omega⟩, ?_⟩
  -- y l w rs12 rs8 x gr i1 old
  have h28 := Sep.lay (.cells true 24 (reps ((n : Nat) : Int).toNat [I 0, I 0, I 0, I 0, I 0, W 0, .slice none 0 0, I 0, I 0, W 0, .pointer none, .pointer none, I 0, W 0, .slice none 0 0, I 0, I 0, .bool false, I 0, .slice none 0 0, W 0, I 0, .slice none 0 0, I 0])) (Sep.up4 h27)
  refine glive_s (Sep.up6 h28) ⟨_, rfl, ?_⟩
  rw [w0.live, e1]
  -- the second pass
  have hS1 := Sep.lay (.cells true 24 (reps ((n : Nat) : Int).toNat [I 0, I 0, I 0, I 0, I 0, W 0, .slice none 0 0, I 0, I 0, W 0, .pointer none, .pointer none, I 0, W 0, .slice none 0 0, I 0, I 0, .bool false, I 0, .slice none 0 0, W 0, I 0, .slice none 0 0, I 0])) (Sep.up1 hr)
  have hS2 := Sep.lay (.cells true 0 [P m, P g, P x, P (H18.next + 14 + 1), .slice la n 0, .slice (some ⟨H18.next + 8, 0, none⟩) ((n : Nat) : Int).toNat 0, .slice none 0 0, .slice none 0 0, I ((1 : Nat) : Int)]) (Sep.up1 hS1)
  -- s all x gr i1 old
  refine ⟨_, _, _, _, _, Sep.lds4 hS2 rfl, ?_⟩
  have e2 : ∀ o1 o2, (((H18.bump 14).set (H18.next + 8) o1).set (H18.next + 12) o2).next = H18.next + 14 := fun _ _ => by rw [next_set, next_set, next_bump]
  refine dnew2_s (d := ⟨5, E, 1, 0, 0⟩) hS2 fun H38 h38 => ⟨_, rfl, ⟨by omega, Int.le_refl _, by omega⟩, ?_⟩
  rw [e2] at h38
  -- y l w s all x gr i1 old
  refine glive_s (Sep.up6 h38) ⟨_, rfl, ?_⟩
  rw [w0.live, e2]
  have s1 : ∀ v ∈ [P m, P g, P x, P (H18.next + 14 + 1), .slice la n 0, .slice (some ⟨H18.next + 8, 0, none⟩) ((n : Nat) : Int).toNat 0, .slice none 0 0, .slice none 0 0, I ((1 : Nat) : Int)], sameN 8 v v = true := by
    intro v hv
    simp only [List.mem_cons, List.not_mem_nil, or_false] at hv
    rcases hv with rfl | rfl | rfl | rfl | rfl | rfl | rfl | rfl | rfl <;> simp [sameN]
  have s2 : ∀ v ∈ reps ((n : Nat) : Int).toNat [I 0, I 0, I 0, I 0, I 0, W 0, .slice none 0 0, I 0, I 0, W 0, .pointer none, .pointer none, I 0, W 0, .slice none 0 0, I 0, I 0, .bool false, I 0, .slice none 0 0, W 0, I 0, .slice none 0 0, I 0], sameN 8 v v = true := by
    intro v hv
    have hv := mem_reps hv
    simp only [List.mem_cons, List.not_mem_nil, or_false] at hv
    rcases hv with rfl | rfl | rfl | rfl | rfl | rfl | rfl | rfl | rfl | rfl | rfl | rfl | rfl | rfl | rfl | rfl | rfl | rfl | rfl | rfl | rfl | rfl | rfl | rfl <;> simp [sameN]
  have hl : okLen 256 (n : Int) (n : Int) := ⟨by omega, Int.le_refl _, by omega⟩
  have er : reps ((n : Nat) : Int).toNat [I 0, I 0, I 0, I 0, I 0, W 0, .slice none 0 0, I 0, I 0, W 0, .pointer none, .pointer none, I 0, W 0, .slice none 0 0, I 0, I 0, .bool false, I 0, .slice none 0 0, W 0, I 0, .slice none 0 0, I 0] = ((List.replicate n kb0).map Kb.cells).flatten := by
    rw [Int.toNat_natCast, reps_flat, List.map_replicate]; rfl
  refine ⟨hR H38 (lcN x m g E (16 + cu - 4)) ⟨H18.next + 12, H18.next + 8, n, H18.next + 14 + 1, la, ⟨5, E, 1, 0, 0⟩, 1⟩ ⟨none, none, none, none, []⟩ X1 (List.replicate n (agA kb0 [])) rfl rfl rfl rfl w0 ⟨⟨by simp, by simp, by simp, hn.1, hn.2⟩, rfl, wo_new w0, ⟨fun _ => rfl, fun _ => rfl, by simp; omega, hE.1, hE.2, by simp, by simp, by simp⟩, ⟨by simp, by simp, by simp, by simp, by simp, fun _ => rfl, fun _ => rfl⟩, fun j p a A hp ha hA => ?_, ?_⟩, ⟨⟨_, Sep.get3 h38, sameObj_refl s1⟩, trivial⟩, ⟨⟨hl, _, Sep.get1 hS2, sameObj_refl s2⟩, ⟨hl, _, Sep.get4 h38, sameObj_refl s2⟩, ⟨hl, _, Sep.get4 h38, sameObj_refl s2⟩, trivial⟩, ⟨rfl, rfl, rfl, trivial⟩, trivial⟩
  · rw [rep_get hp]
    obtain ⟨_, rfl⟩ := List.mem_replicate.1 (List.mem_of_getElem? ha)
    obtain ⟨_, rfl⟩ := List.mem_replicate.1 (List.mem_of_getElem? hA)
    exact ⟨[], rfl, .out rfl, ⟨fun _ => rfl, fun _ => rfl, fun _ => rfl⟩⟩
  · rw [er, Int.toNat_natCast] at h38
    have h39 := Sep.pick h38 9 [4, 3, 0, 1, 2, 5, 6, 8] (by decide)
    -- all s y l w x gr old
    have h40 := many_nils16 (gl_none (es := 1) (cs := []).2 (gl_none (es := 1) (cs := []).2 h39)) n
    -- AB A B all s y l w x gr old
    exact Sep.pick h40 11 [3, 4, 5, 6, 7, 1, 2, 8, 9, 0, 10] (by decide)
end
section
set_option maxRecDepth 100000
set_option maxHeartbeats 2000000
noncomputable def L_crossbarlaw16_LruRuns_0:Code:=loopAt Go.Proofs.Tryz.f10 0
noncomputable def L_crossbarlaw16_LruRuns_1:Code:=loopAt Go.Proofs.Tryz.f10 1
theorem vc_crossbarlaw16_LruRuns (x0_0:Int)(x0_1:Int)(x0_2:Int)(x0_3:Int)(x0_4:Int)(x1:Option Addr)(x1l:Nat)(x2_0:Option Addr)(x2_0l:Nat)(x2_1:Int)(H:Heap)(R:Value->Heap->Prop) :
  (
 nwH H (.cells true 0 [(.int .i64 x0_0),(.int .i64 x0_1),(.int .i64 x0_2),(.int .i64 x0_3),(.int .i64 x0_4)]) λi1 H2=>
 nwH H2 (.cells true 0 [(.slice x2_0 x2_0l 0),(.int .i64 x2_1)]) λi3 H4=>
 ∃n5,∃n6,∃n7,∃n8,∃n9,H4.cellsAt i1 0 5=some [(.int .i64 n5),(.int .i64 n6),(.int .i64 n7),(.int .i64 n8),(.int .i64 n9)]/\
 ∃a10 i11,H4.cell i3 0=some (.slice a10 i11 0)/\
 CA en F.crossbarlaw16_Big [(.agg #[(.int .i64 n5),(.int .i64 n6),(.int .i64 n7),(.int .i64 n8),(.int .i64 n9)]),(.slice x1 x1l 0),(.slice a10 i11 0)] H4 λv12 H13=>
 ∃b14,v12=(.bool b14)/\
 bif b14 then (
 CA en F.crossbarlaw16_known [] H13 λv15 H16=>
 ∃b17,v15=(.bool b17)/\
 R (.bool b17) H16)
 else (
 ∃n18,∃n19,∃n20,∃n21,∃n22,H13.cellsAt i1 0 5=some [(.int .i64 n18),(.int .i64 n19),(.int .i64 n20),(.int .i64 n21),(.int .i64 n22)]/\
 ∃n23,H13.cell i3 1=some (.int .i64 n23)/\
 CA en F.crossbarlaw16_begin [(.agg #[(.int .i64 n18),(.int .i64 n19),(.int .i64 n20),(.int .i64 n21),(.int .i64 n22)]),(.slice x1 x1l 0),(.int .i64 n23)] H13 λv24 H25=>
 ∃a26,v24=(.pointer a26)/\
 bif a26.isNone then (
 R (.bool false) H25)
 else (
 LA en L_crossbarlaw16_LruRuns_0 [(.agg #[(.int .i64 x0_0),(.int .i64 x0_1),(.int .i64 x0_2),(.int .i64 x0_3),(.int .i64 x0_4)]),(.slice x1 x1l 0),(.agg #[(.slice x2_0 x2_0l 0),(.int .i64 x2_1)]),(.pointer (some ⟨i1,0,none⟩)),undef,(.pointer (some ⟨i3,0,none⟩)),(.bool false),(.pointer a26),(.int .i64 0),undef,undef,(.agg #[(.int .i64 n5),(.int .i64 n6),(.int .i64 n7),(.int .i64 n8),(.int .i64 n9)]),(.slice x1 x1l 0),(.pointer (some ⟨i3,0,none⟩)),(.slice a10 i11 0),(.bool false),undef,(.agg #[(.int .i64 n18),(.int .i64 n19),(.int .i64 n20),(.int .i64 n21),(.int .i64 n22)]),(.slice x1 x1l 0),(.pointer (some ⟨i3,1,none⟩)),(.int .i64 n23),(.pointer a26),(.pointer a26),(.bool false),undef,undef,undef,undef,undef,undef,undef,undef,undef,undef,undef,undef,undef,undef,undef,undef,undef,undef,undef,undef,undef,undef,undef,undef,undef,undef,undef,undef,undef,undef,undef,undef,undef,undef,undef,undef,undef,undef,undef,undef,undef,undef,undef,undef,undef] H25 [(X.exit 0,λ(y27:Fr)(H28:Heap)=>
 AS.asBool (y27.getD 6 undef) λb29=>
 LA en L_crossbarlaw16_LruRuns_1 [(.agg #[(.int .i64 x0_0),(.int .i64 x0_1),(.int .i64 x0_2),(.int .i64 x0_3),(.int .i64 x0_4)]),(.slice x1 x1l 0),(.agg #[(.slice x2_0 x2_0l 0),(.int .i64 x2_1)]),(.pointer (some ⟨i1,0,none⟩)),undef,(.pointer (some ⟨i3,0,none⟩)),(.bool b29),(.pointer a26),(y27.getD 8 undef),(.int .i64 0),(.int .i64 0),(.agg #[(.int .i64 n5),(.int .i64 n6),(.int .i64 n7),(.int .i64 n8),(.int .i64 n9)]),(.slice x1 x1l 0),(.pointer (some ⟨i3,0,none⟩)),(.slice a10 i11 0),(.bool false),undef,(.agg #[(.int .i64 n18),(.int .i64 n19),(.int .i64 n20),(.int .i64 n21),(.int .i64 n22)]),(.slice x1 x1l 0),(.pointer (some ⟨i3,1,none⟩)),(.int .i64 n23),(.pointer a26),(.pointer a26),(.bool false),(y27.getD 24 undef),(y27.getD 25 undef),(y27.getD 26 undef),(y27.getD 27 undef),(y27.getD 28 undef),(y27.getD 29 undef),(y27.getD 30 undef),(y27.getD 31 undef),(y27.getD 32 undef),(y27.getD 33 undef),(y27.getD 34 undef),(y27.getD 35 undef),(y27.getD 36 undef),(y27.getD 37 undef),(y27.getD 38 undef),(y27.getD 39 undef),(y27.getD 40 undef),(y27.getD 41 undef),undef,undef,undef,undef,undef,undef,undef,undef,undef,undef,undef,undef,undef,undef,undef,undef,undef,undef,undef,undef,undef,undef,undef,undef,undef,undef,undef] H28 [(X.exit 2,λ(y30:Fr)(H31:Heap)=>
 AS.asInt .i64 (y30.getD 9 undef) λn32=>
 ∃n33,∃n34,∃n35,∃n36,∃n37,H31.cellsAt i1 0 5=some [(.int .i64 n33),(.int .i64 n34),(.int .i64 n35),(.int .i64 n36),(.int .i64 n37)]/\
 nwH H31 (.cells true 5 [(.int .i64 n33),(.int .i64 n34),(.int .i64 n35),(.int .i64 n36),(.int .i64 n37)]) λi38 H39=>
 ∃n40,H39.cell i1 1=some (.int .i64 n40)/\
 CA en F.crossbarkit_Rounds [(.slice (some ⟨i38,0,none⟩) 1 0),(.int .i64 (IntKind.i64.wrap (n32*(IntKind.i64.wrap ((IntKind.i64.wrap (2*n40))+6)))))] H39 λv41 H42=>
 ∃n43,v41=(.int .i64 n43)/\
 CA en F.crossbarlaw16_side_rest [(.pointer a26),(.int .i64 n43)] H42 λv44 H45=>
 ∃b46,v44=(.bool b46)/\
 bif b46 then (
 CA en F.crossbarlaw16_known [] H45 λv47 H48=>
 ∃b49,v47=(.bool b49)/\
 R (.bool b49) H48)
 else (
 R (.bool false) H45))]),
 (X.ret,λ(y50:Fr)(H51:Heap)=>
 AS.asBool (y50.getD 6 undef) λb52=>
 R (.bool b52) H51)])))->
  CA en F.crossbarlaw16_LruRuns [(.agg #[(.int .i64 x0_0),(.int .i64 x0_1),(.int .i64 x0_2),(.int .i64 x0_3),(.int .i64 x0_4)]),(.slice x1 x1l 0),(.agg #[(.slice x2_0 x2_0l 0),(.int .i64 x2_1)])] H R:=by
 intro h;refine wpFn_ok (Z:=[[(6,(.bool false))],[(9,(.int .i64 0))]]) (fn:=Go.Proofs.Tryz.f10) ?_ ?_ ?_
 ·kernel_rfl
 ·kernel_rfl
 ·apply turnInto h
  kernel_rfl
theorem use_crossbarlaw16_LruRuns_0 {t0_0:Int}{t0_1:Int}{t0_2:Int}{t0_3:Int}{t0_4:Int}{t1:Option Addr}{t1l:Nat}{t2_0:Option Addr}{t2_0l:Nat}{t2_1:Int}{t3:Nat}{t5:Nat}{t7:Option Addr}{t11_0:Int}{t11_1:Int}{t11_2:Int}{t11_3:Int}{t11_4:Int}{t12:Option Addr}{t12l:Nat}{t13:Nat}{t14:Option Addr}{t14l:Nat}{t17_0:Int}{t17_1:Int}{t17_2:Int}{t17_3:Int}{t17_4:Int}{t18:Option Addr}{t18l:Nat}{t19:Nat}{t20:Int}{t21:Option Addr}{t22:Option Addr}{K0:Fr->Heap->Prop}{K1:Fr->Heap->Prop}{t6:Bool}{t8:Int}{t24:Value}{t25:Value}{t26:Value}{t27:Value}{t28:Value}{t29:Value}{t30:Value}{t31:Value}{t32:Value}{t33:Value}{t34:Value}{t35:Value}{t36:Value}{t37:Value}{t38:Value}{t39:Value}{t40:Value}{t41:Value}{H:Heap}(I:Nat->Bool->Int->Heap->Prop)(n:Nat)(h0:I n t6 t8 H)
  (hstep:∀(n:Nat)(t6:Bool)(t8:Int)(ys:Fr)(H:Heap),I n t6 t8 H->
  (
 ∃a1 i2,H.cell t5 0=some (.slice a1 i2 0)/\
 bif (decide (t8<((i2:Nat):Int))) then (
 ∃a3 i4,H.cell t5 0=some (.slice a3 i4 0)/\
 inB t8 i4/\
 asRow a3 λi5 i6=>
 ∃n7,H.cell i5 (i6+(t8.toNat*1))=some (.int .i64 n7)/\
 CA en F.crossbarkit_Pick [(.int .i64 n7),(.int .i64 ((t1l:Nat):Int))] H λv8 H9=>
 ∃n10,v8=(.int .i64 n10)/\
 CA en F.crossbarlaw16_side_step [(.pointer t7),(.int .i64 n10)] H9 λv11 H12=>
 ∃b13,v11=(.bool b13)/\
 bif (!b13) then (
 K1 [(.agg #[(.int .i64 t0_0),(.int .i64 t0_1),(.int .i64 t0_2),(.int .i64 t0_3),(.int .i64 t0_4)]),(.slice t1 t1l 0),(.agg #[(.slice t2_0 t2_0l 0),(.int .i64 t2_1)]),(.pointer (some ⟨t3,0,none⟩)),undef,(.pointer (some ⟨t5,0,none⟩)),(.bool false),(.pointer t7),(.int .i64 t8),undef,undef,(.agg #[(.int .i64 t11_0),(.int .i64 t11_1),(.int .i64 t11_2),(.int .i64 t11_3),(.int .i64 t11_4)]),(.slice t12 t12l 0),(.pointer (some ⟨t13,0,none⟩)),(.slice t14 t14l 0),(.bool false),undef,(.agg #[(.int .i64 t17_0),(.int .i64 t17_1),(.int .i64 t17_2),(.int .i64 t17_3),(.int .i64 t17_4)]),(.slice t18 t18l 0),(.pointer (some ⟨t19,1,none⟩)),(.int .i64 t20),(.pointer t21),(.pointer t22),(.bool false),(.int .i64 t8),(.pointer (some ⟨t5,0,none⟩)),(.slice a1 i2 0),(.int .i64 ((i2:Nat):Int)),(.bool true),(ys.getD 29 undef),(ys.getD 30 undef),(.pointer t7),(.pointer (some ⟨t5,0,none⟩)),(.slice a3 i4 0),(.int .i64 t8),(.pointer (some ⟨i5,(i6+(t8.toNat*1)),none⟩)),(.int .i64 n7),(.slice t1 t1l 0),(.int .i64 ((t1l:Nat):Int)),(.int .i64 n10),(.bool b13),(.bool true),undef,undef,undef,undef,undef,undef,undef,undef,undef,undef,undef,undef,undef,undef,undef,undef,undef,undef,undef,undef,undef,undef,undef,undef,undef,undef,undef] H12)
 else (
 ∃k14,k14<n/\
 I k14 t6 (IntKind.i64.wrap (t8+1)) H12))
 else (
 K0 [(.agg #[(.int .i64 t0_0),(.int .i64 t0_1),(.int .i64 t0_2),(.int .i64 t0_3),(.int .i64 t0_4)]),(.slice t1 t1l 0),(.agg #[(.slice t2_0 t2_0l 0),(.int .i64 t2_1)]),(.pointer (some ⟨t3,0,none⟩)),undef,(.pointer (some ⟨t5,0,none⟩)),(.bool t6),(.pointer t7),(.int .i64 t8),undef,undef,(.agg #[(.int .i64 t11_0),(.int .i64 t11_1),(.int .i64 t11_2),(.int .i64 t11_3),(.int .i64 t11_4)]),(.slice t12 t12l 0),(.pointer (some ⟨t13,0,none⟩)),(.slice t14 t14l 0),(.bool false),undef,(.agg #[(.int .i64 t17_0),(.int .i64 t17_1),(.int .i64 t17_2),(.int .i64 t17_3),(.int .i64 t17_4)]),(.slice t18 t18l 0),(.pointer (some ⟨t19,1,none⟩)),(.int .i64 t20),(.pointer t21),(.pointer t22),(.bool false),(.int .i64 t8),(.pointer (some ⟨t5,0,none⟩)),(.slice a1 i2 0),(.int .i64 ((i2:Nat):Int)),(.bool false),(ys.getD 29 undef),(ys.getD 30 undef),(ys.getD 31 undef),(ys.getD 32 undef),(ys.getD 33 undef),(ys.getD 34 undef),(ys.getD 35 undef),(ys.getD 36 undef),(ys.getD 37 undef),(ys.getD 38 undef),(ys.getD 39 undef),(ys.getD 40 undef),(ys.getD 41 undef),undef,undef,undef,undef,undef,undef,undef,undef,undef,undef,undef,undef,undef,undef,undef,undef,undef,undef,undef,undef,undef,undef,undef,undef,undef,undef,undef] H))) :
  LA en L_crossbarlaw16_LruRuns_0 [(.agg #[(.int .i64 t0_0),(.int .i64 t0_1),(.int .i64 t0_2),(.int .i64 t0_3),(.int .i64 t0_4)]),(.slice t1 t1l 0),(.agg #[(.slice t2_0 t2_0l 0),(.int .i64 t2_1)]),(.pointer (some ⟨t3,0,none⟩)),undef,(.pointer (some ⟨t5,0,none⟩)),(.bool t6),(.pointer t7),(.int .i64 t8),undef,undef,(.agg #[(.int .i64 t11_0),(.int .i64 t11_1),(.int .i64 t11_2),(.int .i64 t11_3),(.int .i64 t11_4)]),(.slice t12 t12l 0),(.pointer (some ⟨t13,0,none⟩)),(.slice t14 t14l 0),(.bool false),undef,(.agg #[(.int .i64 t17_0),(.int .i64 t17_1),(.int .i64 t17_2),(.int .i64 t17_3),(.int .i64 t17_4)]),(.slice t18 t18l 0),(.pointer (some ⟨t19,1,none⟩)),(.int .i64 t20),(.pointer t21),(.pointer t22),(.bool false),t24,t25,t26,t27,t28,t29,t30,t31,t32,t33,t34,t35,t36,t37,t38,t39,t40,t41,undef,undef,undef,undef,undef,undef,undef,undef,undef,undef,undef,undef,undef,undef,undef,undef,undef,undef,undef,undef,undef,undef,undef,undef,undef,undef,undef] H [(X.exit 0,K0),(X.ret,K1)]:=by
 refine LA_rule (Z:=[]) (λm xs H'=>AS.asBool (xs.getD 6 undef) λt6=>AS.asInt .i64 (xs.getD 8 undef) λt8=>I m t6 t8 H') ?_ n H ?_
 ·intro n H
  suffices hs:∀s24:Value,∀s25:Value,∀s26:Value,∀s27:Value,∀s28:Value,∀s31:Value,∀s32:Value,∀s33:Value,∀s34:Value,∀s35:Value,∀s36:Value,∀s37:Value,∀s38:Value,∀s39:Value,∀s40:Value,∀s41:Value,∀s6:Value,∀s29:Value,∀s30:Value,∀s8:Value,((AS.asBool s6 λt6=>AS.asInt .i64 s8 λt8=>I n t6 t8 H)->wpCode en L_crossbarlaw16_LruRuns_0 [] [(.agg #[(.int .i64 t0_0),(.int .i64 t0_1),(.int .i64 t0_2),(.int .i64 t0_3),(.int .i64 t0_4)]),(.slice t1 t1l 0),(.agg #[(.slice t2_0 t2_0l 0),(.int .i64 t2_1)]),(.pointer (some ⟨t3,0,none⟩)),undef,(.pointer (some ⟨t5,0,none⟩)),s6,(.pointer t7),s8,undef,undef,(.agg #[(.int .i64 t11_0),(.int .i64 t11_1),(.int .i64 t11_2),(.int .i64 t11_3),(.int .i64 t11_4)]),(.slice t12 t12l 0),(.pointer (some ⟨t13,0,none⟩)),(.slice t14 t14l 0),(.bool false),undef,(.agg #[(.int .i64 t17_0),(.int .i64 t17_1),(.int .i64 t17_2),(.int .i64 t17_3),(.int .i64 t17_4)]),(.slice t18 t18l 0),(.pointer (some ⟨t19,1,none⟩)),(.int .i64 t20),(.pointer t21),(.pointer t22),(.bool false),s24,s25,s26,s27,s28,s29,s30,s31,s32,s33,s34,s35,s36,s37,s38,s39,s40,s41,undef,undef,undef,undef,undef,undef,undef,undef,undef,undef,undef,undef,undef,undef,undef,undef,undef,undef,undef,undef,undef,undef,undef,undef,undef,undef,undef] H (loopQ (λm xs H'=>AS.asBool (xs.getD 6 undef) λt6=>AS.asInt .i64 (xs.getD 8 undef) λt8=>I m t6 t8 H') n [(X.exit 0,K0),(X.ret,K1)])) by
   apply turnInto hs
   kernel_rfl
  intro s24 s25 s26 s27 s28 s31 s32 s33 s34 s35 s36 s37 s38 s39 s40 s41 s6 s29 s30 s8 hP;replace hP:=asBool_elim hP;obtain ⟨t6,rfl,hP⟩:=hP;replace hP:=asInt_elim hP;obtain ⟨t8,rfl,hP⟩:=hP;apply turnInto (hstep n t6 t8 [(.agg #[(.int .i64 t0_0),(.int .i64 t0_1),(.int .i64 t0_2),(.int .i64 t0_3),(.int .i64 t0_4)]),(.slice t1 t1l 0),(.agg #[(.slice t2_0 t2_0l 0),(.int .i64 t2_1)]),(.pointer (some ⟨t3,0,none⟩)),undef,(.pointer (some ⟨t5,0,none⟩)),(.bool t6),(.pointer t7),(.int .i64 t8),undef,undef,(.agg #[(.int .i64 t11_0),(.int .i64 t11_1),(.int .i64 t11_2),(.int .i64 t11_3),(.int .i64 t11_4)]),(.slice t12 t12l 0),(.pointer (some ⟨t13,0,none⟩)),(.slice t14 t14l 0),(.bool false),undef,(.agg #[(.int .i64 t17_0),(.int .i64 t17_1),(.int .i64 t17_2),(.int .i64 t17_3),(.int .i64 t17_4)]),(.slice t18 t18l 0),(.pointer (some ⟨t19,1,none⟩)),(.int .i64 t20),(.pointer t21),(.pointer t22),(.bool false),s24,s25,s26,s27,s28,s29,s30,s31,s32,s33,s34,s35,s36,s37,s38,s39,s40,s41,undef,undef,undef,undef,undef,undef,undef,undef,undef,undef,undef,undef,undef,undef,undef,undef,undef,undef,undef,undef,undef,undef,undef,undef,undef,undef,undef] H hP);kernel_rfl
 ·apply turnInto h0
  kernel_rfl
theorem use_crossbarlaw16_LruRuns_1 {t0_0:Int}{t0_1:Int}{t0_2:Int}{t0_3:Int}{t0_4:Int}{t1:Option Addr}{t1l:Nat}{t2_0:Option Addr}{t2_0l:Nat}{t2_1:Int}{t3:Nat}{t5:Nat}{t6:Bool}{t7:Option Addr}{t8:Value}{t11_0:Int}{t11_1:Int}{t11_2:Int}{t11_3:Int}{t11_4:Int}{t12:Option Addr}{t12l:Nat}{t13:Nat}{t14:Option Addr}{t14l:Nat}{t17_0:Int}{t17_1:Int}{t17_2:Int}{t17_3:Int}{t17_4:Int}{t18:Option Addr}{t18l:Nat}{t19:Nat}{t20:Int}{t21:Option Addr}{t22:Option Addr}{t24:Value}{t25:Value}{t26:Value}{t27:Value}{t28:Value}{t29:Value}{t30:Value}{t31:Value}{t32:Value}{t33:Value}{t34:Value}{t35:Value}{t36:Value}{t37:Value}{t38:Value}{t39:Value}{t40:Value}{t41:Value}{K0:Fr->Heap->Prop}{t9:Int}{t10:Int}{t42:Value}{t43:Value}{t44:Value}{t45:Value}{t46:Value}{t47:Value}{t48:Value}{t49:Value}{t50:Value}{t51:Value}{t52:Value}{t53:Value}{t54:Value}{H:Heap}(I:Nat->Int->Int->Heap->Prop)(n:Nat)(h0:I n t9 t10 H)
  (hstep:∀(n:Nat)(t9:Int)(t10:Int)(ys:Fr)(H:Heap),I n t9 t10 H->
  (
 bif (decide (t10<((t1l:Nat):Int))) then (
 inB t10 t1l/\
 asRow t1 λi1 i2=>
 ∃a3 i4,H.cell i1 (i2+(t10.toNat*1))=some (.slice a3 i4 0)/\
 ∃k5,k5<n/\
 I k5 (IntKind.i64.wrap (t9+((i4:Nat):Int))) (IntKind.i64.wrap (t10+1)) H)
 else (
 K0 [(.agg #[(.int .i64 t0_0),(.int .i64 t0_1),(.int .i64 t0_2),(.int .i64 t0_3),(.int .i64 t0_4)]),(.slice t1 t1l 0),(.agg #[(.slice t2_0 t2_0l 0),(.int .i64 t2_1)]),(.pointer (some ⟨t3,0,none⟩)),undef,(.pointer (some ⟨t5,0,none⟩)),(.bool t6),(.pointer t7),t8,(.int .i64 t9),(.int .i64 t10),(.agg #[(.int .i64 t11_0),(.int .i64 t11_1),(.int .i64 t11_2),(.int .i64 t11_3),(.int .i64 t11_4)]),(.slice t12 t12l 0),(.pointer (some ⟨t13,0,none⟩)),(.slice t14 t14l 0),(.bool false),undef,(.agg #[(.int .i64 t17_0),(.int .i64 t17_1),(.int .i64 t17_2),(.int .i64 t17_3),(.int .i64 t17_4)]),(.slice t18 t18l 0),(.pointer (some ⟨t19,1,none⟩)),(.int .i64 t20),(.pointer t21),(.pointer t22),(.bool false),t24,t25,t26,t27,t28,t29,t30,t31,t32,t33,t34,t35,t36,t37,t38,t39,t40,t41,(.int .i64 t10),(.slice t1 t1l 0),(.int .i64 ((t1l:Nat):Int)),(.bool false),(ys.getD 46 undef),(ys.getD 47 undef),(ys.getD 48 undef),(ys.getD 49 undef),(ys.getD 50 undef),(ys.getD 51 undef),(ys.getD 52 undef),(ys.getD 53 undef),(ys.getD 54 undef),undef,undef,undef,undef,undef,undef,undef,undef,undef,undef,undef,undef,undef,undef] H))) :
  LA en L_crossbarlaw16_LruRuns_1 [(.agg #[(.int .i64 t0_0),(.int .i64 t0_1),(.int .i64 t0_2),(.int .i64 t0_3),(.int .i64 t0_4)]),(.slice t1 t1l 0),(.agg #[(.slice t2_0 t2_0l 0),(.int .i64 t2_1)]),(.pointer (some ⟨t3,0,none⟩)),undef,(.pointer (some ⟨t5,0,none⟩)),(.bool t6),(.pointer t7),t8,(.int .i64 t9),(.int .i64 t10),(.agg #[(.int .i64 t11_0),(.int .i64 t11_1),(.int .i64 t11_2),(.int .i64 t11_3),(.int .i64 t11_4)]),(.slice t12 t12l 0),(.pointer (some ⟨t13,0,none⟩)),(.slice t14 t14l 0),(.bool false),undef,(.agg #[(.int .i64 t17_0),(.int .i64 t17_1),(.int .i64 t17_2),(.int .i64 t17_3),(.int .i64 t17_4)]),(.slice t18 t18l 0),(.pointer (some ⟨t19,1,none⟩)),(.int .i64 t20),(.pointer t21),(.pointer t22),(.bool false),t24,t25,t26,t27,t28,t29,t30,t31,t32,t33,t34,t35,t36,t37,t38,t39,t40,t41,t42,t43,t44,t45,t46,t47,t48,t49,t50,t51,t52,t53,t54,undef,undef,undef,undef,undef,undef,undef,undef,undef,undef,undef,undef,undef,undef] H [(X.exit 2,K0)]:=by
 refine LA_rule (Z:=[]) (λm xs H'=>AS.asInt .i64 (xs.getD 9 undef) λt9=>AS.asInt .i64 (xs.getD 10 undef) λt10=>I m t9 t10 H') ?_ n H ?_
 ·intro n H
  suffices hs:∀s42:Value,∀s43:Value,∀s44:Value,∀s45:Value,∀s48:Value,∀s49:Value,∀s50:Value,∀s51:Value,∀s52:Value,∀s53:Value,∀s54:Value,∀s9:Value,∀s46:Value,∀s47:Value,∀s10:Value,((AS.asInt .i64 s9 λt9=>AS.asInt .i64 s10 λt10=>I n t9 t10 H)->wpCode en L_crossbarlaw16_LruRuns_1 [] [(.agg #[(.int .i64 t0_0),(.int .i64 t0_1),(.int .i64 t0_2),(.int .i64 t0_3),(.int .i64 t0_4)]),(.slice t1 t1l 0),(.agg #[(.slice t2_0 t2_0l 0),(.int .i64 t2_1)]),(.pointer (some ⟨t3,0,none⟩)),undef,(.pointer (some ⟨t5,0,none⟩)),(.bool t6),(.pointer t7),t8,s9,s10,(.agg #[(.int .i64 t11_0),(.int .i64 t11_1),(.int .i64 t11_2),(.int .i64 t11_3),(.int .i64 t11_4)]),(.slice t12 t12l 0),(.pointer (some ⟨t13,0,none⟩)),(.slice t14 t14l 0),(.bool false),undef,(.agg #[(.int .i64 t17_0),(.int .i64 t17_1),(.int .i64 t17_2),(.int .i64 t17_3),(.int .i64 t17_4)]),(.slice t18 t18l 0),(.pointer (some ⟨t19,1,none⟩)),(.int .i64 t20),(.pointer t21),(.pointer t22),(.bool false),t24,t25,t26,t27,t28,t29,t30,t31,t32,t33,t34,t35,t36,t37,t38,t39,t40,t41,s42,s43,s44,s45,s46,s47,s48,s49,s50,s51,s52,s53,s54,undef,undef,undef,undef,undef,undef,undef,undef,undef,undef,undef,undef,undef,undef] H (loopQ (λm xs H'=>AS.asInt .i64 (xs.getD 9 undef) λt9=>AS.asInt .i64 (xs.getD 10 undef) λt10=>I m t9 t10 H') n [(X.exit 2,K0)])) by
   apply turnInto hs
   kernel_rfl
  intro s42 s43 s44 s45 s48 s49 s50 s51 s52 s53 s54 s9 s46 s47 s10 hP;replace hP:=asInt_elim hP;obtain ⟨t9,rfl,hP⟩:=hP;replace hP:=asInt_elim hP;obtain ⟨t10,rfl,hP⟩:=hP;apply turnInto (hstep n t9 t10 [(.agg #[(.int .i64 t0_0),(.int .i64 t0_1),(.int .i64 t0_2),(.int .i64 t0_3),(.int .i64 t0_4)]),(.slice t1 t1l 0),(.agg #[(.slice t2_0 t2_0l 0),(.int .i64 t2_1)]),(.pointer (some ⟨t3,0,none⟩)),undef,(.pointer (some ⟨t5,0,none⟩)),(.bool t6),(.pointer t7),t8,(.int .i64 t9),(.int .i64 t10),(.agg #[(.int .i64 t11_0),(.int .i64 t11_1),(.int .i64 t11_2),(.int .i64 t11_3),(.int .i64 t11_4)]),(.slice t12 t12l 0),(.pointer (some ⟨t13,0,none⟩)),(.slice t14 t14l 0),(.bool false),undef,(.agg #[(.int .i64 t17_0),(.int .i64 t17_1),(.int .i64 t17_2),(.int .i64 t17_3),(.int .i64 t17_4)]),(.slice t18 t18l 0),(.pointer (some ⟨t19,1,none⟩)),(.int .i64 t20),(.pointer t21),(.pointer t22),(.bool false),t24,t25,t26,t27,t28,t29,t30,t31,t32,t33,t34,t35,t36,t37,t38,t39,t40,t41,s42,s43,s44,s45,s46,s47,s48,s49,s50,s51,s52,s53,s54,undef,undef,undef,undef,undef,undef,undef,undef,undef,undef,undef,undef,undef,undef] H hP);kernel_rfl
 ·apply turnInto h0
  kernel_rfl
end
end Go.Proofs.YtjggeoghlicmdaaGreat
namespace Go.AS
open Go.RowKit Go.ChangeShapes Go.WideShapes
section
section
variable {E:Env}
def okTz (E:Env):Nat->Nat->Bool
 |0,_=>false
 |d+1,t=>match und E t with
  |some .bool=>true
  |some (.int _)=>true
  |some (.slice e)=>okTz E d e&&(match sizeA E e with
   |some n=>Nat.ble 1 n
   |none=>false)&&(match E.ty e with
   |some i=>Nat.ble 1 i.bytes
   |none=>false)
  |some (.struct fs)=>(fs.toList.all λf=>okTz E d f.type)&&(match sizeA E t,contig E fs.toList 0 with
   |some n,some m=>Nat.beq n m
   |_,_=>false)
  |_=>false
def Wt {D:Type}(E:Env)(t:Nat)(x:DataW D):Prop:=∀n∈x.weights E.prog t,n<=reachBytes
theorem bytes_pos (hE:E.Ok){e:Nat}(h:(match E.ty e with|some i=>Nat.ble 1 i.bytes|none=>false)=true):1<=E.prog.bytesOf e:=by
 cases hi:E.ty e with
 |none=>rw [hi] at h;cases h
 |some i=>
  rw [hi] at h
  have:=hE.ty _ _ hi
  unfold Program.bytesOf;rw [this];exact Nat.le_of_ble_eq_true h
theorem weightsAll_mem {D:Type}{P:Program}{e n:Nat}:∀{l:List (DataW D)}{y:DataW D},y∈l->n∈y.weights P e->n∈DataW.weightsAll P e l
 |[],y,h,_=>by simp at h
 |z::l,y,h,hn=>by
  simp only [DataW.weightsAll,List.mem_append]
  rcases List.mem_cons.1 h with rfl|h
  ·exact .inl hn
  ·exact .inr (weightsAll_mem h hn)
def shz (E:Env)(H:Heap):Nat->Nat->List Value->Prop
 |0,_,_=>False
 |d+1,t,vs=>match und E t with
  |some .bool=>∃b,vs=[.bool b]
  |some (.int k)=>∃n,vs=[.int k n]/\(Lit.int k n).wf=true
  |some (.slice e)=>vs=[.slice none 0 0]∨∃(i:Nat)(cs:List (List Value)),vs=[.slice (some ⟨i,0,none⟩) cs.length 0]/\i<H.next/\H.get i=some (.cells false 0 cs.flatten)/\(∀c∈cs,shz E H d e c)/\cs.length<=140737488355328
  |some (.struct fs)=>shpFs (λt vs=>shz E H d t vs) fs.toList vs
  |_=>False
theorem shz_frm {H H':Heap}(hf:Frm [] H H'):∀{d t:Nat}{vs:List Value},shz E H d t vs->shz E H' d t vs
 |0,_,_,h=>h.elim
 |d+1,t,vs,h=>by
  unfold shz at h⊢
  split
  ·rename_i hu;rw [hu] at h;exact h
  ·rename_i hu;rw [hu] at h;exact h
  ·rename_i hu
   rw [hu] at h
   rcases h with h|⟨i,cs,h1,h2,h3,h4,h5⟩
   ·exact .inl h
   ·exact .inr ⟨i,cs,h1,Nat.lt_of_lt_of_le h2 hf.1,by rw [hf.2 i h2 (by simp)];exact h3,λc hc=>shz_frm hf (h4 c hc),h5⟩
  ·rename_i hu
   rw [hu] at h
   exact shpFs_mono (λt vs hs=>shz_frm hf hs) h
  ·rename_i h1 h2 h3 h4
   split at h
   ·rename_i hu;exact (h1 hu).elim
   ·rename_i hu;exact (h2 _ hu).elim
   ·rename_i hu;exact (h3 _ hu).elim
   ·rename_i hu;exact (h4 _ hu).elim
   ·exact h
variable {w:World} {D:Type} {enc:TypeId×Value->D} {spare:Nat->Bool} {held:Bool} {r:Reach} {bs:Nat}
theorem open_fieldsz {d fuel:Nat}(hE:E.Ok)(ih:∀(t:Nat)(CS:List Value) x,DataW.trod enc E.prog w 0 spare held fuel t CS=some x->Wt E t x.1->okTz E d t=true->∀{μ:Inj}{H:Heap},HRel E w.heap.size μ H w->Opened E w μ H (λH' vs=>shz E H' d t vs) CS) :
  ∀(fs:List Field)(o:Nat)(CS:List Value),(∀f∈fs,okTz E d f.type=true)->contig E fs o=some CS.length->(∀f∈fs,∃x,DataW.trod enc E.prog w 0 spare held fuel f.type ((CS.drop f.offset).take (E.prog.cellsOf f.type))=some x/\Wt E f.type x.1)->
  ∀{μ:Inj}{H:Heap},HRel E w.heap.size μ H w->Opened E w μ H (λH' vs=>shpFs (λt vs=>shz E H' d t vs) fs vs) (CS.drop o)
 |[],o,CS,_,hc,_,μ,H,hH=>by
  simp only [contig,Option.some.injEq] at hc;subst hc;refine ⟨μ,H,[],Grow.refl _ _,hH,?_,rfl,Frm.refl _ _,rfl⟩;rw [List.drop_length];exact .nil
 |f::fs,o,CS,hok,hc,hx,μ,H,hH=>by
  simp only [contig] at hc;cases hb:Nat.beq f.offset o with
  |false=>rw [hb] at hc;cases hc
  |true=>
   rw [hb] at hc;obtain rfl:=Nat.eq_of_beq_eq_true hb;simp only [cond_true] at hc;cases hs:sizeA E f.type with
   |none=>rw [hs] at hc;cases hc
   |some n=>
    rw [hs] at hc;simp only at hc;have⟨x,hx0,hxw⟩:=hx f (by simp);have⟨μ1,H1,vs,g1,h1,r1,p1,f1,o1⟩:=ih f.type _ x hx0 hxw (hok f (by simp)) hH;have hcell:E.prog.cellsOf f.type=n:=by
     unfold sizeA at hs;cases hi:E.ty f.type with
     |none=>rw [hi] at hs;cases hs
     |some i=>
      rw [hi] at hs;simp only [Option.map_some,Option.some.injEq] at hs
      have:=hE.ty _ _ hi
      unfold Program.cellsOf;rw [this];simpa using hs
    have⟨μ2,H2,vs2,g2,h2,r2,p2,f2,o2⟩:=open_fieldsz hE ih fs (f.offset+n) CS (λg hg=>hok g (by simp [hg])) hc (λg hg=>hx g (by simp [hg])) h1;refine ⟨μ2,H2,vs++vs2,g1.trans g2,h2,?_,⟨vs,vs2,rfl,shz_frm f2 p1,p2⟩,f1.trans f2 (by simp),by simp [o1,o2]⟩;have e:CS.drop f.offset=(CS.drop f.offset).take n++CS.drop (f.offset+n):=by
     rw [<-List.drop_drop];exact (List.take_append_drop _ _).symm
    rw [e];rw [hcell] at r1;exact (VRels.mono g2.le r1).append r2
theorem open_cellsz (hE:E.Ok):∀(fuel t:Nat)(CS:List Value)(x:DataW D×List MemPlace),DataW.trod enc E.prog w 0 spare held fuel t CS=some x->Wt E t x.1->∀(d:Nat),okTz E d t=true->
  ∀{μ:Inj}{H:Heap},HRel E w.heap.size μ H w->Opened E w μ H (λH' vs=>shz E H' d t vs) CS
 |0,t,CS,x,h,hw,d,ho,μ,H,hH=>by simp [DataW.trod] at h
 |fuel+1,t,CS,x,h,hw,0,ho,μ,H,hH=>by simp [okTz] at ho
 |fuel+1,t,CS,x,h,hwt,d+1,ho,μ,H,hH=>by
  have ih:=open_cellsz hE fuel;unfold okTz at ho;split at ho
  ·rename_i hu;have hP:=und_ok hE hu;unfold DataW.trod at h;rw [hP] at h;split at h<;>simp_all
   exact ⟨μ,H,[.bool _],Grow.refl _ _,hH,.cons (.bool _) .nil,by unfold shz;rw [hu];exact ⟨_,rfl⟩,Frm.refl _ _,rfl⟩
  ·rename_i k hu;have hP:=und_ok hE hu;obtain ⟨n,rfl,hx,hw⟩:=DataW.trod_int hP h;exact ⟨μ,H,[.int k n],Grow.refl _ _,hH,.cons (.int _ _) .nil,by unfold shz;rw [hu];exact ⟨n,rfl,hw⟩,Frm.refl _ _,rfl⟩
  ·rename_i e hu;have hP:=und_ok hE hu;simp only [Bool.and_eq_true] at ho;have⟨⟨ho1,ho2⟩,ho3⟩:=ho;cases hs:sizeA E e with
   |none=>rw [hs] at ho2;cases ho2
   |some z=>
    rw [hs] at ho2;simp only at ho2;have hz:0<z:=Nat.le_of_ble_eq_true ho2;have hcell:=cellsOf_size hE hs;have hform:CS=[.slice none 0 0]∨∃a len cap,CS=[.slice (some a) len cap]:=by
     unfold DataW.trod at h;rw [hP] at h;split at h<;>simp_all
    rcases hform with rfl|⟨a,len,cap,rfl⟩
    ·exact ⟨μ,H,[.slice none 0 0],Grow.refl _ _,hH,.cons .sliceNil .nil,by unfold shz;rw [hu];exact .inl rfl,Frm.refl _ _,rfl⟩
    ·have hel:len<=cap/\∃elems:List (DataW D×List MemPlace),(List.range len).mapM (λi=>(w.cells? 0 (a.add (i*z)) z).bind (DataW.trod enc E.prog w 0 spare held fuel e))=some elems/\∃sp,x.1=.slice (elems.map (·.1)) sp:=by
      unfold DataW.trod at h;rw [hP] at h;simp only [hcell] at h;split at h
      ·rename_i hc;refine ⟨hc.2.1,?_⟩;cases hm:(List.range len).mapM (λi=>(w.cells? 0 (a.add (i*z)) z).bind (DataW.trod enc E.prog w 0 spare held fuel e)) with
       |none=>rw [hm] at h;simp at h
       |some el=>
        rw [hm] at h;simp only [Option.bind_some,Option.map_eq_some_iff] at h;have⟨rest,_,h⟩:=h;refine ⟨el,rfl,rest.map (·.1),?_⟩;rw [<-h]
      ·cases h
     have⟨hle,elems,hel,sp,hxe⟩:=hel;have helen:elems.length=len:=by
      have:=mapM_some_length hel
      simpa using this
     have hwts:(len+sp.length)*E.prog.bytesOf e<=reachBytes/\∀y∈elems,Wt E e y.1:=by
      have h1:Wt E t (.slice (elems.map (·.1)) sp):=by rw [<-hxe];exact hwt
      unfold Wt DataW.weights at h1;rw [hP] at h1;refine ⟨h1 _ (by simp [helen]),λy hy n hn=>h1 n ?_⟩;refine List.mem_cons_of_mem _ (List.mem_append_left _ ?_);exact weightsAll_mem (List.mem_map_of_mem hy) hn
     have hcap:len<=140737488355328:=by
      have hb:1<=E.prog.bytesOf e:=bytes_pos hE ho3;have h1:=hwts.1;have h2:(len+sp.length)*1<=(len+sp.length)*E.prog.bytesOf e:=Nat.mul_le_mul_left _ hb;unfold reachBytes at h1;omega
     have each:∀i,i<len->∃C x,w.cells? 0 (a.add (i*z)) z=some C/\DataW.trod enc E.prog w 0 spare held fuel e C=some x/\Wt E e x.1:=by
      intro i hi;have h1:=mapM_some_get hel i i (by simp [hi]);have hl:=mapM_some_length hel;simp only [List.length_range] at hl;rw [List.getElem?_eq_getElem (by omega:i<elems.length)] at h1;cases hc:w.cells? 0 (a.add (i*z)) z with
      |none=>rw [hc] at h1;cases h1
      |some C=>rw [hc] at h1;exact ⟨C,_,rfl,h1,hwts.2 _ (List.getElem_mem _)⟩
     let CSs:List (List Value):=(List.range len).map λi=>(w.cells? 0 (a.add (i*z)) z).getD []
     have hCl:CSs.length=len:=by simp [CSs]
     have hCg:∀i,i<len->∃C,CSs[i]? =some C/\w.cells? 0 (a.add (i*z)) z=some C:=by
      intro i hi;have⟨C,x',h1,h2,_⟩:=each i hi;exact ⟨C,by simp [CSs,hi,h1],h1⟩
     have⟨μ1,H1,css,g1,h1,l1,r1,p1,f1,o1⟩:=open_list (E:=E) (w:=w) (p:=λH' vs=>shz E H' d e vs) (λhf hs=>shz_frm hf hs) CSs (λC hC=>by
      obtain ⟨i,hi,rfl⟩:=List.mem_iff_getElem.1 hC;have⟨C',x',h1,h2,h2w⟩:=each i (by omega);have⟨C'',h3,h4⟩:=hCg i (by omega);rw [List.getElem?_eq_getElem hi] at h3;injection h3 with h3
      rw [h1] at h4;injection h4 with h4;subst h4
      rw [h3];intro μ H hH;exact ih e _ x' h2 h2w d ho1 hH) hH
     have hz2:∀C∈CSs,C.length=z:=by
      intro C hC;obtain ⟨i,hi,rfl⟩:=List.mem_iff_getElem.1 hC;have⟨C'',h3,h4⟩:=hCg i (by omega);rw [List.getElem?_eq_getElem hi] at h3;injection h3 with h3
      rw [h3];exact (cells?_get h4).1
     have hvr:VRels μ1 css.flatten CSs.flatten:=flatten_vrels l1 r1;have hobj:css.flatten=[]∨∃C el fr,a.block<w.heap.size/\w.heap[a.block]? =some (.cells C el fr)/\a.spot=none/\cellsRel μ1 css.flatten C a.off:=by
      by_cases h0:len=0
      ·left
       have:css=[]:=List.eq_nil_of_length_eq_zero (by omega)
       rw [this];rfl
      ·right;have⟨C0,h3,h4⟩:=hCg 0 (by omega);have hc0:=(cells?_get h4).2 0 hz;have e0:(a.add (0*z)).add 0=a:=by simp [Addr.add]
       rw [e0] at hc0;have hC0:C0[0]? ≠none:=by
        have:=(cells?_get h4).1
        rw [List.getElem?_eq_getElem (by omega)];simp
       unfold World.cell? at hc0;cases hb:w.heap[a.block]? with
       |none=>rw [hb] at hc0;exact absurd hc0.symm hC0
       |some ob=>
        rw [hb] at hc0;cases ob with
        |cells C el fr=>
         simp only at hc0;have hsp:a.spot=none:=by
          cases hsp:a.spot with
          |none=>rfl
          |some s=>rw [hsp] at hc0;simp only [Option.isSome_some,if_true] at hc0;exact absurd hc0.symm hC0
         refine ⟨C,el,fr,?_,rfl,hsp,?_⟩
         ·rcases Nat.lt_or_ge a.block w.heap.size with h|h
          ·exact h
          ·rw [Array.getElem?_eq_none h] at hb;cases hb
         ·intro j v hj;have⟨V,hV,hr⟩:=hvr.get hj;refine ⟨V,?_,hr⟩;have hfl:CSs.flatten.length=CSs.length*z:=flatten_len hz2;have hjl:j<CSs.length*z:=by
           rw [<-hfl];rcases Nat.lt_or_ge j CSs.flatten.length with h|h
           ·exact h
           ·rw [List.getElem?_eq_none h] at hV;cases hV
          have⟨c,hc1,hc2⟩:=flatten_get hz2 hz hjl;have hi:j / z<len:=by
           rw [hCl] at hjl;exact (Nat.div_lt_iff_lt_mul hz).2 hjl
          have⟨C',h5,h6⟩:=hCg (j / z) hi;rw [hc1] at h5;injection h5 with h5;subst h5
          have h7:=(cells?_get h6).2 (j % z) (Nat.mod_lt _ hz);rw [hc2] at hV;rw [hV] at h7;have ea:(a.add (j / z*z)).add (j % z)=⟨a.block,a.off+j,none⟩:=by
           have hdm:j / z*z+j % z=j:=by rw [Nat.mul_comm];exact Nat.div_add_mod j z
           unfold Addr.add;cases a with
           |mk ab ao asp=>
           simp only at hsp;subst hsp;split<;>split<;>simp only [Addr.mk.injEq,and_true,true_and]<;>omega
          rw [ea] at h7;unfold World.cell? at h7;rw [hb] at h7;simpa using h7
        |_=>simp at hc0;exact absurd hc0.symm (by simpa using hC0)
     have hall:css.flatten.all one=true:=by
      rw [List.all_eq_true];intro v hv;have⟨c,hc,hvc⟩:=List.mem_flatten.1 hv;exact List.all_eq_true.1 (o1 c hc) v hvc
     have hnone:μ1 H1.next=none:=h1.fresh _ (Nat.le_refl _);have fin:∀L:Loc,L.esz=0->(∀i oi Li,H1.get i=some oi->oi.isOwn=true->μ1 i=some Li->Li.blk≠L.blk)->
       (css.flatten=[]∨∃C el fr,L.blk<w.heap.size/\w.heap[L.blk]? =some (.cells C el fr)/\cellsRel μ1 css.flatten C L.off)->
       (∀μ':Inj,μ' H1.next=some L->VRel μ' (.slice (some ⟨H1.next,0,none⟩) css.length 0) (.slice (some a) len cap))->
       Opened E w μ H (λH' vs=>shz E H' (d+1) t vs) [.slice (some a) len cap]:=by
      intro L hL hfree hcells hv;have hH2:HRel E w.heap.size (μ1.add H1.next L) (H1.new (.cells false 0 css.flatten)) w:=by
       refine h1.adoptAt H1.next L _ hnone (λj=>get_new _ _ _) (Nat.le_succ _) (Nat.lt_succ_self _) (λi oi Li a b c=>hfree i oi Li a (b.elim (λh=>by cases h.1) λh=>h.1) c) ?_;refine ⟨L,Inj.add_self _ _ _,hL,hall,?_⟩;rcases hcells with h0|⟨C,el,fr,hlt,hb,hr⟩
       ·exact .inl h0
       ·exact .inr ⟨C,el,fr,hb,hr.mono (Inj.le_add L hnone)⟩
      refine ⟨_,_,[.slice (some ⟨H1.next,0,none⟩) css.length 0],g1.trans (Grow.new _ L hnone),hH2,.cons (hv _ (Inj.add_self _ _ _)) .nil,?_,f1.trans ((Frm.refl [] _).new _) (by simp),rfl⟩;unfold shz;rw [hu];exact .inr ⟨H1.next,css,rfl,Nat.lt_succ_self _,get_new_self _ _,λc hc=>shz_frm ((Frm.refl [] _).new _) (p1 c hc),by rw [l1,hCl];exact hcap⟩
     have own:∀i oi Li,H1.get i=some oi->oi.isOwn=true->μ1 i=some Li->w.heap.size<=Li.blk/\Li.blk<w.heap.size:=by
      intro i oi Li hi hown hm;have⟨L2,e1,e2,e3⟩:=(h1.obj i oi hi ⟨Li,hm⟩).own_loc hown;rw [hm] at e1;injection e1 with e1;subst e1
      exact ⟨e2,e3⟩
     rcases hobj with h0|⟨C,el,fr,hlt,hb,hsp,hr⟩
     ·have h00:len=0:=by
       have h2:css.flatten.length=css.length*z:=flatten_len λc hc=>by
        obtain ⟨i,hi,rfl⟩:=List.mem_iff_getElem.1 hc;have hi':i<CSs.length:=by omega
        have:=(r1 i css[i] CSs[i] (List.getElem?_eq_getElem hi) (List.getElem?_eq_getElem hi')).length
        rw [this];exact hz2 _ (List.getElem_mem _)
       rw [h0] at h2;simp only [List.length_nil] at h2;rcases Nat.mul_eq_zero.1 h2.symm with h|h
       ·omega
       ·omega
      refine fin ⟨w.heap.size,0,0,0⟩ rfl (λi oi Li a b c=>?_) (.inl h0) λμ' hm=>?_
      ·have:=own i oi Li a b c
       show Li.blk≠w.heap.size;omega
      ·rw [l1,hCl,h00];exact .sliceEnd hm (.inl rfl)
     ·refine fin ⟨a.block,a.off,0,0⟩ rfl (λi oi Li a' b c=>?_) (.inr ⟨C,el,fr,hlt,hb,hr⟩) λμ' hm=>?_
      ·have:=own i oi Li a' b c
       show Li.blk≠a.block;omega
      ·rw [l1,hCl];have e:a=⟨a.block,a.off+0,none⟩:=by cases a;simp only at hsp;subst hsp;rfl
       rw [e];exact .slice hm hle (.inl rfl)
  ·rename_i fs hu;have hP:=und_ok hE hu;simp only [Bool.and_eq_true,List.all_eq_true] at ho;have⟨ho1,ho2⟩:=ho;cases hs:sizeA E t with
   |none=>rw [hs] at ho2;cases ho2
   |some n=>
    cases hc:contig E fs.toList 0 with
    |none=>rw [hs,hc] at ho2;cases ho2
    |some m=>
     rw [hs,hc] at ho2;obtain rfl:=Nat.eq_of_beq_eq_true ho2;have hcell:=cellsOf_size hE hs;have hstr:CS.length=n/\∃xs:List (DataW D×List MemPlace),fs.toList.mapM (λf=>DataW.trod enc E.prog w 0 spare held fuel f.type ((CS.drop f.offset).take (E.prog.cellsOf f.type)))=some xs/\x.1=.agg (xs.map (·.1)):=by
      unfold DataW.trod at h;rw [hP,hcell] at h;split at h<;>simp_all
      have⟨hl,xs,hm,hx⟩:=h;exact ⟨xs,hm,by rw [<-hx]⟩
     have⟨hl,xs,hm,hxe⟩:=hstr;have hlen:=mapM_some_length hm;have hwf:∀i (hi:i<fs.toList.length)(hi2:i<xs.length),Wt E (fs.toList[i]).type (xs[i]).1:=by
      intro i hi hi2 n hn;have h1:Wt E t (.agg (xs.map (·.1))):=by rw [<-hxe];exact hwt
      unfold Wt DataW.weights at h1;rw [hP] at h1;refine h1 n (DataW.weights_mem_each (j:=i) (t:=(fs.toList[i]).type) (d:=(xs[i]).1) ?_ ?_ n hn)
      ·rw [List.getElem?_map,List.getElem?_eq_getElem hi];rfl
      ·rw [List.getElem?_map,List.getElem?_eq_getElem hi2];rfl
     have:=open_fieldsz (spare:=spare) (held:=held) (enc:=enc) (d:=d) (fuel:=fuel) hE (λt CS x h hw ho {μ H} hH=>ih t CS x h hw d ho hH) fs.toList 0 CS (λf hf=>ho1 f hf) (by rw [hc,hl]) (λf hf=>by
      obtain ⟨i,hi,rfl⟩:=List.mem_iff_getElem.1 hf;have h1:=mapM_some_get hm i _ (List.getElem?_eq_getElem hi);rw [List.getElem?_eq_getElem (by omega:i<xs.length)] at h1;exact ⟨_,h1,hwf i hi (by omega)⟩) hH
     simp only [List.drop_zero] at this;have⟨μ',H',vs,a1,a2,a3,a4,a5,a6⟩:=this;exact ⟨μ',H',vs,a1,a2,a3,by unfold shz;rw [hu];exact a4,a5,a6⟩
  ·cases ho
def shzV (E:Env)(H:Heap)(d t:Nat)(v:Value):Prop:=
 match und E t with
 |some (.struct _)=>∃l,v=.agg ⟨l⟩/\shz E H d t l
 |_=>shz E H d t [v]
def shzVs (E:Env)(H:Heap)(d:Nat):List Nat->List Value->Prop
 |[],vs=>vs=[]
 |t::ts,vs=>∃v us,vs=v::us/\shzV E H d t v/\shzVs E H d ts us
theorem shzV_frm {H H':Heap}(hf:Frm [] H H'){d t:Nat}{v:Value}(h:shzV E H d t v):shzV E H' d t v:=by
 unfold shzV at h⊢;split
 ·rename_i hu;rw [hu] at h;have⟨l,e,h⟩:=h;exact ⟨l,e,shz_frm hf h⟩
 ·rename_i hu;split at h
  ·rename_i hu2;exact (hu _ hu2).elim
  ·exact shz_frm hf h
theorem open_argz (hE:E.Ok){t d:Nat}{v:Value}{x:DataW D}{ps:List MemPlace}(h:DataW.Trod enc E.prog w 0 spare held t v x ps)(hwt:Wt E t x)(hv:Value.okWide E.prog w r bs t v)(ho:okTz E d t=true)
  {μ:Inj}{H:Heap}(hH:HRel E w.heap.size μ H w):∃(μ':Inj)(H':Heap)(u:Value),Grow H μ H' μ'/\HRel E w.heap.size μ' H' w/\VRel μ' u v/\shzV E H' d t u/\Frm [] H H':=by
 have⟨fuel,h⟩:=h;have⟨μ',H',vs,g1,h1,r1,s1,f1,o1⟩:=open_cellsz hE fuel t _ _ h hwt d ho hH;cases d with
 |zero=>simp [okTz] at ho
 |succ d=>
 unfold okTz at ho;split at ho
 ·rename_i hu;have hP:=und_ok hE hu;have⟨b,hb⟩:∃b,v=.bool b:=by
   simp only [Value.okWide,hP,Cell.okWide,Cell.ok] at hv;cases v<;>simp_all
  subst hb;unfold shz at s1;rw [hu] at s1;obtain ⟨b',rfl⟩:=s1;refine ⟨μ',H',.bool b',g1,h1,?_,by unfold shzV;rw [hu];unfold shz;rw [hu];exact ⟨_,rfl⟩,f1⟩;cases r1 with
  |cons a b=>exact a
 ·rename_i k hu;have hP:=und_ok hE hu;have⟨n,hb⟩:=okWide_int hP hv;subst hb;have s1':=s1;unfold shz at s1;rw [hu] at s1;obtain ⟨b',rfl,hw⟩:=s1;refine ⟨μ',H',.int k b',g1,h1,?_,by unfold shzV;rw [hu];exact s1',f1⟩;cases r1 with
  |cons a b=>exact a
 ·rename_i e hu;have hP:=und_ok hE hu;have⟨a,len,cap,hb⟩:=okWide_slice hP hv;subst hb;have s1':=s1;unfold shz at s1;rw [hu] at s1;obtain ⟨u,rfl⟩:∃u,vs=[u]:=by
   rcases s1 with rfl|⟨i,cs,rfl,_⟩<;>exact ⟨_,rfl⟩
  refine ⟨μ',H',u,g1,h1,?_,by unfold shzV;rw [hu];exact s1',f1⟩;cases r1 with
  |cons a b=>exact a
 ·rename_i fs hu;have hP:=und_ok hE hu;have hb:∃cs,v=.agg cs:=by
   simp only [Value.okWide,hP] at hv;have⟨cs,e,_⟩:=hv;exact ⟨cs,e⟩
  obtain ⟨cs,rfl⟩:=hb;exact ⟨μ',H',.agg ⟨vs⟩,g1,h1,.agg r1,by unfold shzV;rw [hu];exact ⟨vs,rfl,s1⟩,f1⟩
 ·cases ho
theorem open_argsz (hE:E.Ok){d:Nat}:∀(ts:List TypeId)(vs:List Value)(xs:List (DataW D))(ps:List MemPlace),DataW.TrodAll enc E.prog w 0 spare held ts vs xs ps->(∀n∈DataW.weightsEach E.prog ts xs,n<=reachBytes)->
  (∀(j:Nat) t v,ts[j]? =some t->vs[j]? =some v->Value.okWide E.prog w r bs t v)->ts.all (okTz E d)=true->∀{μ:Inj}{H:Heap},HRel E w.heap.size μ H w->
  ∃(μ':Inj)(H':Heap)(us:List Value),HRel E w.heap.size μ' H' w/\VRels μ' us vs/\shzVs E H' d ts us/\Grow H μ H' μ'/\Frm [] H H'
 |[],vs,xs,ps,h,_,_,_,μ,H,hH=>by
  obtain ⟨rfl,rfl,rfl⟩:=Go.ChangeShapes.trodAll_nil h
  exact ⟨μ,H,[],hH,.nil,rfl,Grow.refl _ _,Frm.refl _ _⟩
 |t::ts,vs,xs,ps,h,hw,hv,ho,μ,H,hH=>by
  obtain ⟨v,vs',x,xs',p,q,rfl,rfl,rfl,h1,h2⟩:=Go.ChangeShapes.trodAll_cons h
  simp only [List.all_cons,Bool.and_eq_true] at ho
  have⟨μ1,H1,u,g1,k1,r1,s1,f1⟩:=open_argz hE h1 (λn hn=>hw n (by simp only [DataW.weightsEach,List.mem_append];exact .inl hn)) (hv 0 t v rfl rfl) ho.1 hH
  have⟨μ2,H2,us,k2,r2,s2,g2,f2⟩:=open_argsz hE ts vs' xs' q h2 (λn hn=>hw n (by simp only [DataW.weightsEach,List.mem_append];exact .inr hn)) (λj t v a b=>hv (j+1) t v (by simpa using a) (by simpa using b)) ho.2 k1
  exact ⟨μ2,H2,u::us,k2,.cons (r1.mono g2.le) r2,⟨u,us,rfl,shzV_frm f2 s1,s2⟩,g1.trans g2,f1.trans f2 (by simp)⟩
theorem law_callsz (hE:E.Ok)(hmix:E.prog.follows .mixedOrders=true){f:FuncId}{d:Nat}{ts:List TypeId}(hlaw:∀H us,shzVs E H d ts us->CA E f us H λv _=>v=.bool true)
  (ho:ts.all (okTz E d)=true){vs:Array Value}{xs:List (DataW D)}{ps:List MemPlace}(h:DataW.TrodAll enc E.prog w 0 spare held ts vs.toList xs ps)(hw:(DataW.weightsEach E.prog ts xs).all (·<=reachBytes)=true)
  (hv:∀(j:Nat) t v,ts[j]? =some t->vs[j]? =some v->Value.okWide E.prog w r bs t v) :
  Calls E.prog f vs w λe w'=>e=.returned (.bool true)/\Below w.heap.size w w':=by
 have⟨μ,H,us,h1,h2,h3,_,_⟩:=open_argsz hE ts vs.toList xs ps h (λn hn=>of_decide_eq_true (List.all_eq_true.1 hw n hn)) (λj t v a b=>hv j t v a (by rw [<-Array.getElem?_toList];exact b)) ho (hrel0 E w);exact calls_of_CA hE hmix (hlaw H us h3) h1 h2
end
end
end Go.AS
namespace Go.Proofs.YtjggeoghlicmdaaGreat
open Go Go.AS Go.RowKit
section
set_option maxRecDepth 100000
abbrev T.LruRuns:List Nat:=[95,110,112]
theorem args_LruRuns {H:Heap}{us:List Value}(h:shzVs en H 7 T.LruRuns us) :
  (∃(v1:Value)(u2:List Value),us=v1::u2/\(∃l3:List Value,v1=.agg ⟨l3⟩/\(∃(a4 b5:List Value),l3=a4++b5/\(∃n:Int,a4=[.int .i64 n]/\(Lit.int .i64 n).wf=true)/\(∃(a6 b7:List Value),b5=a6++b7/\(∃n:Int,a6=[.int .i64 n]/\(Lit.int .i64 n).wf=true)/\(∃(a8 b9:List Value),b7=a8++b9/\(∃n:Int,a8=[.int .i64 n]/\(Lit.int .i64 n).wf=true)/\(∃(a10 b11:List Value),b9=a10++b11/\(∃n:Int,a10=[.int .i64 n]/\(Lit.int .i64 n).wf=true)/\(∃(a12 b13:List Value),b11=a12++b13/\(∃n:Int,a12=[.int .i64 n]/\(Lit.int .i64 n).wf=true)/\b13=[]))))))/\(∃(v14:Value)(u15:List Value),u2=v14::u15/\([v14]=[.slice none 0 0]∨∃(i:Nat)(cs:List (List Value)),[v14]=[.slice (some ⟨i,0,none⟩) cs.length 0]/\i<H.next/\H.get i=some (AS.Obj.cells false 0 cs.flatten)/\(∀c16∈cs,(c16=[.slice none 0 0]∨∃(i:Nat)(cs:List (List Value)),c16=[.slice (some ⟨i,0,none⟩) cs.length 0]/\i<H.next/\H.get i=some (AS.Obj.cells false 0 cs.flatten)/\(∀c17∈cs,(∃(a18 b19:List Value),c17=a18++b19/\(∃n:Int,a18=[.int .i64 n]/\(Lit.int .i64 n).wf=true)/\(∃(a20 b21:List Value),b19=a20++b21/\(∃(a22 b23:List Value),a20=a22++b23/\(∃n:Int,a22=[.int .i64 n]/\(Lit.int .i64 n).wf=true)/\(∃(a24 b25:List Value),b23=a24++b25/\(∃n:Int,a24=[.int .u64 n]/\(Lit.int .u64 n).wf=true)/\(∃(a26 b27:List Value),b25=a26++b27/\(a26=[.slice none 0 0]∨∃(i:Nat)(cs:List (List Value)),a26=[.slice (some ⟨i,0,none⟩) cs.length 0]/\i<H.next/\H.get i=some (AS.Obj.cells false 0 cs.flatten)/\(∀c28∈cs,(∃n:Int,c28=[.int .u64 n]/\(Lit.int .u64 n).wf=true))/\cs.length<=140737488355328)/\(∃(a29 b30:List Value),b27=a29++b30/\(∃n:Int,a29=[.int .i64 n]/\(Lit.int .i64 n).wf=true)/\(∃(a31 b32:List Value),b30=a31++b32/\(∃n:Int,a31=[.int .i64 n]/\(Lit.int .i64 n).wf=true)/\b32=[])))))/\(∃(a33 b34:List Value),b21=a33++b34/\(∃n:Int,a33=[.int .u64 n]/\(Lit.int .u64 n).wf=true)/\b34=[]))))/\cs.length<=140737488355328))/\cs.length<=140737488355328)/\(∃(v35:Value)(u36:List Value),u15=v35::u36/\(∃l37:List Value,v35=.agg ⟨l37⟩/\(∃(a38 b39:List Value),l37=a38++b39/\(a38=[.slice none 0 0]∨∃(i:Nat)(cs:List (List Value)),a38=[.slice (some ⟨i,0,none⟩) cs.length 0]/\i<H.next/\H.get i=some (AS.Obj.cells false 0 cs.flatten)/\(∀c40∈cs,(∃n:Int,c40=[.int .i64 n]/\(Lit.int .i64 n).wf=true))/\cs.length<=140737488355328)/\(∃(a41 b42:List Value),b39=a41++b42/\(∃n:Int,a41=[.int .i64 n]/\(Lit.int .i64 n).wf=true)/\b42=[])))/\u36=[]))):=by
 apply turnInto h
 kernel_rfl
end
end Go.Proofs.YtjggeoghlicmdaaGreat
