/-
  lruRuns.proved: part 7 of its proof. No condition.
  Written by a program out of the texts Lru16b Lru16c LruBegin VcLv LruVis LruVis2 LrWorld LrWorld2 LrWorld3.
-/
import Derived.Test.YtjggeoghlicmdaaGreatLruRunsP6
set_option linter.unusedVariables false
namespace Go.Proofs.YtjggeoghlicmdaaGreat
open Go Go.AS Go.RowKit
section
variable {H H':Heap} {R:Value->Heap->Prop} {L:List Asr} {va:Option Addr} {y vn:Nat} {lb wb:Option Nat} {kd fl cpu:Int} {key val:Wd} {D:Dq} {p:Wd×Nat} {d:D5} {E:Int}
theorem find_first {α:Type}{f:α->Bool}{l:List α}{i:Nat}{x:α}(h:l[i]? =some x)(hk:f x=true)(hno:∀z∈l.take i,¬f z=true):l.find? f=some x:=by
 have⟨hl,hg⟩:=List.getElem?_eq_some_iff.1 h;have e:l=l.take i++(x::l.drop (i+1)):=by rw [<-hg,<-List.drop_eq_getElem_cons hl,List.take_append_drop]
 rw [e,List.find?_append,List.find?_eq_none.2 hno,Option.none_or,List.find?_cons_of_pos hk]
theorem dnext_s (o:Ok16 E lb wb D)(h:Sep H (y16 y d lb wb D::l16 lb D::L))
  (hR:∀H',Sep H' (y16 y d lb wb D::l16 lb D::L)->R (.agg #[I (D.next key fl).1,.slice none 0 0,W (D.next key fl).2.2.1,I 0]) H') :
  CA en F.crossbarref16_Map_next [P y,.agg #[I kd,W key,.slice va vn 0,I fl,I cpu]] H R:=by
 apply vc_crossbarref16_Map_next;have hle:=o.short;have hkl:=keys_len (D:=D);refine Sep.nw h λi1 H2 h2=>Sep.nw h2 λi3 H4 h4=>?_
 refine dkeys_s o (h4.perm (by exact (List.perm_append_comm (l₁:=[_,_]) (l₂:=[_,_])).append_right _):Sep H4 (y16 y d lb wb D::l16 lb D::bx i3 _::bx i1 _::L)) λH6 q hq h6=>⟨_,_,rfl,?_⟩
 refine use_crossbarref16_Map_next_0 (λk t6 H'=>∃j:Nat,j<=D.keys.length/\k=D.keys.length - j/\t6=(j:Int)/\(∀x∈D.keys.take j,¬meant key fl x=true)/\
  Sep H' (gl 1 q (wds D.keys)::y16 y d lb wb D::l16 lb D::bx i3 (.cells true 0 [I 0,.slice none 0 0,W 0,I 0])::bx i1 (.cells true 0 [I kd,W key,.slice va vn 0,I fl,I cpu])::L)) D.keys.length ⟨0,Nat.zero_le _,rfl,rfl,λx hx=>by simp at hx,h6⟩ ?_
 clear h6 h4 h2 h;rintro k t6 ys H ⟨j,hj,rfl,rfl,hno,h⟩;have hw:q=none->wds D.keys=[]:=λe=>by rw [hq e];rfl
 have fin:∀{H:Heap}{w:Wd}{n:Int},D.next key fl=(n,[],w,0)->AS.Sep H (gl 1 q (wds D.keys)::y16 y d lb wb D::l16 lb D::bx i3 (.cells true 0 [I n,.slice none 0 0,W w,I 0])::bx i1 (.cells true 0 [I kd,W key,.slice va vn 0,I fl,I cpu])::L)->
   (∃n12,∃a13 i14,∃n15,∃n16,H.cellsAt i3 0 4=some [(I n12),(.slice a13 i14 0),(.int .u64 n15),(I n16)]/\R (.agg #[(I n12),(.slice a13 i14 0),(.int .u64 n15),(I n16)]) H):=λ{H w n} e hs=>by
  have:=hR H (Sep.pick hs 5 [1,2] (by decide))
  rw [e] at this;exact ⟨_,_,_,_,_,Sep.lds3 hs rfl,this⟩
 refine cond_of (λz=>?_) λz=>?_
 ·have z:j<D.keys.length:=by have:=of_decide_eq_true z;omega
  have⟨x,hx⟩:∃x,D.keys[j]? =some x:=⟨_,List.getElem?_eq_getElem z⟩;have ew:IntKind.i64.wrap ((j:Int)+1)=((j+1:Nat):Int):=by rw [wrap_i64 (by omega)];omega
  have hB:=h.bump 12;have hc0:(wds D.keys)[j]? =some (W x):=by rw [List.getElem?_map,hx];rfl
  have hin:inB (j:Int) D.keys.length:=⟨by omega,by omega⟩;have yes:meant key fl x=true->(inB (j:Int) D.keys.length/\asRow (addr q) λi2 i3'=>∃n4,(H.bump 12).cell i2 (i3'+((j:Int).toNat*1))=some (.int .u64 n4)/\
    stc (H.bump 12) i3 0 [(I 0),(.slice none 0 0),(.int .u64 n4),(I 0)] λH5=>∃n12,∃a13 i14,∃n15,∃n16,H5.cellsAt i3 0 4=some [(I n12),(.slice a13 i14 0),(.int .u64 n15),(I n16)]/\R (.agg #[(I n12),(.slice a13 i14 0),(.int .u64 n15),(I n16)]) H5):=λhm=>by
   refine ⟨hin,gl_ld hB hw hc0 λi hc=>⟨_,by rw [Int.toNat_natCast,Nat.mul_one];exact hc,?_⟩⟩;refine Sep.st3 hB (Nat.le_of_ble_eq_true rfl) λH5 h5=>fin ?_ h5
   unfold Dq.next;rw [find_first hx hm hno]
  refine ⟨_,Sep.ld4 hB rfl,cond_of (λw=>?_) λw=>?_⟩
  ·have w:fl=1:=by simpa using w
   exact ⟨yes (by unfold meant;rw [w];rfl),trivial⟩
  ·have w:fl≠1:=by simpa using w
   refine ⟨hin,gl_ld hB hw hc0 λi hc=>⟨_,by rw [Int.toNat_natCast,Nat.mul_one];exact hc,_,Sep.ld4 hB rfl,cond_of (λw2=>?_) λw2=>?_,trivial⟩⟩
   ·have w2:=of_decide_eq_true w2;exact yes (by unfold meant;simp only [Bool.or_eq_true,decide_eq_true_eq];right;omega)
   ·have w2:=of_decide_eq_false w2;refine ⟨D.keys.length - (j+1),by omega,j+1,z,rfl,ew,λv hv=>?_,hB⟩;rw [List.take_add_one,hx] at hv;rcases List.mem_append.1 hv with hv|hv
    ·exact hno v hv
    ·simp only [Option.toList_some,List.mem_singleton] at hv;subst hv;unfold meant;simp only [Bool.or_eq_true,beq_iff_eq,decide_eq_true_eq];omega
 ·have z:j=D.keys.length:=by have:=of_decide_eq_false z;omega
  subst z;rw [List.take_length] at hno;refine Sep.st3 h (Nat.le_of_ble_eq_true rfl) λH5 h5=>fin (w:=0) ?_ h5
  unfold Dq.next;rw [List.find?_eq_none.2 hno]
def OVal (kd:Int)(va:Option Addr)(vn:Nat)(val:Wd)(L:List Asr):Prop:=kd=2->1<=vn/\∃iv:Nat,va=some ⟨iv,0,none⟩/\∀H,Sep H L->H.cell iv 0=some (W val)
def Dq.add (D:Dq)(p:Wd×Nat):Dq:={D with L:=D.L++[p]}
theorem nodup_snoc {l:List Wd}{k:Wd}(h:l.Nodup)(hk:k∉l):(l++[k]).Nodup:=by
 rw [List.nodup_append];refine ⟨h,by simp,?_⟩;intro a ha b hb;simp only [List.mem_singleton] at hb;subst hb;exact λe=>hk (e▸ha)
theorem Ok16.add (o:Ok16 E lb wb D){b:Nat}(hk:p.1∉D.L.map (·.1))(he:(D.L.length:Int)<E)(hp:1<=p.2/\p.2<=D.ws.length):Ok16 E (some b) wb (D.add p):=
 ⟨(λe=>by cases e),o.n2,by show ((D.L++[p]).length:Int)<=E;simp;omega,o.e1,o.e2,o.lv,λx hx=>by
  rcases List.mem_append.1 hx with hx|hx
  ·exact o.el x hx
  ·simp only [List.mem_singleton] at hx;subst hx;exact hp,by
  show ((D.L++[p]).map (·.1)).Nodup
  rw [List.map_append]
  exact nodup_snoc o.nd hk⟩
theorem cut_not {a:Nat}(o:Ok16 E lb wb D)(h:D.L[a]? =some p):p.1∉(D.cut a).L.map (·.1):=by
 rw [cut_less o h];intro hm;have⟨x,hx,e⟩:=List.mem_map.1 hm
 have:=(List.mem_filter.1 hx).2
 simp only [bne_iff_ne,ne_eq] at this;exact this e
theorem apd16 {K:Option Addr->Nat->Heap->Prop}(o:Ok16 E lb wb D)(h:Sep H (l16 lb D::L))(hR:∀H' b,Sep H' (l16 (some b) (D.add p)::L)->K (addr (some b)) (D.add p).L.length H'):apd H 16 2 (addr lb) D.L.length 1 (prow p) K:=by
 have hle:=o.short;refine apd_gl (b:=lb) (cs:=(prows D.L).flatten) (new:=prow p) h (n16 o.n1) (by decide) (prows_flat _) (by decide) rfl (by omega) λH' q h'=>?_
 have:=hR H' q (by show AS.Sep H' (gl 2 (some q) (prows (D.L++[p])).flatten::L);rw [prows_snoc];exact h')
 have e:(D.add p).L.length=D.L.length+1:=by show (D.L++[p]).length=_;simp
 rw [e] at this;exact this
def rV (r:Rs)(g:Option Nat):Value:=.agg #[I r.1,.slice (addr g) r.2.1.length 0,W r.2.2.1,I r.2.2.2]
theorem dupdate_s {at_:Int}(o:Ok16 E lb wb D)(he:d.b=E)(hv:OVal 2 va vn val L)(hl:D.ws.length<1000000)(h:Sep H (y16 y d lb wb D::l16 lb D::w16 wb D::L))
  (hat:(∃(i:Nat)(p:Wd×Nat),at_=(i:Int)/\D.L[i]? =some p/\p.1=key/\D.find key=some p)∨(at_= -1/\D.find key=none))
  (hR:∀H' lb' wb',Ok16 E lb' wb' (D.do E 2 key fl val).2->Sep H' (y16 y d lb' wb' (D.do E 2 key fl val).2::l16 lb' (D.do E 2 key fl val).2::w16 wb' (D.do E 2 key fl val).2::L)->R (.agg #[I (D.do E 2 key fl val).1.1,.slice none 0 0,W 0,I 0]) H') :
  CA en F.crossbarref16_Map_update [P y,.agg #[I kd,W key,.slice va vn 0,I fl,I cpu],I at_] H R:=by
 apply vc_crossbarref16_Map_update;have hle:=o.short;obtain ⟨hvn,iv,rfl,hkv⟩:=hv rfl;refine Sep.nw h λi1 H2 h2=>Sep.nw h2 λi3 H4 h4=>?_
 have fin:∀{H:Heap}{n:Int}{lb' wb':Option Nat},(D.do E 2 key fl val).1.1=n->Ok16 E lb' wb' (D.do E 2 key fl val).2->AS.Sep H (bx i3 (.cells true 0 [I n,.slice none 0 0,W 0,I 0])::y16 y d lb' wb' (D.do E 2 key fl val).2::l16 lb' (D.do E 2 key fl val).2::w16 wb' (D.do E 2 key fl val).2::L)->
   (∃n12,∃a13 i14,∃n15,∃n16,H.cellsAt i3 0 4=some [(I n12),(.slice a13 i14 0),(.int .u64 n15),(I n16)]/\R (.agg #[(I n12),(.slice a13 i14 0),(.int .u64 n15),(I n16)]) H):=λ{H n lb' wb'} e ok hs=>by
  have:=hR H _ _ ok hs.tail
  rw [e] at this;exact ⟨_,_,_,_,_,Sep.lds0 hs rfl,this⟩
 refine cond_of (λz=>?_) λz=>?_
 ·have z:=of_decide_eq_true z;obtain ⟨i,p,rfl,hp,hk,hf⟩:=hat.resolve_right λ⟨e,_⟩=>by omega
  refine ⟨_,Sep.ld1 h4 rfl,cond_of (λw=>?_) λw=>?_⟩
  ·have w:fl=1:=by simpa using w
   have ed:D.do E 2 key fl val=((3,[],0,0),D):=by unfold Dq.do;rw [if_neg (by decide),hf];simp only [if_true];rw [if_pos w]
   rw [ed] at fin;exact Sep.st0 h4 (Nat.le_of_ble_eq_true rfl) λH6 h6=>fin rfl o (Sep.rm1 h6)
  ·have w:fl≠1:=by simpa using w
   have ed:D.do E 2 key fl val=((0,[],0,0),⟨D.less key++[p],D.ws.set (p.2 - 1) val⟩):=by unfold Dq.do;rw [if_neg (by decide),hf];simp only [if_true];rw [if_neg w]
   rw [ed] at fin;have hel:=o.el p (List.mem_of_getElem? hp);have hlv:=o.lv;refine dout_s o (Sep.pick h4 5 [2,3,4,0,1] (by decide)) hp λH13 lb1 o1 h13=>⟨_,_,rfl,?_⟩
   refine Sep.nw h13 λi16 H17 h17=>Sep.st0 h17 (Nat.le_of_ble_eq_true rfl) λH18 h18=>?_
   have hB:=h18.bump 11;refine asAddr_in ⟨_,_,Sep.ld1 hB rfl,_,_,Sep.lds0 hB rfl,?_⟩;refine Sep.nw hB λi25 H26 h26=>⟨prow p,rowOf_bx (es:=2) (Sep.get0 h26) (by decide) rfl,?_⟩
   refine apd16 (p:=p) o1 (Sep.up3 h26) λH30 b h30=>?_
   have hlt:((D.cut i).L.length:Int)<E:=by
    have h1:=o.le;have h2:(D.L.eraseIdx i).length=D.L.length - 1:=List.length_eraseIdx_of_lt (List.getElem?_eq_some_iff.1 hp).1;have h3:=(List.getElem?_eq_some_iff.1 hp).1;show ((D.L.eraseIdx i).length:Int)<E;omega
   have o2:=o1.add (p:=p) (b:=b) (cut_not o hp) hlt hel;refine asAddr_in (Sep.st3 h30 (Nat.le_of_ble_eq_true rfl) λH33 h33=>⟨?_,⟨⟨_,_,Sep.ld1 hB rfl,rfl,rfl,rfl⟩,⟨_,_,Sep.ld2 h26 rfl,rfl,rfl,rfl⟩,trivial⟩,trivial⟩);have hC:=h33.bump 13;have ew:IntKind.i64.wrap ((p.2:Int) - 1)=((p.2 - 1:Nat):Int):=by rw [wrap_i64 (by omega)];omega
   refine asAddr_in ⟨_,_,Sep.ld3 hC rfl,_,Sep.ld2 hC rfl,_,_,Sep.ld6 hC rfl,⟨by omega,by omega⟩,asRow_in ⟨_,hkv _ (hC.drop 7),?_⟩⟩;rw [ew];refine ⟨⟨by omega,by rw [show (D.cut i).ws=D.ws from rfl];omega⟩,?_⟩;have hD:=Sep.up4 hC;have hw2:wb=none->D.ws.map W=[]:=λe=>by rw [o.n2 e];rfl
   refine gl_st' hD hw2 (o:=((p.2 - 1:Nat):Int).toNat*1) (vs:=[W val]) (by rw [Int.toNat_natCast,List.length_map];simp only [List.length_cons,List.length_nil];omega) (by simp) λi' H50 h50=>⟨?_,trivial⟩
   rw [Int.toNat_natCast,Nat.mul_one,setAt1] at h50;refine Sep.st5 h50 (Nat.le_of_ble_eq_true rfl) λH51 h51=>?_
   have e4:(D.cut i).add p=⟨D.less key++[p],D.ws⟩:=by rw [cut_less o hp,hk];rfl
   have e5:Ok16 E (some b) wb ⟨D.less key++[p],D.ws.set (p.2 - 1) val⟩:=by
    rw [e4] at o2;exact ⟨o2.n1,λe=>by show D.ws.set (p.2 - 1) val=[];rw [o2.n2 e];rfl,o2.le,o2.e1,o2.e2,by show (D.ws.set (p.2 - 1) val).length<=_;rw [List.length_set];exact o2.lv,λx hx=>by show _/\_<=(D.ws.set (p.2 - 1) val).length;rw [List.length_set];exact o2.el x hx,o2.nd⟩
   refine fin rfl e5 ?_;have h52:=Sep.pick h51 7 [5,4,1,0] (by decide);rw [e4] at h52;have e6:(D.ws.map W).set (p.2 - 1) (W val)=(D.ws.set (p.2 - 1) val).map W:=(List.map_set ..).symm;rw [e6] at h52;show Sep H51 (bx i3 _::bx y (.cells true 0 [I d.a,I d.b,I d.c,I d.d,I d.e,.slice (addr (some b)) (D.less key++[p]).length 0,.slice (addr wb) (D.ws.set (p.2 - 1) val).length 0])::_);rw [List.length_set];exact h52
 ·have z:=of_decide_eq_false z;obtain ⟨rfl,hf⟩:=hat.resolve_left λ⟨i,p,e,_⟩=>by omega
  have hkno:key∉D.L.map (·.1):=λhm=>by
   have⟨x,hx,e⟩:=List.mem_map.1 hm
   have:=List.find?_eq_none.1 hf x hx
   simp only [beq_iff_eq] at this;exact this e
  refine ⟨_,Sep.ld1 h4 rfl,cond_of (λw=>?_) λw=>?_⟩
  ·have w:fl=2:=by simpa using w
   have ed:D.do E 2 key fl val=((2,[],0,0),D):=by unfold Dq.do;rw [if_neg (by decide),hf];simp only;rw [if_pos (.inr w)]
   rw [ed] at fin;exact Sep.st0 h4 (Nat.le_of_ble_eq_true rfl) λH6 h6=>fin rfl o (Sep.rm1 h6)
  ·have w:fl≠2:=by simpa using w
   have ed:D.do E 2 key fl val=((0,[],0,0),⟨(if (D.L.length:Int)<E then D.L else D.L.drop 1)++[(key,D.ws.length+1)],D.ws++[val]⟩):=by
    unfold Dq.do;rw [if_neg (by decide),hf];simp only;rw [if_neg (by simp;exact w)]
   rw [ed] at fin;have hlv:=o.lv;have hB:=h4.bump 11;refine asAddr_in ⟨_,_,Sep.ld2 hB rfl,asAddr_in ⟨_,Sep.ld2 hB rfl,⟨?_,trivial⟩⟩⟩;refine cond_of (λw2=>?_) λw2=>?_
   ·have w2:(D.L.length:Int)=E:=by rw [<-he];simpa using w2
    have he1:=o.e1;have⟨p0,hp0⟩:∃p,D.L[0]? =some p:=⟨_,List.getElem?_eq_getElem (by omega)⟩;refine dout_s (a:=0) o (Sep.pick hB 5 [2,3,4,0,1] (by decide)) hp0 λH72 lb1 o1 h72=>⟨_,_,rfl,?_⟩
    have eD:(D.cut 0)=⟨D.L.drop 1,D.ws⟩:=by unfold Dq.cut;rw [List.drop_one];cases D.L<;>rfl
    have hlt:((D.cut 0).L.length:Int)<E:=by rw [eD];show ((D.L.drop 1).length:Int)<E;rw [List.length_drop];omega
    have hkno2:key∉(D.cut 0).L.map (·.1):=λhm=>hkno (by rw [eD] at hm;exact List.map_subset _ (List.drop_subset ..) hm)
    rw [if_neg (by omega)] at fin;have e4:Dq.mk (D.L.drop 1++[(key,D.ws.length+1)]) (D.ws++[val])=⟨(D.cut 0).L++[(key,(D.cut 0).ws.length+1)],(D.cut 0).ws++[val]⟩:=by rw [eD]
    rw [e4] at fin;have h72:AS.Sep H72 (y16 y d lb1 wb (D.cut 0)::l16 lb1 (D.cut 0)::w16 wb (D.cut 0)::bx i3 (.cells true 0 [I 0,.slice none 0 0,W 0,I 0])::bx i1 (.cells true 0 [I kd,W key,.slice (some ⟨iv,0,none⟩) vn 0,I fl,I cpu])::L):=h72;generalize hD':D.cut 0=D' at *;have hlw:D'.ws.length<1000000:=by rw [<-hD'];exact hl
    have hC:=h72.bump 14;refine asAddr_in ⟨_,_,Sep.ld0 hC rfl,_,_,Sep.ld4 hC rfl,⟨by omega,by omega⟩,asRow_in ⟨_,hkv _ (hC.drop 5),?_⟩⟩;refine Sep.nw hC λi84 H85 h85=>⟨[W val],rowOf_bx (es:=1) (Sep.get0 h85) (by decide) rfl,?_⟩
    refine apd_gl (b:=wb) (cs:=D'.ws.map W) (new:=[W val]) (Sep.up3 h85) (λe=>by rw [o1.n2 e];rfl) (by decide) (by rw [List.length_map];omega) (by decide) rfl (by omega) λH89 wq h89=>?_
    refine asAddr_in (Sep.st2 h89 (Nat.le_of_ble_eq_true rfl) λH92 h92=>⟨?_,⟨⟨_,_,Sep.ld0 hC rfl,rfl,rfl,rfl⟩,⟨_,_,Sep.ld1 h85 rfl,rfl,rfl,rfl⟩,trivial⟩,trivial⟩);have hE:=h92.bump 18;refine asAddr_in ⟨_,_,Sep.ld2 hE rfl,_,Sep.ld5 hE rfl,asAddr_in ⟨_,_,Sep.ld2 hE rfl,?_⟩⟩;refine Sep.nw hE λi106 H107 h107=>⟨prow (key,D'.ws.length+1),rowOf_bx (es:=2) (Sep.get0 h107) (by decide) rfl,?_⟩
    refine apd16 (p:=(key,D'.ws.length+1)) o1 (Sep.up4 h107) λH111 b h111=>?_
    refine asAddr_in (Sep.st4 h111 (Nat.le_of_ble_eq_true rfl) λH114 h114=>⟨?_,⟨⟨_,_,Sep.ld2 hE rfl,rfl,rfl,rfl⟩,⟨_,_,Sep.ld3 h107 rfl,rfl,rfl,rfl⟩,trivial⟩,trivial⟩);refine Sep.st5 h114 (Nat.le_of_ble_eq_true rfl) λH119 h119=>fin (lb':=some b) (wb':=some wq) rfl ?_ ?_
    ·refine ⟨(λe=>by cases e),(λe=>by cases e),by show ((D'.L++[_]).length:Int)<=E;simp;omega,o1.e1,o1.e2,by show (D'.ws++[_]).length<=_;simp;omega,λx hx=>?_,?_⟩
     ·show _/\_<=(D'.ws++[val]).length;rw [List.length_append];rcases List.mem_append.1 hx with hx|hx
      ·have:=o1.el x hx;exact ⟨this.1,by omega⟩
      ·simp only [List.mem_singleton] at hx;subst hx;exact ⟨by simp,by simp⟩
     ·show ((D'.L++[(key,D'.ws.length+1)]).map (·.1)).Nodup;rw [List.map_append];exact nodup_snoc o1.nd hkno2
    ·have h120:=Sep.pick h119 7 [5,4,0,2] (by decide);have e9:D'.ws.map W++[W val]=(D'.ws++[val]).map W:=by rw [List.map_append];rfl
     rw [e9] at h120;show Sep H119 (bx i3 _::bx y (.cells true 0 [I d.a,I d.b,I d.c,I d.d,I d.e,.slice (addr (some b)) (D'.L++[(key,D'.ws.length+1)]).length 0,.slice (addr (some wq)) (D'.ws++[val]).length 0])::_);have e10:(D'.ws++[val]).length=D'.ws.length+1:=by simp
     rw [e10];exact h120
   ·have w2:¬(D.L.length:Int)=E:=by rw [<-he];simpa using w2
    have hlt:(D.L.length:Int)<E:=by have:=o.le;omega
    rw [if_pos hlt] at fin;have hC:=hB.bump 14;refine asAddr_in ⟨_,_,Sep.ld2 hC rfl,_,_,Sep.ld1 hC rfl,⟨by omega,by omega⟩,asRow_in ⟨_,hkv _ (hC.drop 5),?_⟩⟩;refine Sep.nw hC λi84 H85 h85=>⟨[W val],rowOf_bx (es:=1) (Sep.get0 h85) (by decide) rfl,?_⟩
    refine apd_gl (b:=wb) (cs:=D.ws.map W) (new:=[W val]) (Sep.up5 h85) (λe=>by rw [o.n2 e];rfl) (by decide) (by rw [List.length_map];omega) (by decide) rfl (by omega) λH89 wq h89=>?_
    refine asAddr_in (Sep.st4 h89 (Nat.le_of_ble_eq_true rfl) λH92 h92=>⟨?_,⟨⟨_,_,Sep.ld2 hC rfl,rfl,rfl,rfl⟩,⟨_,_,Sep.ld3 h85 rfl,rfl,rfl,rfl⟩,trivial⟩,trivial⟩);have hE:=h92.bump 18;refine asAddr_in ⟨_,_,Sep.ld4 hE rfl,_,Sep.ld3 hE rfl,asAddr_in ⟨_,_,Sep.ld4 hE rfl,?_⟩⟩;refine Sep.nw hE λi106 H107 h107=>⟨prow (key,D.ws.length+1),rowOf_bx (es:=2) (Sep.get0 h107) (by decide) rfl,?_⟩
    refine apd16 (p:=(key,D.ws.length+1)) o (Sep.up6 h107) λH111 b h111=>?_
    refine asAddr_in (Sep.st6 h111 (Nat.le_of_ble_eq_true rfl) λH114 h114=>⟨?_,⟨⟨_,_,Sep.ld4 hE rfl,rfl,rfl,rfl⟩,⟨_,_,Sep.ld5 h107 rfl,rfl,rfl,rfl⟩,trivial⟩,trivial⟩);refine Sep.st4 h114 (Nat.le_of_ble_eq_true rfl) λH119 h119=>fin (lb':=some b) (wb':=some wq) rfl ?_ ?_
    ·refine ⟨(λe=>by cases e),(λe=>by cases e),by show ((D.L++[_]).length:Int)<=E;simp;omega,o.e1,o.e2,by show (D.ws++[_]).length<=_;simp;omega,λx hx=>?_,?_⟩
     ·show _/\_<=(D.ws++[val]).length;rw [List.length_append];rcases List.mem_append.1 hx with hx|hx
      ·have:=o.el x hx;exact ⟨this.1,by omega⟩
      ·simp only [List.mem_singleton] at hx;subst hx;exact ⟨by simp,by simp⟩
     ·show ((D.L++[(key,D.ws.length+1)]).map (·.1)).Nodup;rw [List.map_append];exact nodup_snoc o.nd hkno
    ·have h120:=Sep.pick h119 7 [4,6,0,2] (by decide);have e9:D.ws.map W++[W val]=(D.ws++[val]).map W:=by rw [List.map_append];rfl
     rw [e9] at h120;show Sep H119 (bx i3 _::bx y (.cells true 0 [I d.a,I d.b,I d.c,I d.d,I d.e,.slice (addr (some b)) (D.L++[(key,D.ws.length+1)]).length 0,.slice (addr (some wq)) (D.ws++[val]).length 0])::_);have e10:(D.ws++[val]).length=D.ws.length+1:=by simp
     rw [e10];exact h120
end
section
variable {H H':Heap} {R:Value->Heap->Prop} {L:List Asr} {A:Asr} {va:Option Addr} {y vn:Nat} {lb wb:Option Nat} {kd fl cpu:Int} {key val:Wd} {D:Dq} {p:Wd×Nat} {d:D5} {E:Int}
theorem OVal.cons (h:OVal kd va vn val L):OVal kd va vn val (A::L):=λe=>by
 have⟨h1,iv,h2,h3⟩:=h e
 exact ⟨h1,iv,h2,λH hs=>h3 H hs.tail⟩
theorem Dq.do_res {kd:Int}{fl:Int}{key val:Wd}(h:kd=2):(D.do E kd key fl val).1.2=([],0,0):=by
 unfold Dq.do;rw [if_neg (by omega)];split
 ·rw [if_pos h];split<;>rfl
 ·split<;>rfl
theorem next_shape:(D.next key fl).2.1=[]/\(D.next key fl).2.2.2=0:=by unfold Dq.next;split<;>exact ⟨rfl,rfl⟩
theorem ddo_s (o : Ok16 E lb wb D) (he : d.b = E) (hv : OVal kd va vn val L) (hl : D.ws.length < 1000000) (h : Sep H (y16 y d lb wb D :: l16 lb D :: w16 wb D :: L))
    (hR : ∀ H' lb' wb' g, Ok16 E lb' wb' (D.do E kd key fl val).2 → (g = none → (D.do E kd key fl val).1.2.1 = []) → Sep H' (gl 1 g (wds (D.do E kd key fl val).1.2.1) :: y16 y d lb' wb' (D.do E kd key fl val).2 :: l16 lb' (D.do E kd key fl val).2 :: w16 wb' (D.do E kd key fl val).2 :: L) → R (rV (D.do E kd key fl val).1 g) H') :
    CA en F.crossbarref16_Map_Do [P y, .agg #[I kd, W key, .slice va vn 0, I fl, I cpu]] H R := by
  apply vc_crossbarref16_Map_Do
  have hle := o.short
  have hlv := o.lv
  refine Sep.nw h fun i1 H2 h2 => Sep.nw h2 fun i3 H4 h4 => ?_
  -- i3 i1 y l w
  have fin : ∀ {H : Heap} {r : Rs} {D' : Dq} {lb' wb' : Option Nat} {g : Option Nat}, D.do E kd key fl val = (r, D') → Ok16 E lb' wb' D' → (g = none → r.2.1 = []) → AS.Sep H (bx i3 (.cells true 0 [I r.1, .slice (addr g) r.2.1.length 0, W r.2.2.1, I r.2.2.2]) :: gl 1 g (wds r.2.1) :: y16 y d lb' wb' D' :: l16 lb' D' :: w16 wb' D' :: L) →
      (∃ n12, ∃ a13 i14, ∃ n15, ∃ n16, H.cellsAt i3 0 4 = some [(I n12), (.slice a13 i14 0), (.int .u64 n15), (I n16)] ∧ R (.agg #[(I n12), (.slice a13 i14 0), (.int .u64 n15), (I n16)]) H) := fun {H r D' lb' wb' g} e ok hg hs => by
    have := hR H lb' wb' g
    rw [e] at this
    exact ⟨_, _, _, _, _, Sep.lds0 hs rfl, this ok hg hs.tail⟩
  have h5 : AS.Sep H4 (y16 y d lb wb D :: l16 lb D :: w16 wb D :: bx i3 (.cells true 0 [I 0, .slice none 0 0, W 0, I 0]) :: bx i1 (.cells true 0 [I kd, W key, .slice va vn 0, I fl, I cpu]) :: L) := Sep.pick h4 5 [2, 3, 4, 0, 1] (by decide)
  clear h4 h2 h
  refine ⟨_, Sep.ld4 h5 rfl, ?_⟩
  refine dfind_s o h5 (fun i p hp hk hf => ?_) fun hf => ?_
  · refine ⟨_, rfl, _, Sep.ld4 h5 rfl, cond_of (fun z => ?_) fun z => ?_⟩
    · have z : kd = 4 := by simpa using z
      refine ⟨_, _, _, _, _, _, Sep.lds4 h5 rfl, dnext_s o h5 fun H17 h17 => ⟨_, _, _, _, _, rfl, Sep.st3 h17 (Nat.le_of_ble_eq_true rfl) fun H23 h23 => ?_⟩⟩
      refine fin (r := D.next key fl) (D' := D) (g := none) (if_pos z) o (fun _ => next_shape.1) ?_
      rw [next_shape.1, next_shape.2]
      exact (gl_none.2 (Sep.pick h23 5 [3, 0, 1, 2] (by decide))).swap
    have z : kd ≠ 4 := by simpa using z
    refine ⟨_, Sep.ld4 h5 rfl, cond_of (fun z2 => ?_) fun z2 => ?_⟩
    · have z2 : kd = 2 := by simpa using z2
      subst z2
      refine ⟨_, _, _, _, _, _, Sep.lds4 h5 rfl, dupdate_s o he hv.cons.cons hl h5 (.inl ⟨i, p, rfl, hp, hk, hf⟩) fun H37 lb' wb' o' h37 => ⟨_, _, _, _, _, rfl, Sep.st3 h37 (Nat.le_of_ble_eq_true rfl) fun H43 h43 => ?_⟩⟩
      have e0 := Dq.do_res (D := D) (E := E) (fl := fl) (key := key) (val := val) (rfl : (2 : Int) = 2)
      refine fin (r := ((D.do E 2 key fl val).1.1, [], 0, 0)) (D' := (D.do E 2 key fl val).2) (g := none) (by rw [← e0]) o' (fun _ => rfl) ?_
      exact (gl_none.2 (Sep.pick h43 5 [3, 0, 1, 2] (by decide))).swap
    have z2 : kd ≠ 2 := by simpa using z2
    refine cond_of (fun z3 => ?_) fun z3 => ?_
    · have := of_decide_eq_true z3; omega
    have hel := o.el p (List.mem_of_getElem? hp)
    refine dout_s (H := H4) o h5 hp fun H56 lb1 o1 h56 => ⟨_, _, rfl, ?_⟩
    -- y l w i3 i1
    refine Sep.nw h56 fun i59 H60 h60 => Sep.st0 h60 (Nat.le_of_ble_eq_true rfl) fun H61 h61 => ?_
    have h61 : AS.Sep H61 (bx i59 (.cells true 0 [W p.1, I p.2]) :: y16 y d lb1 wb (D.cut i) :: l16 lb1 (D.cut i) :: w16 wb (D.cut i) :: bx i3 (.cells true 0 [I 0, .slice none 0 0, W 0, I 0]) :: bx i1 (.cells true 0 [I kd, W key, .slice va vn 0, I fl, I cpu]) :: L) := h61
    have hB := h61.bump 10
    have ew : IntKind.i64.wrap ((p.2 : Int) - 1) = ((p.2 - 1 : Nat) : Int) := by rw [wrap_i64 (by omega)]; omega
    obtain ⟨v, hv'⟩ : ∃ v, D.ws[p.2 - 1]? = some v := ⟨_, List.getElem?_eq_getElem (by omega)⟩
    have ev : D.ws.getD (p.2 - 1) 0 = v := by rw [List.getD_eq_getElem?_getD, hv']; rfl
    refine asAddr_in ⟨_, _, Sep.ld1 hB rfl, _, Sep.ld0 hB rfl, ?_⟩
    rw [ew]
    refine ⟨⟨by omega, by show _ < ((D.cut i).ws.length : Int); rw [show (D.cut i).ws = D.ws from rfl]; omega⟩, ?_⟩
    refine gl_ld (Sep.up3 hB) (fun e => by rw [o1.n2 e]; rfl) (o := p.2 - 1) (v := W v) (by rw [List.getElem?_map]; show (D.ws[p.2 - 1]?).map W = _; rw [hv']; rfl) fun iw hc => ⟨_, by rw [Int.toNat_natCast, Nat.mul_one]; exact hc, ⟨_, Sep.ld5 hB rfl, ?_⟩, trivial⟩
    have e4 : D.cut i = ⟨D.less key, D.ws⟩ := by rw [cut_less o hp, hk]
    refine cond_of (fun z5 => ?_) fun z5 => ?_
    · have z5 : kd = 1 := by simpa using z5
      have ed : D.do E kd key fl val = ((0, [v], 0, p.2), ⟨D.less key ++ [p], D.ws⟩) := by
        unfold Dq.do; rw [if_neg z, hf]; simp only; rw [if_neg z2, if_pos z5, ev]
      have hC := hB.bump 11
      refine asAddr_in ⟨_, _, Sep.ld1 hC rfl, _, _, Sep.lds0 hC rfl, ?_⟩
      refine Sep.nw hC fun i77 H78 h78 => ⟨prow p, rowOf_bx (es := 2) (Sep.get0 h78) (by decide) rfl, ?_⟩
      -- i77 i59 y l w i3 i1
      refine apd16 (p := p) o1 (Sep.up3 h78) fun H82 b h82 => ?_
      -- l i77 i59 y w i3 i1
      have hlt : ((D.cut i).L.length : Int) < E := by
        have h1 := o.le
        have h2 : (D.L.eraseIdx i).length = D.L.length - 1 := List.length_eraseIdx_of_lt (List.getElem?_eq_some_iff.1 hp).1
        have h3 := (List.getElem?_eq_some_iff.1 hp).1
        show ((D.L.eraseIdx i).length : Int) < E
        omega
      have o2 := o1.add (p := p) (b := b) (cut_not o hp) hlt hel
      refine asAddr_in (Sep.st3 h82 (Nat.le_of_ble_eq_true rfl) fun H85 h85 => ⟨?_, ⟨⟨_, _, Sep.ld1 hC rfl, rfl, rfl, rfl⟩, ⟨_, _, Sep.ld2 h78 rfl, rfl, rfl, rfl⟩, trivial⟩, trivial⟩)
      refine Sep.nw h85 fun i90 H91 h91 => ⟨_, Sep.ld3 h91 rfl, ?_⟩
      -- i90 l i77 i59 y w i3 i1
      refine Sep.st6 h91 (Nat.le_of_ble_eq_true rfl) fun H93 h93 => ?_
      have e5 : (D.cut i).add p = ⟨D.less key ++ [p], D.ws⟩ := by rw [e4]; rfl
      rw [e5] at o2
      refine fin (g := some i90) ed o2 (fun e => by cases e) ?_
      have h94 := Sep.pick h93 8 [6, 0, 4, 1, 5] (by decide)
      rw [e5] at h94
      exact (gl_some.2 h94.swap).swap
    have z5 : kd ≠ 1 := by simpa using z5
    rw [e4] at o1
    refine cond_of (fun z6 => ?_) fun z6 => ?_
    · have z6 : kd = 5 := by simpa using z6
      have ed : D.do E kd key fl val = ((0, [v], 0, 0), ⟨D.less key, D.ws⟩) := by
        unfold Dq.do; rw [if_neg z, hf]; simp only; rw [if_neg z2, if_neg z5, if_pos z6, ev]
      refine Sep.nw hB fun i99 H100 h100 => ?_
      -- i99 i59 y l w i3 i1
      refine Sep.st5 h100 (Nat.le_of_ble_eq_true rfl) fun H101 h101 => ?_
      refine fin (g := some i99) ed o1 (fun e => by cases e) ?_
      have h102 := Sep.pick h101 7 [5, 0, 2, 3, 4] (by decide)
      rw [e4] at h102
      exact (gl_some.2 h102.swap).swap
    · have z6 : kd ≠ 5 := by simpa using z6
      have ed : D.do E kd key fl val = ((0, [], 0, 0), ⟨D.less key, D.ws⟩) := by
        unfold Dq.do; rw [if_neg z, hf]; simp only; rw [if_neg z2, if_neg z5, if_neg z6]
      refine Sep.st4 hB (Nat.le_of_ble_eq_true rfl) fun H107 h107 => ?_
      refine fin (g := none) ed o1 (fun _ => rfl) ?_
      have h108 := Sep.pick h107 6 [4, 1, 2, 3] (by decide)
      rw [e4] at h108
      exact (gl_none.2 h108).swap
  · refine ⟨_, rfl, _, Sep.ld4 h5 rfl, cond_of (fun z => ?_) fun z => ?_⟩
    · have z : kd = 4 := by simpa using z
      refine ⟨_, _, _, _, _, _, Sep.lds4 h5 rfl, dnext_s o h5 fun H17 h17 => ⟨_, _, _, _, _, rfl, Sep.st3 h17 (Nat.le_of_ble_eq_true rfl) fun H23 h23 => ?_⟩⟩
      refine fin (r := D.next key fl) (D' := D) (g := none) (if_pos z) o (fun _ => next_shape.1) ?_
      rw [next_shape.1, next_shape.2]
      exact (gl_none.2 (Sep.pick h23 5 [3, 0, 1, 2] (by decide))).swap
    have z : kd ≠ 4 := by simpa using z
    refine ⟨_, Sep.ld4 h5 rfl, cond_of (fun z2 => ?_) fun z2 => ?_⟩
    · have z2 : kd = 2 := by simpa using z2
      subst z2
      refine ⟨_, _, _, _, _, _, Sep.lds4 h5 rfl, dupdate_s o he hv.cons.cons hl h5 (.inr ⟨rfl, hf⟩) fun H37 lb' wb' o' h37 => ⟨_, _, _, _, _, rfl, Sep.st3 h37 (Nat.le_of_ble_eq_true rfl) fun H43 h43 => ?_⟩⟩
      have e0 := Dq.do_res (D := D) (E := E) (fl := fl) (key := key) (val := val) (rfl : (2 : Int) = 2)
      refine fin (r := ((D.do E 2 key fl val).1.1, [], 0, 0)) (D' := (D.do E 2 key fl val).2) (g := none) (by rw [← e0]) o' (fun _ => rfl) ?_
      exact (gl_none.2 (Sep.pick h43 5 [3, 0, 1, 2] (by decide))).swap
    have z2 : kd ≠ 2 := by simpa using z2
    refine cond_of (fun z3 => ?_) fun z3 => ?_
    · have ed : D.do E kd key fl val = ((2, [], 0, 0), D) := by
        unfold Dq.do; rw [if_neg z, hf]; simp only; rw [if_pos (.inl z2)]
      refine Sep.st3 h5 (Nat.le_of_ble_eq_true rfl) fun H49 h49 => ?_
      refine fin (g := none) ed o (fun _ => rfl) ?_
      exact (gl_none.2 (Sep.pick h49 5 [3, 0, 1, 2] (by decide))).swap
    · have := of_decide_eq_false z3; omega
end
section
variable {H H':Heap} {R:Value->Heap->Prop} {L M PL PL':List Asr} {r:Nat} {c:Lc} {q:Qr} {X:Gx}
theorem gtake_s (h:Sep H M)(hR:∀H' b,Sep H' (tkA c ⟨b,0,0⟩::M)->R (P b) H'):CA en F.lock_Take [P c.m,I c.h,I 0] H R:=by
 apply vc_lock_Take;exact Sep.nw h λb H2 h2=>Sep.st0 h2 (Nat.le_of_ble_eq_true rfl) λH3 h3=>hR H3 b h3
theorem renter_s {k:KS}{v:Value}(h:Rk H PL r c q X L)(hk:SV PL r k v)
  (hR:∀H' PL' b,Rk H' PL' r c {q with nx:=.enter ⟨b,0,0⟩ k} X L->R undef H'):CA en F.lru_Run_enter [P r,v] H R:=by
 have⟨sa,nv,hrv,hnv,hs⟩:=h.ex;obtain ⟨f,l,cs,rfl⟩:=hk.fn;apply vc_lru_Run_enter;refine Sep.nw hs λi1 H2 h2=>?_
 have hp:=h2.fore1 (n:=17) (a:=15) (.cells true 0 [.pointer none]) (by decide);generalize H2.next+15=tb at hp⊢;refine asAddr_in ⟨_,Sep.ld2 hp rfl,asAddr_in ⟨_,Sep.ld4 hp rfl,asAddr_in ⟨_,Sep.ld2 hp rfl,asAddr_in ⟨_,Sep.ld4 hp rfl,?_⟩⟩⟩⟩;refine gtake_s hp λH16 b h16=>⟨_,rfl,Sep.st1 h16 (Nat.le_of_ble_eq_true rfl) λH18 h18=>⟨asAddr_in (Sep.st3 h18 (Nat.le_of_ble_eq_true rfl) λH23 h23=>?_),⟨⟨_,Sep.get0 hp,rfl⟩,⟨_,Sep.get1 h16,rfl⟩,trivial⟩,trivial⟩⟩
 have hq:=sub_r (A:=PL) (λ_ h=>h) [b1 tb (P b),b1 i1 (.func (.func f) ⟨l⟩ ⟨cs⟩)];refine hR H23 ([b1 tb (P b),b1 i1 (.func (.func f) ⟨l⟩ ⟨cs⟩)]++PL) b ⟨sa,_,hrv.mono hq,.enter (g:=tb) (g2:=i1) (.head _) (.tail _ (.head _)) (hk.mono hq),?_⟩;have h24:=pool_ins [_,_] (Sep.pick h23 8 [1,2,4,3,5,6,0] (by decide));have h25:Sep H23 (tkA c ⟨b,0,0⟩::_::_::_::_::L):=Sep.up4 h24;have h26:=(Sep.many_iff (L:=[tkA c ⟨b,0,0⟩])).2 h25;exact Sep.pick h26 5 [2,1,3,4,0] (by decide)
theorem Begin_s {kd fl cpu:Int}{ky:BitVec 64}{va:Option Addr}{vs:List (BitVec 64)}{n:Nat}(h:Sep H (xA c::grA c.g c.m X::L))(hn:n=vs.length)
  (hv:∀w,vs.head? =some w->∃b o,va=some ⟨b,o,none⟩/\∀H',Sep H' L->H'.cell b o=some (W w))
  (hR:∀H' r PL b,Rk H' PL r c (Qr.new kd ky fl cpu (vs.headD 0) b) X L->R (P r) H'):CA en F.lru_Map_Begin [P c.x,.agg #[I kd,W ky,.slice va n 0,I fl,I cpu]] H R:=by
 subst hn;apply vc_lru_Map_Begin;refine Sep.nw h λi1 H2 h2=>⟨_,_,_,_,_,_,Sep.lds0 h2 rfl,Sep.nw h2 λr H10 h10=>⟨_,_,Sep.ld1 h10 rfl,?_⟩⟩
 have fin:∀H19 (q:Qr),q.rv=[]->q.nx=.none->Sep H19 (rA r c q none .nilFunc::xA c::grA c.g c.m X::L)->(∀b,{q with nx:=.enter ⟨b,0,0⟩ .begin}=Qr.new kd ky fl cpu (vs.headD 0) b)->CA en F.lru_Run_enter [P r,.func (.func F.lru_Run_begin) #[P r] #[]] H19 λv20 H21=>v20=undef/\R (P r) H21:=λH19 q e1 e2 h19 e3=>by
  have o:Rk H19 [] r c q X L:=⟨none,.nilFunc,.inl ⟨e1,rfl⟩,by rw [e2];exact .none,by
   have h20:Sep H19 (many []::many []::rA r c q none .nilFunc::xA c::grA c.g c.m X::L):=Sep.many0 (Sep.many0 h19);rw [e2];exact Sep.pick h20 5 [2,0,3,4,1] (by decide)⟩
  refine renter_s (k:=.begin) o .begin λH' PL' b o'=>⟨rfl,hR H' r PL' b ?_⟩
  rw [<-e3 b];exact o'
 refine cond_of (λe=>?_) λe=>?_
 ·have e:0<vs.length:=by have:=of_decide_eq_true e;omega
  obtain ⟨w,vs',rfl⟩:∃w vs',vs=w::vs':=by
   cases vs with
   |nil=>simp at e
   |cons w vs'=>exact ⟨w,vs',rfl⟩
  obtain ⟨b,o,rfl,hc⟩:=hv w rfl;refine ⟨_,_,Sep.ld1 h10 rfl,by unfold inB;simp,?_⟩;show ∃n17,H10.cell b o=some (.int .u64 n17)/\_;refine ⟨_,hc H10 (h10.drop 4),Sep.st0 h10 (Nat.le_of_ble_eq_true rfl) λH18 h18=>Sep.st0 h18 (Nat.le_of_ble_eq_true rfl) λH19 h19=>?_⟩;exact fin H19 {Qr.new kd ky fl cpu w 0 with nx:=.none} rfl rfl (Sep.rm1 h19) λ_=>rfl
 ·have e:vs=[]:=by
   have:=of_decide_eq_false e
   exact List.eq_nil_of_length_eq_zero (by omega)
  subst e;refine Sep.st0 h10 (Nat.le_of_ble_eq_true rfl) λH19 h19=>?_
  exact fin H19 {Qr.new kd ky fl cpu 0 0 with nx:=.none} rfl rfl (Sep.rm1 h19) λ_=>rfl
theorem clone1_s {ws:List (BitVec 64)}{sa:Option Addr}(h:Sep H (many PL::M))(hv:RV PL ws sa)
  (hR:∀H' o,(o=none->ws=[])->Sep H' (gl 1 o (ws.map W)::many PL::M)->R (.slice (addr o) ws.length 0) H'):CA en F.slices_Clone_uint64_uint64 [.slice sa ws.length 0] H R:=by
 apply vc_slices_Clone_uint64_uint64;rcases hv with ⟨rfl,rfl⟩|⟨b,w,rfl,rfl,hm⟩
 ·exact cond_yes rfl (hR H none (λ_=>rfl) (gl_none.2 h))
 ·refine cond_no rfl (Sep.nw h λi1 H2 h2=>⟨[W w],rowOf_bx (h2.one1 _ hm) (by simp) rfl,?_⟩);refine apd_gl (b:=some i1) (cs:=[]) (new:=[W w]) (gl_some.2 h2) (λe=>by cases e) (by decide) rfl (by simp) rfl (by simp) λH6 o' h6=>?_
  exact hR H6 (some o') (λe=>by cases e) h6
theorem rres_s (h:Rk H PL r c q X L)
  (hR:∀H' o,(o=none->q.rv=[])->Rk H' PL r c q X (gl 1 o (q.rv.map W)::L)->R (.agg #[I q.no,.slice (addr o) q.rv.length 0,W q.rk,I q.el]) H'):CA en F.lru_Run_Result [P r] H R:=by
 have⟨sa,nv,hrv,hnv,hs⟩:=h.ex;apply vc_lru_Run_Result;refine Sep.nw hs λi1 H2 h2=>asAddr_in ⟨_,_,_,_,_,Sep.lds1 h2 rfl,Sep.nw h2 λi10 H11 h11=>Sep.st0 h11 (Nat.le_of_ble_eq_true rfl) λH12 h12=>⟨_,_,Sep.ld0 h12 rfl,?_⟩⟩
 refine clone1_s (Sep.up3 h12) hrv λH16 o ho h16=>⟨_,_,rfl,?_⟩
 refine Sep.st2 h16 (Nat.le_of_ble_eq_true rfl) λH19 h19=>⟨_,_,_,_,_,Sep.lds2 h19 rfl,?_⟩
 refine Sep.st3 h19 (Nat.le_of_ble_eq_true rfl) λH25 h25=>⟨_,_,_,_,_,Sep.lds3 h25 rfl,?_⟩
 exact hR H25 o ho ⟨sa,nv,hrv,hnv,Sep.pick h25 8 [4,1,5,6,7,0] (by decide)⟩
end
section
set_option maxRecDepth 100000
set_option maxHeartbeats 2000000
theorem vc_lru_Map_Room (x0:Option Addr)(x1:Int)(H:Heap)(R:Value->Heap->Prop) :
  (
 nwH H (.cells true 0 [(.pointer x0),(.int .i64 0),(.int .u64 0),(.slice none 0 0),(.int .i64 0),(.int .i64 0),(.int .u64 0),(.int .i64 0),(.slice none 0 0),(.int .u64 0),(.int .i64 0),.nilFunc,(.bool false),(.bool false),(.bool false),(.int .i64 0),(.int .i64 0),(.int .i64 0),(.int .i64 0),(.int .i64 0),(.int .i64 0),(.int .u64 0),(.bool false)]) λi1 H2=>
 nwH H2 (.cells true 0 [(.pointer (some ⟨i1,0,none⟩)),(.slice none 0 0)]) λi3 H4=>
 nwH H4 (.cells true 0 [(.pointer none)]) λi5 H6=>
 stc H6 i5 0 [(.pointer (some ⟨i3,0,none⟩))] λH7=>
 ∃a8,H7.cell i5 0=some (.pointer a8)/\
 AS.asAddr (.pointer a8) λi9 i10=>
 ∃a11,H7.cell i9 i10=some (.pointer a11)/\
 CA en F.lru_Run_enter [(.pointer a11),(.func (.func F.lru_Map_Room_1) #[] #[(.pointer (some ⟨i5,0,none⟩))])] H7 λv12 H13=>
 v12=undef/\
 ∃a14,H13.cell i5 0=some (.pointer a14)/\
 R (.pointer a14) H13)->
  CA en F.lru_Map_Room [(.pointer x0),(.int .i64 x1)] H R:=by
 intro h;refine wpFn_ok (Z:=[]) (fn:=Go.Proofs.Tryz.f49) ?_ ?_ ?_
 ·kernel_rfl
 ·kernel_rfl
 ·apply turnInto h
  kernel_rfl
theorem vc_lru_Map_Room_1 (c0:Option Addr)(H:Heap)(R:Value->Heap->Prop) :
  (
 AS.asAddr (.pointer c0) λi1 i2=>
 ∃a3,H.cell i1 i2=some (.pointer a3)/\
 AS.asAddr (.pointer a3) λi4 i5=>
 ∃a6,H.cell i4 i5=some (.pointer a6)/\
 CA en F.lru_Run_walk [(.pointer a6),(.func (.func F.lru_Map_Room_1_1) #[] #[(.pointer c0)]),(.func (.func F.lru_Map_Room_1_2) #[] #[(.pointer c0)])] H λv7 H8=>
 v7=undef/\
 R undef H8)->
  CA en F.lru_Map_Room_1 [(.pointer c0)] H R:=by
 intro h;refine wpFn_ok (Z:=[]) (fn:=Go.Proofs.Tryz.f93) ?_ ?_ ?_
 ·kernel_rfl
 ·kernel_rfl
 ·apply turnInto h
  kernel_rfl
theorem vc_lru_Map_Room_1_1 (x0:Int)(c0:Option Addr)(H:Heap)(R:Value->Heap->Prop) :
  (
 AS.asAddr (.pointer c0) λi1 i2=>
 ∃a3,(H.bump 11).cell i1 i2=some (.pointer a3)/\
 AS.asAddr (.pointer c0) λi4 i5=>
 ∃a6,(H.bump 11).cell i4 i5=some (.pointer a6)/\
 AS.asAddr (.pointer a6) λi7 i8=>
 ∃a9 i10,(H.bump 11).cell i7 (i8+1)=some (.slice a9 i10 0)/\
 nwH (H.bump 11) (.cells true 1 [(.int .u64 x0)]) λi11 H12=>
 ∃l13,rowOf H12 1 (some ⟨i11,0,none⟩) 1=some l13/\
 apd H12 8 1 a9 i10 1 l13 λa14 i15 H16=>
 AS.asAddr (.pointer a3) λi17 i18=>
 stc H16 i17 (i18+1) [(.slice a14 i15 0)] λH19=>
 (
 R (.bool false) H19)/\
 ((∃a22 i23,(H.bump 11).cell i7 (i8+1)=some (.slice a22 i23 0)/\
 (a9=a22/\i10=i23/\0=0))/\(∃a20 i21,H12.cell i7 (i8+1)=some (.slice a20 i21 0)/\
 (a9=a20/\i10=i21/\0=0))/\True)/\
 ((AS.asAddr (.pointer c0) λi27 i28=>
 ∃a29,(H.bump 11).cell i27 i28=some (.pointer a29)/\
 a6=a29)/\(AS.asAddr (.pointer c0) λi24 i25=>
 ∃a26,H12.cell i24 i25=some (.pointer a26)/\
 a6=a26)/\True)/\
 ((AS.asAddr (.pointer c0) λi36 i37=>
 ∃a38,(H.bump 11).cell i36 i37=some (.pointer a38)/\
 a3=a38)/\(AS.asAddr (.pointer c0) λi33 i34=>
 ∃a35,H12.cell i33 i34=some (.pointer a35)/\
 a3=a35)/\(AS.asAddr (.pointer c0) λi30 i31=>
 ∃a32,H16.cell i30 i31=some (.pointer a32)/\
 a3=a32)/\True)/\
 True)->
  CA en F.lru_Map_Room_1_1 [(.int .u64 x0),(.pointer c0)] H R:=by
 intro h;refine wpFn_ok (Z:=[]) (fn:=Go.Proofs.Tryz.f95) ?_ ?_ ?_
 ·kernel_rfl
 ·kernel_rfl
 ·apply turnInto h
  kernel_rfl
theorem vc_lru_Map_Room_1_2 (c0:Option Addr)(H:Heap)(R:Value->Heap->Prop) :
  (
 AS.asAddr (.pointer c0) λi1 i2=>
 ∃a3,H.cell i1 i2=some (.pointer a3)/\
 AS.asAddr (.pointer a3) λi4 i5=>
 ∃a6 i7,H.cell i4 (i5+1)=some (.slice a6 i7 0)/\
 CA en F.slices_SortFunc_uint64_uint64 [(.slice a6 i7 0),(.func (.func F.cmp_Compare_uint64) #[] #[])] H λv8 H9=>
 v8=undef/\
 AS.asAddr (.pointer c0) λi10 i11=>
 ∃a12,H9.cell i10 i11=some (.pointer a12)/\
 AS.asAddr (.pointer a12) λi13 i14=>
 ∃a15,H9.cell i13 i14=some (.pointer a15)/\
 CA en F.lru_Run_give [(.pointer a15),(.agg #[(.int .i64 0),(.slice none 0 0),(.int .u64 0),(.int .i64 0)])] H9 λv16 H17=>
 v16=undef/\
 AS.asAddr (.pointer c0) λi18 i19=>
 ∃a20,H17.cell i18 i19=some (.pointer a20)/\
 AS.asAddr (.pointer a20) λi21 i22=>
 ∃a23,H17.cell i21 i22=some (.pointer a23)/\
 AS.asAddr (.pointer a23) λi24 i25=>
 stc H17 i24 (i25+13) [(.bool true)] λH26=>
 R undef H26)->
  CA en F.lru_Map_Room_1_2 [(.pointer c0)] H R:=by
 intro h;refine wpFn_ok (Z:=[]) (fn:=Go.Proofs.Tryz.f96) ?_ ?_ ?_
 ·kernel_rfl
 ·kernel_rfl
 ·apply turnInto h
  kernel_rfl
theorem vc_lru_Visit_Keys (x0:Option Addr)(H:Heap)(R:Value->Heap->Prop) :
  (
 AS.asAddr (.pointer x0) λi1 i2=>
 ∃a3 i4,H.cell i1 (i2+1)=some (.slice a3 i4 0)/\
 CA en F.slices_Clone_uint64_uint64 [(.slice a3 i4 0)] H λv5 H6=>
 ∃a7 i8,v5=(.slice a7 i8 0)/\
 R (.slice a7 i8 0) H6)->
  CA en F.lru_Visit_Keys [(.pointer x0)] H R:=by
 intro h;refine wpFn_ok (Z:=[]) (fn:=Go.Proofs.Tryz.f52) ?_ ?_ ?_
 ·kernel_rfl
 ·kernel_rfl
 ·apply turnInto h
  kernel_rfl
theorem vc_lru_Visit_Take (x0:Option Addr)(x1:Int)(H:Heap)(R:Value->Heap->Prop) :
  (
 CA en F.lru_Visit_run [(.pointer x0),(.int .i64 5),(.int .i64 x1)] H λv1 H2=>
 ∃a3,v1=(.pointer a3)/\
 R (.pointer a3) H2)->
  CA en F.lru_Visit_Take [(.pointer x0),(.int .i64 x1)] H R:=by
 intro h;refine wpFn_ok (Z:=[]) (fn:=Go.Proofs.Tryz.f53) ?_ ?_ ?_
 ·kernel_rfl
 ·kernel_rfl
 ·apply turnInto h
  kernel_rfl
theorem vc_lru_Visit_Look (x0:Option Addr)(x1:Int)(H:Heap)(R:Value->Heap->Prop) :
  (
 CA en F.lru_Visit_run [(.pointer x0),(.int .i64 1),(.int .i64 x1)] H λv1 H2=>
 ∃a3,v1=(.pointer a3)/\
 R (.pointer a3) H2)->
  CA en F.lru_Visit_Look [(.pointer x0),(.int .i64 x1)] H R:=by
 intro h;refine wpFn_ok (Z:=[]) (fn:=Go.Proofs.Tryz.f54) ?_ ?_ ?_
 ·kernel_rfl
 ·kernel_rfl
 ·apply turnInto h
  kernel_rfl
theorem vc_lru_Visit_Leave (x0:Option Addr)(H:Heap)(R:Value->Heap->Prop) :
  (
 AS.asAddr (.pointer x0) λi1 i2=>
 ∃a3,H.cell i1 i2=some (.pointer a3)/\
 AS.asAddr (.pointer a3) λi4 i5=>
 ∃a6,H.cell i4 i5=some (.pointer a6)/\
 nwH H (.cells true 0 [(.pointer a6),(.int .i64 0),(.int .u64 0),(.slice none 0 0),(.int .i64 0),(.int .i64 0),(.int .u64 0),(.int .i64 0),(.slice none 0 0),(.int .u64 0),(.int .i64 0),.nilFunc,(.bool false),(.bool false),(.bool false),(.int .i64 0),(.int .i64 0),(.int .i64 0),(.int .i64 0),(.int .i64 0),(.int .i64 0),(.int .u64 0),(.bool false)]) λi7 H8=>
 CA en F.lru_Run_away [(.pointer (some ⟨i7,0,none⟩))] H8 λv9 H10=>
 v9=undef/\
 R (.pointer (some ⟨i7,0,none⟩)) H10)->
  CA en F.lru_Visit_Leave [(.pointer x0)] H R:=by
 intro h;refine wpFn_ok (Z:=[]) (fn:=Go.Proofs.Tryz.f55) ?_ ?_ ?_
 ·kernel_rfl
 ·kernel_rfl
 ·apply turnInto h
  kernel_rfl
theorem vc_lru_Visit_run (x0:Option Addr)(x1:Int)(x2:Int)(H:Heap)(R:Value->Heap->Prop) :
  (
 AS.asAddr (.pointer x0) λi1 i2=>
 ∃a3,(H.bump 19).cell i1 i2=some (.pointer a3)/\
 AS.asAddr (.pointer a3) λi4 i5=>
 ∃a6,(H.bump 19).cell i4 i5=some (.pointer a6)/\
 AS.asAddr (.pointer x0) λi7 i8=>
 ∃a9 i10,(H.bump 19).cell i7 (i8+1)=some (.slice a9 i10 0)/\
 inB x2 i10/\
 asRow a9 λi11 i12=>
 ∃n13,(H.bump 19).cell i11 (i12+(x2.toNat*1))=some (.int .u64 n13)/\
 nwH (H.bump 19) (.cells true 0 [(.pointer a6),(.int .i64 x1),(.int .u64 n13),(.slice none 0 0),(.int .i64 0),(.int .i64 0),(.int .u64 0),(.int .i64 0),(.slice none 0 0),(.int .u64 0),(.int .i64 0),.nilFunc,(.bool false),(.bool false),(.bool true),(.int .i64 0),(.int .i64 0),(.int .i64 0),(.int .i64 0),(.int .i64 0),(.int .i64 0),(.int .u64 0),(.bool false)]) λi14 H15=>
 (
 CA en F.lru_Run_begin [(.pointer (some ⟨i14,0,none⟩))] H15 λv16 H17=>
 v16=undef/\
 R (.pointer (some ⟨i14,0,none⟩)) H17)/\
 True)->
  CA en F.lru_Visit_run [(.pointer x0),(.int .i64 x1),(.int .i64 x2)] H R:=by
 intro h;refine wpFn_ok (Z:=[]) (fn:=Go.Proofs.Tryz.f101) ?_ ?_ ?_
 ·kernel_rfl
 ·kernel_rfl
 ·apply turnInto h
  kernel_rfl
end
section
variable {H H':Heap} {R K:Value->Heap->Prop} {L PL PL':List Asr} {r vb:Nat} {c:Lc} {q:Qr} {X X':Gx}
abbrev thenV (g:Nat):Value:=.func (.func F.lru_Map_Room_1) #[] #[P g]
abbrev askV (g:Nat):Value:=.func (.func F.lru_Map_Room_1_1) #[] #[P g]
abbrev stopV (g:Nat):Value:=.func (.func F.lru_Map_Room_1_2) #[] #[P g]
structure Ww (PL:List Asr)(r vb g0 g1 g2 g3:Nat):Prop where
 run:b1 g0 (P r)∈PL
 stop:∃g,b1 g1 (stopV g)∈PL/\b1 g (P vb)∈PL
 ask:∃g,b1 g2 (askV g)∈PL/\b1 g (P vb)∈PL
 on:b1 g3 (onV g0 g1 g2 g3)∈PL
inductive LW (PL:List Asr)(r vb:Nat):KL->Value->Prop where
 |walkAt {g0 g1 g2 g3:Nat}(h:Ww PL r vb g0 g1 g2 g3):LW PL r vb (.walkAt .room) (.func (.func F.lru_Run_walk_1_1) #[] #[P g0,P g1,P g2,P g3])
 |walkKey {g0 g1 g2 g3:Nat}(h:Ww PL r vb g0 g1 g2 g3):LW PL r vb (.walkKey .room) (.func (.func F.lru_Run_walk_1_1_1) #[] #[P g2,P g0,P g3])
inductive NW (PL:List Asr)(r vb:Nat):Nx->Value->Prop where
 |none {v:Value}:NW PL r vb .none v
 |enter {g g2 g3:Nat}{t:Tk}(h:b1 g (P t.b)∈PL)(h2:b1 g2 (thenV g3)∈PL)(h3:b1 g3 (P vb)∈PL):NW PL r vb (.enter t .room) (.func (.func F.lru_Run_enter_1) #[] #[P g,P g2])
 |load {g g2 g3:Nat}{a i:Int}{k:KL}{v:Value}(h:b1 g (P r)∈PL)(h2:bx g2 (.cells true 0 [I a,I i])∈PL)(h3:b1 g3 v∈PL)(hk:LW PL r vb k v):NW PL r vb (.load a i k) (.func (.func F.lru_Run_load_1) #[] #[P g,P g2,P g3])
theorem Ww.mono (hp:∀A∈PL,A∈PL'){g0 g1 g2 g3:Nat}(h:Ww PL r vb g0 g1 g2 g3):Ww PL' r vb g0 g1 g2 g3:=by
 have⟨v,h1,h2⟩:=h.stop;have⟨w,h3,h4⟩:=h.ask;exact ⟨hp _ h.run,⟨v,hp _ h1,hp _ h2⟩,⟨w,hp _ h3,hp _ h4⟩,hp _ h.on⟩
theorem LW.mono (hp:∀A∈PL,A∈PL'){k:KL}{v:Value}(h:LW PL r vb k v):LW PL' r vb k v:=by
 cases h with
 |walkAt h=>exact .walkAt (h.mono hp)
 |walkKey h=>exact .walkKey (h.mono hp)
theorem NW.mono (hp:∀A∈PL,A∈PL'){n:Nx}{v:Value}(h:NW PL r vb n v):NW PL' r vb n v:=by
 cases h with
 |none=>exact .none
 |enter h h2 h3=>exact .enter (hp _ h) (hp _ h2) (hp _ h3)
 |load h h2 h3 hk=>exact .load (hp _ h) (hp _ h2) (hp _ h3) (hk.mono hp)
theorem LW.fn {k:KL}{v:Value}(h:LW PL r vb k v):∃f l cs,v=.func (.func f) ⟨l⟩ ⟨cs⟩:=by cases h<;>exact ⟨_,_,_,rfl⟩
abbrev vA (r vb:Nat)(kb:Option Nat)(q:Qr):Asr:=bx vb (.cells true 0 [P r,.slice (addr kb) q.keys.length 0])
abbrev kA (kb:Option Nat)(q:Qr):Asr:=gl 1 kb (q.keys.map W)
structure Vk (H:Heap)(PL:List Asr)(r vb:Nat)(c:Lc)(q:Qr)(X:Gx)(L:List Asr):Prop where
 ex:∃kb v,(kb=none->q.keys=[])/\q.rv=[]/\NW PL r vb q.nx v/\Sep H (rA r c q none v::many PL::xA c::grA c.g c.m X::many (tkL c q.nx)::vA r vb kb q::kA kb q::L)
theorem Vk.bump (h:Vk H PL r vb c q X L)(n:Nat):Vk (H.bump n) PL r vb c q X L:=by
 have⟨kb,v,h1,h2,h3,hs⟩:=h.ex;exact ⟨kb,v,h1,h2,h3,hs.bump n⟩
theorem Vk.box (h:Vk H PL r vb c q X L){g:Nat}{v:Value}(hm:b1 g v∈PL):H.cell g 0=some v:=by
 have⟨kb,nv,h1,h2,h3,hs⟩:=h.ex;exact pld (k:=1) hs rfl hm rfl
theorem Vk.ins (As:List Asr){kb:Option Nat}{nv:Value}(h1:kb=none->q.keys=[])(h2:q.rv=[])(hnv:NW PL r vb q.nx nv)
  (h:Sep H (As++rA r c q none nv::many PL::xA c::grA c.g c.m X::many (tkL c q.nx)::vA r vb kb q::kA kb q::L)):Vk H (As++PL) r vb c q X L:=
 ⟨kb,nv,h1,h2,hnv.mono (sub_r (A:=PL) (λ_ h=>h) As),ins2 As h⟩
theorem wload_s {a i:Int}{k:KL}{v:Value}(h:Vk H PL r vb c q X L)(hk:LW PL r vb k v)
  (hR:∀H' PL',(∀A∈PL,A∈PL')->Vk H' PL' r vb c (q.load a i k) X L->R undef H'):CA en F.lru_Run_load [P r,.agg #[I a,I i],v] H R:=by
 have⟨kb,nv,hkb,hrv,hnv,hs⟩:=h.ex;obtain ⟨f,l,cs,rfl⟩:=hk.fn;apply vc_lru_Run_load;refine Sep.nw hs λi1 H2 h2=>Sep.nw h2 λi3 H4 h4=>Sep.nw h4 λi5 H6 h6=>⟨_,Sep.ld2 h6 rfl,asAddr_in (Sep.st3 h6 (Nat.le_of_ble_eq_true rfl) λH10 h10=>?_)⟩
 have hp:=sub_r (A:=PL) (λ_ h=>h) [b1 i5 (.func (.func f) ⟨l⟩ ⟨cs⟩),bx i3 (.cells true 0 [I a,I i]),b1 i1 (P r)];refine hR H10 _ hp ⟨kb,_,hkb,hrv,.load (g:=i1) (g2:=i3) (g3:=i5) (by simp) (by simp) (.head _) (hk.mono hp),?_⟩;have h11:=pool_ins [_,_,_] (Sep.pick h10 8 [0,1,2,4,3,5,6,7] (by decide));exact dropT (Sep.pick h11 5 [1,0,2,3,4] (by decide))
theorem wgive_s {no el:Int}{rk:BitVec 64}(h:Vk H PL r vb c q X L)
  (hR:∀H',Vk H' PL r vb c (q.give no [] rk el) X L->R undef H'):CA en F.lru_Run_give [P r,.agg #[I no,.slice none 0 0,W rk,I el]] H R:=by
 have⟨kb,nv,hkb,hrv,hnv,hs⟩:=h.ex;apply vc_lru_Run_give;refine Sep.nw hs λi1 H2 h2=>⟨_,_,_,_,_,Sep.lds0 h2 rfl,asAddr_in (Sep.st1 h2 (Nat.le_of_ble_eq_true rfl) λH10 h10=>asAddr_in (Sep.st1 h10 (Nat.le_of_ble_eq_true rfl) λH13 h13=>?_))⟩
 exact hR H13 ⟨kb,nv,hkb,rfl,hnv,h13.tail⟩
theorem whead_s (h:Vk H PL r vb c q X L)(hR:∀H',Vk H' PL r vb c q X L->R (.agg #[I c.h,I 2]) H'):CA en F.lru_Run_head [P r] H R:=by
 have⟨kb,nv,hkb,hrv,hnv,hs⟩:=h.ex;apply vc_lru_Run_head;refine Sep.nw hs λi1 H2 h2=>asAddr_in ⟨_,Sep.ld1 h2 rfl,asAddr_in ⟨_,Sep.ld3 h2 rfl,Sep.st0 h2 (Nat.le_of_ble_eq_true rfl) λH9 h9=>⟨_,_,Sep.lds0 h9 rfl,?_⟩⟩⟩
 exact hR H9 ⟨kb,nv,hkb,hrv,hnv,h9.tail⟩
theorem won_s {g0 g1 g2 g3:Nat}(hw:Ww PL r vb g0 g1 g2 g3)(h:Vk H PL r vb c q X L)
  (hR:∀H' PL',(∀A∈PL,A∈PL')->Vk H' PL' r vb c (q.on .room) X L->R undef H'):CA en F.lru_Run_walk_1 [P g0,P g1,P g2,P g3] H R:=by
 have hb:=h.bump 7;have⟨kb,nv,hkb,hrv,hnv,hs⟩:=hb.ex;apply vc_lru_Run_walk_1;refine asAddr_in ⟨_,hb.box hw.run,asAddr_in ⟨_,hb.box hw.run,asAddr_in ⟨_,_,Sep.lds0 hs rfl,?_⟩⟩⟩;exact wload_s (k:=.walkAt .room) hb (.walkAt hw) λH14 PL' hp' o14=>⟨rfl,⟨hR H14 PL' hp' o14,trivial⟩⟩
theorem wwalk_s {g g':Nat}(h:Vk H PL r vb c q X L)(hg:b1 g (P vb)∈PL)(hg':b1 g' (P vb)∈PL)
  (hR:∀H' PL',(∀A∈PL,A∈PL')->Vk H' PL' r vb c (q.walk c .room) X L->R undef H'):CA en F.lru_Run_walk [P r,askV g,stopV g'] H R:=by
 have⟨kb,nv,hkb,hrv,hnv,hs⟩:=h.ex;apply vc_lru_Run_walk;refine Sep.nw hs λi1 H2 h2=>Sep.nw h2 λi3 H4 h4=>Sep.nw h4 λi5 H6 h6=>?_
 have hp:=sub_r (A:=PL) (λ_ h=>h) [b1 i5 (stopV g'),b1 i3 (askV g),b1 i1 (P r)];have o6:=(Vk.ins [b1 i5 (stopV g'),b1 i3 (askV g),b1 i1 (P r)] hkb hrv hnv h6).bump 6;have h7:=h6.bump 6;refine ⟨_,Sep.ld2 h7 rfl,_,Sep.ld2 h7 rfl,whead_s o6 λH10 o10=>⟨_,_,rfl,asAddr_in ?_⟩⟩;have⟨kb',nv',hkb',hrv',hnv',hs'⟩:=o10.ex;refine Sep.st0 hs' (Nat.le_of_ble_eq_true rfl) λH15 h15=>⟨Sep.nw h15 λi18 H19 h19=>Sep.st0 h19 (Nat.le_of_ble_eq_true rfl) λH20 h20=>⟨_,Sep.ld0 h20 rfl,asFn_in ⟨Option.isSome_iff_exists.1 (by kernel_rfl),?_⟩⟩,⟨⟨_,Sep.ld2 h7 rfl,rfl⟩,⟨_,o10.box (by simp),rfl⟩,trivial⟩,trivial⟩
 show CA en F.lru_Run_walk_1 [P i1,P i5,P i3,P i18] H20 _;have o20:Vk H20 _ r vb c {q with ah:=c.h,ai:=2} X L:=Vk.ins (q:={q with ah:=c.h,ai:=2}) [b1 i18 (onV i1 i5 i3 i18)] hkb' hrv' hnv' h20;have hp2:=sub_r (A:=[b1 i5 (stopV g'),b1 i3 (askV g),b1 i1 (P r)]++PL) (λ_ h=>h) [b1 i18 (onV i1 i5 i3 i18)];have hp3:=sub_t hp hp2;refine won_s ⟨?_,⟨_,?_,hp3 _ hg'⟩,⟨_,?_,hp3 _ hg⟩,.head _⟩ o20 λH14 PL' hp' o14=>⟨rfl,hR H14 PL' (sub_t hp3 hp') o14⟩
 ·exact .tail _ (.tail _ (.tail _ (.head _)))
 ·exact .tail _ (.head _)
 ·exact .tail _ (.tail _ (.head _))
theorem sort_s {kb:Option Nat}{ks:List (BitVec 64)}(h:Sep H (gl 1 kb (ks.map W)::L))(hkb:kb=none->ks=[])(hl:ks.length<=1000)
  (hR:∀H',Sep H' (gl 1 kb ((srt ks).map W)::L)->R undef H'):CA en F.slices_SortFunc_uint64_uint64 [.slice (addr kb) ks.length 0,.func (.func F.cmp_Compare_uint64) #[] #[]] H R:=by
 have hp:en.prim F.slices_SortFunc_uint64_uint64=some (sortP F.cmp_Compare_uint64):=rfl;have ht:en.truth F.slices_SortFunc_uint64_uint64=false:=by kernel_rfl
 cases ks with
 |nil=>exact CA_prim (v:=undef) ht hp rfl (hR H (by simpa [srt] using h))
 |cons w ks=>
  cases kb with
  |none=>cases hkb rfl
  |some b=>
   have hg:=gl_get h;have e2:(srtI (((w::ks).map W).map numI)).map (Value.int .u64)=(srt (w::ks)).map W:=by
    unfold srtI srt;have e1:(((w::ks).map W).map numI)=(w::ks).map (λv=>(v.toNat:Int)):=by rw [List.map_map];rfl
    rw [e1,<-List.map_mergeSort (r:=λa b:BitVec 64=>decide (a.toNat<=b.toNat)) (f:=λv:BitVec 64=>(v.toNat:Int)) (λa _ b _=>by simp only [Int.ofNat_le]),List.map_map];rfl
   have hall:((w::ks).map W).all isU=true:=by
    rw [List.all_eq_true];intro x hx;obtain ⟨v,_,rfl⟩:=List.mem_map.1 hx;rfl
   refine CA_prim (H':=H.set b (.cells true 1 ((srt (w::ks)).map W))) (v:=undef) ht hp ?_ (hR _ ?_)
   ·have e3:sortP F.cmp_Compare_uint64 [.slice (addr (some b)) (w::ks).length 0,.func (.func F.cmp_Compare_uint64) ⟨[]⟩ ⟨[]⟩] H=(match H.get b with
     |some (.cells true 1 c)=>if c.length=(w::ks).length/\(w::ks).length<=16777216/\c.all isU=true then some (.tuple ⟨[]⟩,H.set b (.cells true 1 ((srtI (c.map numI)).map (Value.int .u64)))) else none
     |_=>none):=rfl
    refine Eq.trans e3 ?_;rw [hg];show (if _ then _ else _)=_;rw [if_pos ⟨by rw [List.length_map],by omega,hall⟩,e2];rfl
   ·exact gl_some.2 (Sep.put0 (gl_some.1 h) _)
theorem wask_s {g:Nat}{w:BitVec 64}(h:Vk H PL r vb c q X L)(hg:b1 g (P vb)∈PL)(hl:q.keys.length<=1000)
  (hR:∀H',Vk H' PL r vb c {q with keys:=q.keys++[w]} X L->R (.bool false) H'):CA en F.lru_Map_Room_1_1 [W w,P g] H R:=by
 have hb:=h.bump 11;have⟨kb,nv,hkb,hrv,hnv,hs⟩:=hb.ex;apply vc_lru_Map_Room_1_1;refine asAddr_in ⟨_,hb.box hg,asAddr_in ⟨_,hb.box hg,asAddr_in ⟨_,_,Sep.ld5 hs rfl,Sep.nw hs λi11 H12 h12=>⟨[W w],rowOf_bx (Sep.get0 h12) (by simp) rfl,?_⟩⟩⟩⟩;have h13:Sep H12 (kA kb q::bx i11 (.cells true 1 [W w])::rA r c q none nv::many PL::xA c::grA c.g c.m X::many (tkL c q.nx)::vA r vb kb q::L):=Sep.pick h12 8 [7,0,1,2,3,4,5,6] (by decide);refine apd_gl (b:=kb) (cs:=q.keys.map W) (new:=[W w]) h13 (λe=>by rw [hkb e];rfl) (by decide) (by simp) (by simp) rfl (by omega) λH16 o' h16=>?_
 refine asAddr_in (Sep.st7 h16 (Nat.le_of_ble_eq_true rfl) λH19 h19=>⟨hR H19 ⟨some o',nv,(λe=>by cases e),hrv,hnv,?_⟩,?_,?_,?_,trivial⟩)
 ·have h20:=Sep.pick h19 8 [2,3,4,5,6,7,0] (by decide);have e1:(q.keys++[w]).map W=q.keys.map W++[W w]:=by rw [List.map_append];rfl
  have e2:(q.keys++[w]).length=q.keys.length+1:=by rw [List.length_append];rfl
  show Sep H19 (rA r c q none nv::many PL::xA c::grA c.g c.m X::many (tkL c q.nx)::bx vb (.cells true 0 [P r,.slice (addr (some o')) (q.keys++[w]).length 0])::gl 1 (some o') ((q.keys++[w]).map W)::L);rw [e1,e2];exact h20
 ·exact ⟨⟨_,_,Sep.ld5 hs rfl,rfl,rfl,rfl⟩,⟨_,_,Sep.ld6 h12 rfl,rfl,rfl,rfl⟩,trivial⟩
 ·exact ⟨asAddr_in ⟨_,hb.box hg,rfl⟩,asAddr_in ⟨_,pld (k:=2) h12 rfl hg rfl,rfl⟩,trivial⟩
 ·exact ⟨asAddr_in ⟨_,hb.box hg,rfl⟩,asAddr_in ⟨_,pld (k:=2) h12 rfl hg rfl,rfl⟩,asAddr_in ⟨_,pld (k:=3) h16 rfl hg rfl,rfl⟩,trivial⟩
theorem wstop_s {g:Nat}(h:Vk H PL r vb c q X L)(hg:b1 g (P vb)∈PL)(hl:q.keys.length<=1000)
  (hR:∀H',Vk H' PL r vb c (q.stop c .room) X L->R undef H'):CA en F.lru_Map_Room_1_2 [P g] H R:=by
 have⟨kb,nv,hkb,hrv,hnv,hs⟩:=h.ex;apply vc_lru_Map_Room_1_2;have h1:Sep H (kA kb q::rA r c q none nv::many PL::xA c::grA c.g c.m X::many (tkL c q.nx)::vA r vb kb q::L):=Sep.pick hs 7 [6,0,1,2,3,4,5] (by decide);refine asAddr_in ⟨_,h.box hg,asAddr_in ⟨_,_,Sep.ld5 hs rfl,sort_s h1 hkb hl λH2 h2=>⟨rfl,?_⟩⟩⟩;have es:(srt q.keys).length=q.keys.length:=List.length_mergeSort _;have o2:Vk H2 PL r vb c {q with keys:=srt q.keys} X L:=⟨kb,nv,λe=>by show srt q.keys=[];rw [hkb e];simp [srt],hrv,hnv,by
  have h3:=Sep.pick h2 7 [1,2,3,4,5,6,0] (by decide);show Sep H2 (rA r c q none nv::many PL::xA c::grA c.g c.m X::many (tkL c q.nx)::bx vb (.cells true 0 [P r,.slice (addr kb) (srt q.keys).length 0])::gl 1 kb ((srt q.keys).map W)::L);rw [es];exact h3⟩
 have⟨kb2,nv2,hkb2,hrv2,hnv2,hs2⟩:=o2.ex;refine asAddr_in ⟨_,o2.box hg,asAddr_in ⟨_,Sep.ld5 hs2 rfl,wgive_s (no:=0) (rk:=0) (el:=0) o2 λH4 o4=>⟨rfl,asAddr_in ⟨_,o4.box hg,?_⟩⟩⟩⟩;have⟨kb4,nv4,hkb4,hrv4,hnv4,hs4⟩:=o4.ex;exact asAddr_in ⟨_,Sep.ld5 hs4 rfl,asAddr_in (Sep.st0 hs4 (Nat.le_of_ble_eq_true rfl) λH5 h5=>hR H5 ⟨kb4,nv4,hkb4,hrv4,hnv4,h5⟩)⟩
def Nx.vis:Nx->Prop
 |.enter _ .room=>True
 |.load _ _ (.walkAt .room)=>True
 |.load _ _ (.walkKey .room)=>True
 |_=>False
theorem wkl_s {k:KL}{v:Value}{w:BitVec 64}(hk:LW PL r vb k v)(h:Vk H PL r vb c q X L)(hl:q.keys.length<=1000)
  (hR:∀H' PL',(∀A∈PL,A∈PL')->Vk H' PL' r vb c (doKL c k w q X.G 0).1 X L->K undef H') :
  AS.asFn v λf l cs=>(∃fn,en.fn f=some fn)/\CA en f (l++[W w]++cs) H K:=by
 cases hk with
 |walkAt hw=>
  refine asFn_in ⟨Option.isSome_iff_exists.1 (by kernel_rfl),?_⟩;show CA en F.lru_Run_walk_1_1 [W w,_,_,_,_] H K;apply vc_lru_Run_walk_1_1;have⟨kb,nv,hkb,hrv,hnv,hs⟩:=h.ex;refine asAddr_in ⟨_,h.box hw.run,asAddr_in (Sep.st0 hs (Nat.le_of_ble_eq_true rfl) λH6 h6=>?_)⟩;have o6:Vk H6 PL r vb c {q with cur:=IntKind.i64.wrap w.toNat} X L:=⟨kb,nv,hkb,hrv,hnv,h6⟩;refine cond_of (λe=>?_) λe=>?_
  ·have e:=w_zero e;have⟨g,h1,h2⟩:=hw.stop;refine asAddr_in ⟨_,o6.box h1,asFn_in ⟨Option.isSome_iff_exists.1 (by kernel_rfl),?_⟩⟩;show CA en F.lru_Map_Room_1_2 [P g] H6 _;refine wstop_s o6 h2 hl λH14 o=>⟨rfl,hR H14 PL (λ_ h=>h) ?_⟩
   show Vk H14 PL r vb c (if w=0 then _ else _) X L;rw [if_pos e];exact o
  ·have e:=w_some e;have hb:=o6.bump 8;have⟨kb,nv,hkb,hrv,hnv,hs⟩:=hb.ex;refine asAddr_in ⟨_,hb.box hw.run,asAddr_in ⟨_,hb.box hw.run,asAddr_in ⟨_,Sep.ld0 hs rfl,?_⟩⟩⟩;refine wload_s hb (.walkKey hw) λH14 PL' hp o=>⟨rfl,⟨hR H14 PL' hp ?_,trivial⟩⟩
   show Vk H14 PL' r vb c (if w=0 then _ else _) X L;rw [if_neg e];exact o
 |@walkKey g0 g1 g2 g3 hw=>
  refine asFn_in ⟨Option.isSome_iff_exists.1 (by kernel_rfl),?_⟩;show CA en F.lru_Run_walk_1_1_1 [W w,_,_,_] H K;apply vc_lru_Run_walk_1_1_1;have⟨g,h1,h2⟩:=hw.ask;refine asAddr_in ⟨_,h.box h1,asFn_in ⟨Option.isSome_iff_exists.1 (by kernel_rfl),?_⟩⟩;show CA en F.lru_Map_Room_1_1 [W w,P g] H _;refine wask_s h h2 hl λH8 o8=>⟨_,rfl,cond_yes rfl ?_⟩
  have hb:=o8.bump 17;have⟨kb,nv,hkb,hrv,hnv,hs⟩:=hb.ex;refine asAddr_in ⟨_,hb.box hw.run,asAddr_in ⟨_,hb.box hw.run,asAddr_in ⟨_,hb.box hw.run,asAddr_in ⟨_,_,Sep.lds0 hs rfl,asAddr_in ⟨_,hb.box hw.run,asAddr_in ⟨_,Sep.ld0 hs rfl,asAddr_in (Sep.st0 hs (Nat.le_of_ble_eq_true rfl) λH31 h31=>asAddr_in (Sep.st0 h31 (Nat.le_of_ble_eq_true rfl) λH34 h34=>?_))⟩⟩⟩⟩⟩⟩;have o34:Vk H34 PL r vb c {q with keys:=q.keys++[w],bh:=q.ah,bi:=q.ai,ah:=q.cur,ai:=2} X L:=⟨kb,nv,hkb,hrv,hnv,h34⟩;refine ⟨asAddr_in ⟨_,o34.box hw.on,asFn_in ⟨Option.isSome_iff_exists.1 (by kernel_rfl),?_⟩⟩,⟨asAddr_in ⟨_,hb.box hw.run,rfl⟩,asAddr_in ⟨_,pld (k:=1) h31 rfl hw.run rfl,rfl⟩,trivial⟩,trivial⟩;show CA en F.lru_Run_walk_1 [P g0,P g1,P g2,P g3] H34 _;exact won_s hw o34 λH48 PL' hp o=>⟨rfl,hR H48 PL' hp o⟩
theorem vstep_s (h:Vk H PL r vb c q X L)(hl:q.keys.length<=1000)(hv:q.nx.vis)
  (hR:∀H' PL' X',(∀b,X'.G=(q.step c X.G b).2)->(∀b,(q.step c X.G b)=(q.step c X.G 0))->Vk H' PL' r vb c (q.step c X.G 0).1 X' L->R (.tuple #[.bool (q.tells (q.step c X.G 0).1).1,.bool (q.tells (q.step c X.G 0).1).2]) H'):CA en F.lru_Run_Step [P r] H R:=by
 have⟨kb,nv,hkb,hrv,hnv,hs⟩:=h.ex;apply vc_lru_Run_Step;refine asAddr_in ⟨_,Sep.ld0 hs rfl,cond_of (λe=>?_) λe=>?_⟩
 ·have:=hR H PL X
  have est:∀b,q.step c X.G b=(q,X.G):=λb=>by unfold Qr.step;rw [if_pos e]
  simp only [est] at this;unfold Qr.tells at this;rw [if_pos e] at this;exact this (by intros;first|rfl|trivial) (by intros;first|rfl|trivial) h
 ·have e:¬q.dn=true:=by rw [e];exact Bool.false_ne_true
  refine asAddr_in (Sep.st0 hs (Nat.le_of_ble_eq_true rfl) λH6 h6=>asAddr_in ⟨_,Sep.ld0 h6 rfl,?_⟩);have h6:Sep H6 (rA r c {q with eff:=false} none nv::many PL::xA c::grA c.g c.m X::many (tkL c q.nx)::vA r vb kb q::kA kb q::L):=h6;have fin:∀H' PL' X',(∀b,X'.G=(doNx c q.nx {q with eff:=false} X.G b).2)->(∀b,doNx c q.nx {q with eff:=false} X.G b=doNx c q.nx {q with eff:=false} X.G 0)->Vk H' PL' r vb c (doNx c q.nx {q with eff:=false} X.G 0).1 X' L->
    AS.asAddr (P r) λi15 i16=>∃b17,(H'.bump 10).cell i15 (i16+12)=some (.bool b17)/\AS.asAddr (P r) λi18 i19=>∃b20,(H'.bump 10).cell i18 (i19+13)=some (.bool b20)/\((R (.tuple #[.bool b17,.bool b20]) (H'.bump 10))/\True):=λH' PL' X' e1 e2 o=>by
   have ob:=o.bump 10;have⟨kb,nv,hkb,hrv,hnv,hs⟩:=ob.ex;refine asAddr_in ⟨_,Sep.ld0 hs rfl,asAddr_in ⟨_,Sep.ld0 hs rfl,?_,trivial⟩⟩
   have:=hR (H'.bump 10) PL' X'
   have est:∀b,q.step c X.G b=doNx c q.nx {q with eff:=false} X.G b:=λb=>by unfold Qr.step;rw [if_neg e]
   simp only [est] at this;unfold Qr.tells at this;rw [if_neg e] at this;exact this e1 e2 ob
  have n6:({q with eff:=false}:Qr).nx=q.nx:=rfl;have k6:({q with eff:=false}:Qr).keys=q.keys:=rfl;have hrv6:({q with eff:=false}:Qr).rv=[]:=hrv;clear hR hs h e;rw [<-k6] at hl hkb;have h6:Sep H6 (rA r c {q with eff:=false} none nv::many PL::xA c::grA c.g c.m X::many (tkL c q.nx)::vA r vb kb {q with eff:=false}::kA kb {q with eff:=false}::L):=h6;clear k6;generalize ({q with eff:=false}:Qr)=q6 at *;generalize q.nx=nx at *;clear hrv;cases hnv with
  |none=>exact hv.elim
  |@enter g g2 g3 t h1 h2 h3=>
   refine asFn_in ⟨Option.isSome_iff_exists.1 (by kernel_rfl),?_⟩;show CA en F.lru_Run_enter_1 [_,_] H6 _;apply vc_lru_Run_enter_1;refine asAddr_in ⟨_,pld (k:=1) h6 rfl h1 rfl,?_⟩;have h7:Sep H6 (tkA c t::rA r c q6 none (.func (.func F.lru_Run_enter_1) #[] #[P g,P g2])::many PL::xA c::grA c.g c.m X::vA r vb kb q6::kA kb q6::L):=Sep.many_iff.1 (Sep.up4 h6);refine tk_s (Sep.pick h7 5 [0,4,1,2,3] (by decide)) λH5 h5=>⟨_,rfl,?_⟩
   have h8:Sep H5 (many [tkA c (t.step c X.G.S).2.1]::grA c.g c.m (X.to (t.step c X.G.S).2.2)::rA r c q6 none (.func (.func F.lru_Run_enter_1) #[] #[P g,P g2])::many PL::xA c::vA r vb kb q6::kA kb q6::L):=Sep.many_iff.2 h5;have o5:Vk H5 PL r vb c {q6 with nx:=.enter (t.step c X.G.S).2.1 .room} (X.to (t.step c X.G.S).2.2) L:=
    ⟨kb,_,hkb,hrv6,.enter (by rw [tk_b];exact h1) h2 h3,Sep.pick h8 5 [2,3,4,1,0] (by decide)⟩
   refine cond_of (λg=>asAddr_in ⟨_,o5.box h2,asFn_in ⟨Option.isSome_iff_exists.1 (by kernel_rfl),?_⟩⟩) λg=>⟨rfl,fin H5 PL (X.to (t.step c X.G.S).2.2) (λb=>?_) (λb=>?_) ?_⟩
   ·show CA en F.lru_Map_Room_1 [P g3] H5 _;apply vc_lru_Map_Room_1;have⟨kb5,nv5,hkb5,hrv5,hnv5,hs5⟩:=o5.ex;refine asAddr_in ⟨_,o5.box h3,asAddr_in ⟨_,Sep.ld5 hs5 rfl,wwalk_s o5 h3 h3 λH' PL' hp o=>⟨rfl,rfl,rfl,fin H' PL' (X.to (t.step c X.G.S).2.2) (λb=>?_) (λb=>?_) ?_⟩⟩⟩
    ·show _=(if _ then _ else _:Qr×Gr).2;rw [if_pos g];rfl
    ·show (if _ then _ else _:Qr×Gr)=(if _ then _ else _:Qr×Gr);rw [if_pos g,if_pos g];rfl
    ·show Vk H' PL' r vb c (if _ then _ else _:Qr×Gr).1 _ L;rw [if_pos g];exact o
   ·show _=(if _ then _ else _:Qr×Gr).2;rw [if_neg (by rw [g];exact Bool.false_ne_true)];rfl
   ·show (if _ then _ else _:Qr×Gr)=(if _ then _ else _:Qr×Gr);rw [if_neg (by rw [g];exact Bool.false_ne_true),if_neg (by rw [g];exact Bool.false_ne_true)]
   ·show Vk H5 PL r vb c (if _ then _ else _:Qr×Gr).1 _ L;rw [if_neg (by rw [g];exact Bool.false_ne_true)];exact o5
  |@load g g2 g3 a i k v h1 h2 h3 hk=>
   refine asFn_in ⟨Option.isSome_iff_exists.1 (by kernel_rfl),?_⟩;show CA en F.lru_Run_load_1 [_,_,_] H6 _;apply vc_lru_Run_load_1;have hb:=h6.bump 17;refine asAddr_in ⟨_,pld (k:=1) hb rfl h1 rfl,asAddr_in ⟨_,Sep.ld0 hb rfl,asAddr_in ⟨_,Sep.ld2 hb rfl,asAddr_in ⟨_,pld (k:=1) hb rfl h2 rfl,asAddr_in ⟨_,pld (k:=1) hb rfl h2 rfl,?_⟩⟩⟩⟩⟩;refine gload_s (Sep.up3 hb) λH17 h17=>⟨_,_,rfl,⟨?_,trivial⟩⟩
   have h18:Sep H17 (rA r c q6 none _::many PL::xA c::grA c.g c.m (X.to (X.G.S.acc a i true id).2)::many (tkL c (.load a i k))::vA r vb kb q6::kA kb q6::L):=Sep.pick h17 5 [1,2,3,0,4] (by decide);have o17:Vk H17 PL r vb c q6 (X.to (X.G.S.acc a i true id).2) L:=⟨kb,_,hkb,hrv6,by rw [n6];exact .load h1 h2 h3 hk,by rw [n6];exact h18⟩;have eG:∀b,(doNx c (.load a i k) q6 X.G b)=(doKL c k (X.G.S.acc a i true id).1.1 q6 (X.to (X.G.S.acc a i true id).2).G 0):=λb=>by cases hk<;>rfl
   have eg2:(doKL c k (X.G.S.acc a i true id).1.1 q6 (X.to (X.G.S.acc a i true id).2).G 0).2=(X.to (X.G.S.acc a i true id).2).G:=by cases hk<;>rfl
   refine asAddr_in ⟨_,o17.box h3,wkl_s hk o17 hl λH' PL' hp o=>⟨rfl,rfl,fin H' PL' _ (λb=>by rw [eG b];exact eg2.symm) (λb=>by rw [eG b,eG 0]) (by rw [eG 0];exact o)⟩⟩
end
section
variable {H H':Heap} {R:Value->Heap->Prop} {L PL PL':List Asr} {r vb:Nat} {c:Lc} {q:Qr} {X:Gx}
theorem wenter_s {g:Nat}(h:Vk H PL r vb c q X L)(hg:b1 g (P vb)∈PL)
  (hR:∀H' PL' b,(∀A∈PL,A∈PL')->Vk H' PL' r vb c {q with nx:=.enter ⟨b,0,0⟩ .room} X L->R undef H'):CA en F.lru_Run_enter [P r,thenV g] H R:=by
 have⟨kb,nv,hkb,hrv,hnv,hs⟩:=h.ex;apply vc_lru_Run_enter;refine Sep.nw hs λi1 H2 h2=>?_
 have hp:=h2.fore1 (n:=17) (a:=15) (.cells true 0 [.pointer none]) (by decide);generalize H2.next+15=tb at hp⊢;refine asAddr_in ⟨_,Sep.ld2 hp rfl,asAddr_in ⟨_,Sep.ld4 hp rfl,asAddr_in ⟨_,Sep.ld2 hp rfl,asAddr_in ⟨_,Sep.ld4 hp rfl,?_⟩⟩⟩⟩;refine gtake_s hp λH16 b h16=>⟨_,rfl,Sep.st1 h16 (Nat.le_of_ble_eq_true rfl) λH18 h18=>⟨asAddr_in (Sep.st3 h18 (Nat.le_of_ble_eq_true rfl) λH23 h23=>?_),⟨⟨_,Sep.get0 hp,rfl⟩,⟨_,Sep.get1 h16,rfl⟩,trivial⟩,trivial⟩⟩
 have hq:=sub_r (A:=PL) (λ_ h=>h) [b1 tb (P b),b1 i1 (thenV g)];refine hR H23 ([b1 tb (P b),b1 i1 (thenV g)]++PL) b hq ⟨kb,_,hkb,hrv,.enter (g:=tb) (g2:=i1) (.head _) (.tail _ (.head _)) (hq _ hg),?_⟩;have h24:=pool_ins [_,_] (Sep.pick h23 8 [1,2,4,3,5,6,0] (by decide));have h25:Sep H23 (tkA c ⟨b,0,0⟩::_::_::_::_::vA r vb kb q::kA kb q::L):=Sep.up4 h24;have h26:=(Sep.many_iff (L:=[tkA c ⟨b,0,0⟩])).2 h25;exact Sep.pick h26 5 [2,1,3,4,0] (by decide)
def Qr.zero (vb:Option Nat):Qr:=⟨0,0,0,0,0,0,[],0,0,.none,false,false,false,0,0,0,0,0,0,0,false,vb,[]⟩
theorem Room_s {i:Int}(h:Sep H (xA c::grA c.g c.m X::L))
  (hR:∀H' PL r vb b,Vk H' PL r vb c {Qr.zero (some vb) with nx:=.enter ⟨b,0,0⟩ .room} X L->R (P vb) H'):CA en F.lru_Map_Room [P c.x,I i] H R:=by
 apply vc_lru_Map_Room;refine Sep.nw h λr H2 h2=>Sep.nw h2 λvb H4 h4=>Sep.nw h4 λi5 H6 h6=>Sep.st0 h6 (Nat.le_of_ble_eq_true rfl) λH7 h7=>⟨_,Sep.ld0 h7 rfl,asAddr_in ⟨_,Sep.ld1 h7 rfl,?_⟩⟩
 have h8:Sep H7 (b1 i5 (P vb)::bx vb (.cells true 0 [P r,.slice none 0 0])::rA r c (Qr.zero (some vb)) none .nilFunc::xA c::grA c.g c.m X::L):=h7;have h9:Sep H7 (many [b1 i5 (P vb)]::many []::bx vb (.cells true 0 [P r,.slice none 0 0])::rA r c (Qr.zero (some vb)) none .nilFunc::xA c::grA c.g c.m X::L):=Sep.many_iff.2 (Sep.up1 (Sep.many0 h8));have o:Vk H7 [b1 i5 (P vb)] r vb c (Qr.zero (some vb)) X L:=⟨none,.nilFunc,λ_=>rfl,rfl,.none,by
  have h10:=Sep.pick h9 6 [3,0,4,5,1,2] (by decide);have h11:Sep H7 (many []::rA r c (Qr.zero (some vb)) none .nilFunc::many [b1 i5 (P vb)]::xA c::grA c.g c.m X::many []::bx vb (.cells true 0 [P r,.slice none 0 0])::L):=Sep.many0 h10;exact Sep.pick h11 7 [1,2,3,4,5,6,0] (by decide)⟩
 refine wenter_s o (by simp) λH' PL' b hp o'=>⟨rfl,?_⟩
 exact ⟨_,o'.box (hp _ (.head _)),hR H' PL' r vb b o'⟩
abbrev vsL (r vb:Nat)(c:Lc)(kb:Option Nat)(q:Qr)(v:Value):List Asr:=[rA r c q none v,vA r vb kb q,kA kb q]
theorem Vk.rest (h:Vk H PL r vb c q X L):∃kb v,(kb=none->q.keys=[])/\Sep H (many (vsL r vb c kb q v)::xA c::grA c.g c.m X::L):=by
 have⟨kb,v,h1,h2,h3,hs⟩:=h.ex;refine ⟨kb,v,h1,Sep.many_iff.2 ?_⟩;exact Sep.pick hs 7 [0,5,6,2,3] (by decide)
theorem Keys_s {kb:Option Nat}{v:Value}(h:Sep H (many (vsL r vb c kb q v)::L))(hkb:kb=none->q.keys=[])(hl:q.keys.length<=1000)
  (hR:∀H' o,(o=none->q.keys=[])->Sep H' (gl 1 o (q.keys.map W)::many (vsL r vb c kb q v)::L)->R (.slice (addr o) q.keys.length 0) H'):CA en F.lru_Visit_Keys [P vb] H R:=by
 apply vc_lru_Visit_Keys;have h1:Sep H (rA r c q none v::vA r vb kb q::kA kb q::L):=Sep.many_iff.1 h;refine asAddr_in ⟨_,_,Sep.ld1 h1 rfl,?_⟩;apply vc_slices_Clone_uint64_uint64;have fin:∀{H' o},Sep H' (gl 1 o (q.keys.map W)::rA r c q none v::vA r vb kb q::kA kb q::L)->Sep H' (gl 1 o (q.keys.map W)::many (vsL r vb c kb q v)::L):=λ{H' o} h2=>by
  have h3:Sep H' (rA r c q none v::vA r vb kb q::kA kb q::gl 1 o (q.keys.map W)::L):=Sep.pick h2 4 [1,2,3,0] (by decide);have h4:Sep H' (many (vsL r vb c kb q v)::gl 1 o (q.keys.map W)::L):=Sep.many_iff.2 h3;exact Sep.up1 h4
 cases kb with
 |none=>
  have e:=hkb rfl;refine cond_yes rfl ⟨_,_,rfl,?_⟩
  have:=hR H none (λ_=>e) (fin (gl_none.2 h1))
  rw [e] at this;exact this
 |some b=>
  refine cond_no rfl (Sep.nw h1 λi1 H2 h2=>?_);have h3:Sep H2 (kA (some b) q::bx i1 (.cells true 1 [])::rA r c q none v::vA r vb (some b) q::L):=Sep.pick h2 4 [3,0,1,2] (by decide);have hg:=gl_get h3;have back:∀{H' o},Sep H' (gl 1 o (q.keys.map W)::rA r c q none v::vA r vb (some b) q::kA (some b) q::L)->(o=none->q.keys=[])->∃a i,Value.slice (addr o) q.keys.length 0=.slice a i 0/\R (.slice a i 0) H':=λ{H' o} h4 ho=>⟨_,_,rfl,hR H' o ho (fin h4)⟩
  by_cases hk:q.keys=[]
  ·have e0:q.keys.length=0:=by rw [hk];rfl
   refine ⟨[],?_,?_⟩
   ·unfold rowOf;rw [e0];rfl
   ·rw [e0];refine .inl ⟨rfl,?_⟩
    have:=back (o:=some i1) (H':=H2) (by rw [hk];exact gl_some.2 h2) (λ_=>hk)
    rw [e0] at this;exact this
  ·have hpos:0<q.keys.length:=List.length_pos_iff.2 hk;refine ⟨q.keys.map W,rowOf_bx hg (by omega) ?_,?_⟩
   ·have:=takeAt_all' (q.keys.map W);rw [List.length_map] at this;simpa using this
   ·refine apd_gl (b:=some i1) (cs:=[]) (new:=q.keys.map W) (gl_some.2 h2) (λe=>by cases e) (by decide) rfl hpos (by simp) (by omega) λH6 o' h6=>?_
    have:=back (o:=some o') (H':=H6) (by simpa using h6) (λe=>by cases e)
    simpa using this
theorem vrun_s {kb:Option Nat}{v:Value}{kd:Int}{j:Nat}{w:BitVec 64}(h:Sep H (many (vsL r vb c kb q v)::xA c::grA c.g c.m X::L))(hkb:kb=none->q.keys=[])(hj:q.keys[j]? =some w)(hkd:kd≠4)
  (hR:∀H' PL' r',Rk H' PL' r' c ({Qr.zero none with kd:=kd,ky:=w,st:=true}.begin c) X (many (vsL r vb c kb q v)::L)->R (P r') H'):CA en F.lru_Visit_run [P vb,I kd,I j] H R:=by
 apply vc_lru_Visit_run;have h1:Sep H (rA r c q none v::vA r vb kb q::kA kb q::xA c::grA c.g c.m X::L):=Sep.many_iff.1 h;have hb:=h1.bump 19;have hlt:=(List.getElem?_eq_some_iff.1 hj).1;cases kb with
 |none=>have:=hkb rfl;rw [this] at hj;simp at hj
 |some b=>
  have hg:Sep (H.bump 19) (kA (some b) q::rA r c q none v::vA r vb (some b) q::xA c::grA c.g c.m X::L):=Sep.pick hb 3 [2,0,1] (by decide);have hcell:(H.bump 19).cell b (0+j*1)=some (W w):=by
   rw [cell_of (gl_get hg),Nat.zero_add,Nat.mul_one,List.getElem?_map,hj];rfl
  refine asAddr_in ⟨_,Sep.ld1 hb rfl,asAddr_in ⟨_,Sep.ld0 hb rfl,asAddr_in ⟨_,_,Sep.ld1 hb rfl,⟨by omega,by omega⟩,?_⟩⟩⟩;refine asRow_in ⟨_,by rw [Int.toNat_natCast];exact hcell,Sep.nw hb λr' H15 h15=>⟨?_,trivial⟩⟩;have h16:Sep H15 (rA r c q none v::vA r vb (some b) q::kA (some b) q::rA r' c {Qr.zero none with kd:=kd,ky:=w,st:=true} none .nilFunc::xA c::grA c.g c.m X::L):=Sep.pick h15 4 [1,2,3,0] (by decide);have h17:Sep H15 (many (vsL r vb c (some b) q v)::rA r' c {Qr.zero none with kd:=kd,ky:=w,st:=true} none .nilFunc::xA c::grA c.g c.m X::L):=Sep.many_iff.2 h16;have h18:Sep H15 (many []::many []::many (vsL r vb c (some b) q v)::rA r' c {Qr.zero none with kd:=kd,ky:=w,st:=true} none .nilFunc::xA c::grA c.g c.m X::L):=Sep.many0 (Sep.many0 h17);have o:Rk H15 [] r' c {Qr.zero none with kd:=kd,ky:=w,st:=true} X (many (vsL r vb c (some b) q v)::L):=⟨none,.nilFunc,.inl ⟨rfl,rfl⟩,.none,Sep.pick h18 6 [3,0,4,5,1,2] (by decide)⟩;exact rbegin_s o λH' PL' hp o'=>⟨rfl,hR H' PL' r' o'⟩
theorem Look_s {kb:Option Nat}{v:Value}{j:Nat}{w:BitVec 64}(h:Sep H (many (vsL r vb c kb q v)::xA c::grA c.g c.m X::L))(hkb:kb=none->q.keys=[])(hj:q.keys[j]? =some w)
  (hR:∀H' PL' r',Rk H' PL' r' c ({Qr.zero none with kd:=1,ky:=w,st:=true}.begin c) X (many (vsL r vb c kb q v)::L)->R (P r') H'):CA en F.lru_Visit_Look [P vb,I j] H R:=by
 apply vc_lru_Visit_Look;exact vrun_s (kd:=1) h hkb hj (by decide) λH' PL' r' o=>⟨_,rfl,hR H' PL' r' o⟩
theorem Take_s {kb:Option Nat}{v:Value}{j:Nat}{w:BitVec 64}(h:Sep H (many (vsL r vb c kb q v)::xA c::grA c.g c.m X::L))(hkb:kb=none->q.keys=[])(hj:q.keys[j]? =some w)
  (hR:∀H' PL' r',Rk H' PL' r' c ({Qr.zero none with kd:=5,ky:=w,st:=true}.begin c) X (many (vsL r vb c kb q v)::L)->R (P r') H'):CA en F.lru_Visit_Take [P vb,I j] H R:=by
 apply vc_lru_Visit_Take;exact vrun_s (kd:=5) h hkb hj (by decide) λH' PL' r' o=>⟨_,rfl,hR H' PL' r' o⟩
theorem Leave_s {kb:Option Nat}{v:Value}(h:Sep H (many (vsL r vb c kb q v)::xA c::grA c.g c.m X::L))
  (hR:∀H' PL' r',Rk H' PL' r' c {Qr.zero none with nx:=.drop} X (many (vsL r vb c kb q v)::L)->R (P r') H'):CA en F.lru_Visit_Leave [P vb] H R:=by
 apply vc_lru_Visit_Leave;have h1:Sep H (rA r c q none v::vA r vb kb q::kA kb q::xA c::grA c.g c.m X::L):=Sep.many_iff.1 h;refine asAddr_in ⟨_,Sep.ld1 h1 rfl,asAddr_in ⟨_,Sep.ld0 h1 rfl,Sep.nw h1 λr' H15 h15=>?_⟩⟩;have h16:Sep H15 (rA r c q none v::vA r vb kb q::kA kb q::rA r' c (Qr.zero none) none .nilFunc::xA c::grA c.g c.m X::L):=Sep.pick h15 4 [1,2,3,0] (by decide);have h17:Sep H15 (many (vsL r vb c kb q v)::rA r' c (Qr.zero none) none .nilFunc::xA c::grA c.g c.m X::L):=Sep.many_iff.2 h16;have h18:Sep H15 (many []::many []::many (vsL r vb c kb q v)::rA r' c (Qr.zero none) none .nilFunc::xA c::grA c.g c.m X::L):=Sep.many0 (Sep.many0 h17);have o:Rk H15 [] r' c (Qr.zero none) X (many (vsL r vb c kb q v)::L):=⟨none,.nilFunc,.inl ⟨rfl,rfl⟩,.none,Sep.pick h18 6 [3,0,4,5,1,2] (by decide)⟩;exact raway_s o λH' PL' hp o'=>⟨rfl,hR H' PL' r' o'⟩
end
section
variable {c:Lc} {n k:Nat} {Q:List Nat} {sv:Wd} {hs:List Int} {D:Dq} {la:List El} {G G':Gr} {q:Qr} {m0 h:Int} {had:Bool}
inductive Ph where
 |out|idle|und (q:Qr)|wai (q:Qr)|run (q:Qr)(n:Nat)(had:Bool)(m0:Int)|rest|cell (h:Int)
def Ph.hold:Ph->Bool|.run _ _ _ _=>true|.rest=>true|_=>false
def Ph.inq:Ph->Bool|.wai _=>true|p=>p.hold
def Ph.isRun:Ph->Bool|.run _ _ _ _=>true|_=>false
def PX (q:Qr)(c:Lc)(cap:Cx):Qr->Gr->List El->Prop:=if q.vb.isSome then PV c cap else PM c cap
def RunX (c:Lc)(sv:Wd)(m0:Int)(n:Nat)(had:Bool)(q:Qr)(la:List El)(G:Gr):Prop:=
 ∃G0,Run c (cxT sv) (RI c (cxT sv) m0) m0 (PX q c (cxT sv)) n had q G0 la/\RI c (cxT sv) m0 G0 G
structure Wq (q:Qr)(t:Wd)(ph:Nat):Prop where
 nx:∃b,q.nx=.enter ⟨b,t,ph⟩ (if q.vb.isSome then .room else .begin)
 dn:q.dn=false
 st:q.st=false
 any:q.any=false
 keys:q.keys=[]
def tick (sv:Wd)(i:Nat):Wd:=sv+BitVec.ofNat 64 i
structure Lk (c:Lc)(ps:List Ph)(Q:List Nat)(sv:Wd)(S:Sm):Prop where
 dr:Dr c S (tick sv Q.length)
 nd:Q.Nodup
 inq:∀k:Nat,k∈Q↔∃p:Ph,ps[k]? =some p/\p.inq=true
 tk:∀(i k:Nat)(q:Qr),Q[i]? =some k->ps[k]? =some (.wai q)->Wq q (tick sv i) 1
 un:∀(k:Nat)(q:Qr),ps[k]? =some (.und q)->Wq q 0 0
 hd:∀(i k:Nat)(p:Ph),Q[i]? =some k->ps[k]? =some p->p.hold=true->i=0
structure Ls (c:Lc)(hs:List Int)(D:Dq)(la:List El)(S:Sm):Prop where
 d1:1<=c.d1/\c.d1<=64
 cor:Cor hs D la
 keys:(la.map El.k).Nodup
 le:(la.length:Int)<=c.d1
 hb:∀h∈hs,h<=S.made/\h≠c.h
 nd:hs.Nodup
 vals:VR S hs D.ws
structure Wo (c:Lc)(ps:List Ph)(Q:List Nat)(sv:Wd)(hs:List Int)(D:Dq)(la:List El)(G:Gr):Prop where
 lk:Lk c ps Q sv G.S
 ls:Ls c hs D la G.S
 mem:(∀(k:Nat)(p:Ph),ps[k]? =some p->p.isRun=false)->Mem c (cxT sv) G la [] (lenW la)
 run:∀(k:Nat)(q:Qr)(n:Nat)(had:Bool)(m0:Int),ps[k]? =some (.run q n had m0)->RunX c sv m0 n had q la G/\(had=false->∀h∈hs,h<=m0)
 ins:∀k:Nat,k<ps.length->((k:Int)∈G.ins↔ps[k]? ≠some .out)
 gn:G.n=ps.length
 told:∀(k:Nat)(h:Int),ps[k]? =some (.cell h)->Kept h k G/\h∈hs/\∀(k':Nat)(q:Qr)(n:Nat)(had:Bool)(m0:Int),ps[k']? =some (.run q n had m0)->h<=m0
theorem lget_set {α:Type}{ps:List α}{k:Nat}{p:α}(hk:k<ps.length)(j:Nat):(ps.set k p)[j]? =if j=k then some p else ps[j]? :=by
 by_cases e:j=k
 ·subst e;rw [if_pos rfl,List.getElem?_set_self hk]
 ·rw [if_neg e,List.getElem?_set_ne (Ne.symm e)]
theorem lt_of_get {α:Type}{ps:List α}{k:Nat}{p:α}(h:ps[k]? =some p):k<ps.length:=(List.getElem?_eq_some_iff.1 h).1
theorem RunX.ri {m1:Gr}(h:RunX c sv m0 n had q la G)(hi:RI c (cxT sv) m0 G m1):RunX c sv m0 n had q la m1:=
 let ⟨G0,h1,h2⟩:=h;⟨G0,h1,h2.trans hi⟩
theorem RunX.mem (h:RunX c sv m0 n had q la G):∃l x cnt,Mem c (cxT sv) G l x cnt:=by
 have⟨G0,h1,h2⟩:=h;cases n with
 |zero=>exact h1.elim
 |succ n=>
  have⟨l,x,cnt,M⟩:=h1.2.2.2.1;exact ⟨l,x,cnt,h2.mem M⟩
variable {ps:List Ph}
theorem Wo.memo (w:Wo c ps Q sv hs D la G):∃l x cnt,Mem c (cxT sv) G l x cnt:=by
 by_cases hr:∀(k:Nat)(p:Ph),ps[k]? =some p->p.isRun=false
 ·exact ⟨_,_,_,w.mem hr⟩
 ·simp only [Classical.not_forall] at hr;have⟨k,p,hp,hh⟩:=hr;cases p with
  |run q n had m0=>exact (w.run k q n had m0 hp).1.mem
  |_=>exact absurd rfl hh
theorem Lk.first {S:Sm}(h:Lk c ps Q sv S){k:Nat}{p:Ph}(hp:ps[k]? =.some p)(hh:p.hold=true):Q[0]? =.some k:=by
 have hm:k∈Q:=(h.inq k).2 ⟨p,hp,by cases p<;>first|rfl|cases hh⟩;have⟨i,hi⟩:=List.getElem?_of_mem hm
 have:=h.hd i k p hi hp hh
 rw [this] at hi;exact hi
theorem Lk.one {S:Sm}(h:Lk c ps Q sv S){k j:Nat}{p p':Ph}(hp:ps[k]? =.some p)(hh:p.hold=true)(hp':ps[j]? =.some p')(hh':p'.hold=true):j=k:=by
 have:=h.first hp hh
 rw [h.first hp' hh'] at this;injection this
structure Same (c:Lc)(hs:List Int)(S S':Sm):Prop where
 made:S.made<=S'.made
 vals:∀a∈hs,S'.V a≠none->S.V a≠none/\val S' a=val S a
theorem Ls.same {S S':Sm}(h:Ls c hs D la S)(k:Same c hs S S'):Ls c hs D la S':=
 ⟨h.d1,h.cor,h.keys,h.le,λa ha=>⟨Int.le_trans (h.hb a ha).1 k.made,(h.hb a ha).2⟩,h.nd,h.vals.keep k.vals⟩
variable {Q':List Nat} {sv':Wd} {hs':List Int} {D':Dq} {la':List El}
theorem Wo.put {p0 p:Ph}(w:Wo c ps Q sv hs D la G)(hk:ps[k]? =.some p0)(lk:Lk c (ps.set k p) Q' sv' G'.S)(ls:Ls c hs' D' la' G'.S)(hsub:∀h∈hs,h∈hs')
  (hoth:∀(j:Nat)(q:Qr)(n:Nat)(had:Bool)(m0:Int),j≠k->ps[j]? =.some (.run q n had m0)->RunX c sv' m0 n had q la' G'/\(had=false->∀h∈hs',h<=m0))
  (hmine:∀(q:Qr)(n:Nat)(had:Bool)(m0:Int),p=.run q n had m0->RunX c sv' m0 n had q la' G'/\(had=false->∀h∈hs',h<=m0)/\∀(j:Nat)(h:Int),j≠k->ps[j]? =.some (.cell h)->h<=m0)
  (hmem:(∀(j:Nat)(p':Ph),j≠k->ps[j]? =.some p'->p'.isRun=false)->p.isRun=false->Mem c (cxT sv') G' la' [] (lenW la'))
  (hins:∀j:Nat,j<ps.length->((j:Int)∈G'.ins↔if j=k then p≠.out else (j:Int)∈G.ins))(hn:G'.n=G.n)
  (hkept:∀(j:Nat)(h:Int),j≠k->ps[j]? =.some (.cell h)->Kept h j G')
  (htold:∀h,p=.cell h->Kept h k G'/\h∈hs'/\∀(j:Nat)(q:Qr)(n:Nat)(had:Bool)(m0:Int),j≠k->ps[j]? =.some (.run q n had m0)->h<=m0):Wo c (ps.set k p) Q' sv' hs' D' la' G':=by
 have hl:=lt_of_get hk;have gs:=lget_set (p:=p) hl;have other:∀{j p'},j≠k->(ps.set k p)[j]? =.some p'->ps[j]? =.some p':=λhj h=>by rw [gs,if_neg hj] at h;exact h
 have mine:∀{p'},(ps.set k p)[k]? =.some p'->p=p':=λh=>by rw [gs,if_pos rfl] at h;injection h
 refine ⟨lk,ls,λh=>?_,λj q n had m0 h=>?_,λj hj=>?_,?_,λj h hh=>?_⟩
 ·refine hmem (λj p' hj hp=>h j p' (by rw [gs,if_neg hj];exact hp)) (h k p (by rw [gs,if_pos rfl]))
 ·by_cases e:j=k
  ·subst e;have⟨x1,x2,_⟩:=hmine q n had m0 (mine h);exact ⟨x1,x2⟩
  ·exact hoth j q n had m0 e (other e h)
 ·rw [List.length_set] at hj;rw [hins j hj,gs];by_cases e:j=k
  ·rw [if_pos e,if_pos e];simp
  ·rw [if_neg e,if_neg e];exact w.ins j hj
 ·rw [hn,List.length_set];exact w.gn
 ·by_cases e:j=k
  ·subst e;have⟨x1,x2,x3⟩:=htold h (mine hh);refine ⟨x1,x2,λj' q n had m0 h'=>?_⟩;by_cases e':j'=j
   ·subst e';exact absurd ((mine h').symm.trans (mine hh)) (λe=>by cases e)
   ·exact x3 j' q n had m0 e' (other e' h')
  ·have h0:=other e hh;have⟨x1,x2,x3⟩:=w.told j h h0;refine ⟨hkept j h e h0,hsub h x2,λj' q n had m0 h'=>?_⟩;by_cases e':j'=k
   ·subst e';exact (hmine q n had m0 (mine h')).2.2 j h e h0
   ·exact x3 j' q n had m0 (other e' h')
theorem Lk.keep {p0 p:Ph}{S S':Sm}(w:Lk c ps Q sv S)(hk:ps[k]? =.some p0)(hq:p.inq=p0.inq)(hh:p.hold=true->Q[0]? =.some k)
  (hw:∀(i:Nat)(q:Qr),p=.wai q->Q[i]? =.some k->Wq q (tick sv i) 1)(hu:∀q,p=.und q->Wq q 0 0)(hd:Dr c S' (tick sv Q.length)):Lk c (ps.set k p) Q sv S':=by
 have gs:=lget_set (p:=p) (lt_of_get hk);refine ⟨hd,w.nd,λj=>?_,λi j q hi hj=>?_,λj q hj=>?_,λi j p' hi hj hp=>?_⟩
 ·rw [w.inq,gs];by_cases e:j=k
  ·subst e;rw [if_pos rfl,hk];simp [hq]
  ·rw [if_neg e]
 ·rw [gs] at hj;by_cases e:j=k
  ·rw [if_pos e] at hj;injection hj with hj;subst e;exact hw i q hj hi
  ·rw [if_neg e] at hj;exact w.tk i j q hi hj
 ·rw [gs] at hj;by_cases e:j=k
  ·rw [if_pos e] at hj;injection hj with hj;exact hu q hj
  ·rw [if_neg e] at hj;exact w.un j q hj
 ·rw [gs] at hj;by_cases e:j=k
  ·rw [if_pos e] at hj;injection hj with hj;subst hj;subst e
   have h0:=hh hp;exact (List.getElem?_inj (lt_of_get hi) w.nd).1 (by rw [hi,h0])
  ·rw [if_neg e] at hj;exact w.hd i j p' hi hj hp
theorem Lk.draw {q q':Qr}{S S':Sm}(w:Lk c ps Q sv S)(hk:ps[k]? =.some (.und q))(hn:Wq q' (tick sv Q.length) 1)
  (hd:Dr c S' (tick sv Q.length+1)):Lk c (ps.set k (.wai q')) (Q++[k]) sv S':=by
 have gs:=lget_set (p:=Ph.wai q') (lt_of_get hk);have hnk:k∉Q:=λh=>by
  have⟨p,hp,e⟩:=(w.inq k).1 h;rw [hk] at hp;injection hp with hp;subst hp;cases e
 have hget:∀{i j},(Q++[k])[i]? =.some j->(Q[i]? =.some j)∨(i=Q.length/\j=k):=λ{i j} h=>by
  by_cases hi:i<Q.length
  ·rw [List.getElem?_append_left hi] at h;exact .inl h
  ·have:=lt_of_get h
   simp only [List.length_append,List.length_singleton] at this;have e:i=Q.length:=by omega
   subst e;rw [List.getElem?_concat_length] at h;injection h with h
   exact .inr ⟨rfl,h.symm⟩
 refine ⟨?_,?_,λj=>?_,λi j q2 hi hj=>?_,λj q2 hj=>?_,λi j p' hi hj hp=>?_⟩
 ·have:tick sv (Q++[k]).length=tick sv Q.length+1:=by
   unfold tick;rw [List.length_append,List.length_singleton,BitVec.ofNat_add,<-BitVec.add_assoc];rfl
  rw [this];exact hd
 ·exact List.nodup_append.2 ⟨w.nd,by simp,λa ha b hb e=>by simp only [List.mem_singleton] at hb;exact hnk (hb▸e▸ha)⟩
 ·rw [List.mem_append,w.inq,gs];by_cases e:j=k
  ·subst e;rw [if_pos rfl];exact ⟨λ_=>⟨_,rfl,rfl⟩,λ_=>.inr (by simp)⟩
  ·rw [if_neg e];simp [e]
 ·rw [gs] at hj;by_cases e:j=k
  ·rw [if_pos e] at hj;injection hj with hj;injection hj with hj;subst hj;subst e
   rcases hget hi with hi|⟨rfl,_⟩
   ·exact absurd (List.mem_of_getElem? hi) hnk
   ·exact hn
  ·rw [if_neg e] at hj;rcases hget hi with hi|⟨_,h⟩
   ·exact w.tk i j q2 hi hj
   ·exact absurd h e
 ·rw [gs] at hj;by_cases e:j=k
  ·rw [if_pos e] at hj;injection hj with hj;cases hj
  ·rw [if_neg e] at hj;exact w.un j q2 hj
 ·rw [gs] at hj;by_cases e:j=k
  ·rw [if_pos e] at hj;injection hj with hj;subst hj;cases hp
  ·rw [if_neg e] at hj;rcases hget hi with hi|⟨_,h⟩
   ·exact w.hd i j p' hi hj hp
   ·exact absurd h e
theorem Lk.pop {p0 p:Ph}{S S':Sm}(w:Lk c ps (k::Q) sv S)(hk:ps[k]? =.some p0)(hq:p.inq=false)(hu:∀q,p≠.und q)
  (ho:∀(j:Nat)(p':Ph),j≠k->ps[j]? =.some p'->p'.hold=false)(hd:Dr c S' (tick sv (k::Q).length)):Lk c (ps.set k p) Q (sv+1) S':=by
 have gs:=lget_set (p:=p) (lt_of_get hk);have nd:=List.nodup_cons.1 w.nd;have et:∀i,tick (sv+1) i=tick sv (i+1):=λi=>by
  unfold tick;rw [BitVec.ofNat_add,BitVec.add_assoc,BitVec.add_comm 1 _];rfl
 refine ⟨?_,nd.2,λj=>?_,λi j q hi hj=>?_,λj q hj=>?_,λi j p' hi hj hp=>?_⟩
 ·rw [et];exact hd
 ·have:=w.inq j
  rw [gs];by_cases e:j=k
  ·subst e;rw [if_pos rfl];exact ⟨λh=>absurd h nd.1,λ⟨p',h,h2⟩=>by injection h with h;subst h;rw [hq] at h2;cases h2⟩
  ·rw [if_neg e,<-this];simp [e]
 ·have e:j≠k:=λe=>nd.1 (e▸List.mem_of_getElem? hi)
  rw [gs,if_neg e] at hj;rw [et];exact w.tk (i+1) j q (by simpa using hi) hj
 ·rw [gs] at hj;by_cases e:j=k
  ·rw [if_pos e] at hj;injection hj with hj;exact absurd hj (hu q)
  ·rw [if_neg e] at hj;exact w.un j q hj
 ·have e:j≠k:=λe=>nd.1 (e▸List.mem_of_getElem? hi)
  rw [gs,if_neg e] at hj
  have:=ho j p' e hj
  rw [this] at hp;cases hp
end
section
variable {c:Lc} {n k:Nat} {Q:List Nat} {sv:Wd} {hs:List Int} {D:Dq} {la:List El} {G G':Gr} {q:Qr} {m0 h:Int} {had:Bool} {ps:List Ph}
theorem Dr.draw {S:Sm}{d:Wd}(hv:Dr c S d):Dr c (S.acc c.h 0 true (addF 1)).2 (d+1):=by
 have⟨a,b,e,hv⟩:=hv
 have:=(V_acc0 hv (by simp) (addF 1)).2.1 c.h
 rw [if_pos rfl] at this;refine ⟨a,b,e,this.trans ?_⟩;show some [addF 1 d,a,b,e]=_;rw [addF_eq]
theorem Wo.in_of (w:Wo c ps Q sv hs D la G){p0:Ph}(hk:ps[k]? =.some p0)(hp:p0≠.out):(k:Int)∈G.ins:=
 (w.ins k (lt_of_get hk)).2 (by rw [hk];exact λe=>hp (by injection e))
theorem Wo.quiet {p0 p:Ph}{S':Sm}{D':Dq}{Q':List Nat}(w:Wo c ps Q sv hs D la G)(hk:ps[k]? =.some p0)(h0:p0.isRun=false)(h1:p0≠.out)(h2:p.isRun=false)(h3:p≠.out)
  (lk:Lk c (ps.set k p) Q' sv S')(ls:Ls c hs D' la S')(hri:∀(j:Nat)(q:Qr)(n:Nat)(had:Bool)(m0:Int),ps[j]? =.some (.run q n had m0)->RI c (cxT sv) m0 G (G.mem S'))
  (hmem:Mem c (cxT sv) G la [] (lenW la)->Mem c (cxT sv) (G.mem S') la [] (lenW la))(hreg:∀x∈G.S.regs.map Reg.h,x∈S'.regs.map Reg.h)
  (htold:∀h,p=.cell h->p0=.cell h):Wo c (ps.set k p) Q' sv hs D' la (G.mem S'):=by
 refine w.put hk lk ls (λh hh=>hh) (λj q n had m0 hj hp=>?_) (λq n had m0 e=>by subst e;cases h2) (λho _=>?_) (λj hj=>?_) rfl (λj h hj hp=>(w.told j h hp).1.mem hreg) λh e=>?_
 ·have⟨x1,x2⟩:=w.run j q n had m0 hp;exact ⟨x1.ri (hri j q n had m0 hp),x2⟩
 ·refine hmem (w.mem λj p' hp=>?_);by_cases e:j=k
  ·subst e;rw [hk] at hp;injection hp with hp;subst hp;exact h0
  ·exact ho j p' e hp
 ·by_cases e:j=k
  ·subst e;rw [if_pos rfl];exact ⟨λ_=>h3,λ_=>w.in_of hk h1⟩
  ·rw [if_neg e]
 ·have e0:=htold h e;subst e0;have⟨x1,x2,x3⟩:=w.told k h hk;exact ⟨x1.mem hreg,x2,λj q n had m0 _ hp=>x3 j q n had m0 hp⟩
theorem tk_draw {b0:Nat}{d:Wd}{kk:KS}{b:Nat}(hd:q.dn=false)(hn:q.nx=.enter ⟨b0,0,0⟩ kk)(e1:(G.S.acc c.h 0 true (addF 1)).1=(d,true)) :
  q.step c G b=({q with eff:=false,nx:=.enter ⟨b0,d,1⟩ kk},G.mem (G.S.acc c.h 0 true (addF 1)).2):=by
 rw [step_nx hd,hn];have et:Tk.step c ⟨b0,0,0⟩ G.S=(false,⟨b0,d,1⟩,(G.S.acc c.h 0 true (addF 1)).2):=by
  unfold Tk.step;rw [if_pos rfl];simp only [e1,if_true]
 unfold doNx;simp only [et];rfl
theorem Wo.draw (w:Wo c ps Q sv hs D la G)(hk:ps[k]? =.some (.und q)) :
  ∃q' G',(∀b,q.step c G b=(q',G'))/\Wo c (ps.set k (.wai q')) (Q++[k]) sv hs D la G'/\q'.dn=false/\q'.eff=false/\q'.res=q.res/\q'.op=q.op:=by
 have hw:=w.lk.un k q hk;have⟨b0,hn⟩:=hw.nx;have⟨l,x,cnt,M⟩:=w.memo;have⟨d,_,e1,⟨d2,hv⟩,M2,hv2,same⟩:=M.draw (dq':=λ_=>True) (addF 1) (λ_ _=>trivial);have⟨a1,a2,a3,hdr⟩:=w.lk.dr;have ed:d=tick sv Q.length:=by rw [hv] at hdr;injection hdr with hdr;injection hdr
 subst ed;refine ⟨_,_,λb=>tk_draw hw.dn hn e1,?_,hw.dn,rfl,rfl,rfl⟩;refine w.quiet hk rfl (λh=>by cases h) rfl (λh=>by cases h) (w.lk.draw hk ⟨⟨b0,rfl⟩,hw.dn,hw.st,hw.any,hw.keys⟩ (Dr.draw w.lk.dr))
  (w.ls.same ⟨by rw [acc_made];exact Int.le_refl _,λa ha hn=>keepV (same a (w.ls.hb a ha).2) hn⟩) (λ_ _ _ _ m0 _=>RI.draw) (λM=>(RI.draw (m0:=0)).mem M) (λx hx=>by rw [acc_keys];exact hx) λh e=>by cases e
theorem nodup_len:∀{n:Nat}{l:List Nat},l.Nodup->(∀x∈l,x<n)->l.length<=n
 |0,l,nd,h=>by
  cases l with
  |nil=>simp
  |cons a l=>exact absurd (h a (by simp)) (Nat.not_lt_zero _)
 |n+1,l,nd,h=>by
  have:=nodup_len (n:=n) (nd.erase n) λx hx=>by
   have h1:=(nd.mem_erase_iff).1 hx
   have:=h x h1.2
   omega
  rw [List.length_erase] at this
  split at this<;>omega
theorem Lk.len {S:Sm}(w:Lk c ps Q sv S):Q.length<=ps.length:=nodup_len w.nd λk hk=>by
 have⟨p,hp,_⟩:=(w.inq k).1 hk
 exact lt_of_get hp
theorem tick_inj {sv:Wd}{i:Nat}(hi:i<1000)(h:tick sv i=sv):i=0:=by
 have h2:=congrArg BitVec.toNat h;unfold tick at h2;rw [BitVec.toNat_add,BitVec.toNat_ofNat] at h2
 have:=sv.isLt
 omega
theorem tk_wait {b0:Nat}{t s:Wd}{kk:KS}{b:Nat}(hd:q.dn=false)(hn:q.nx=.enter ⟨b0,t,1⟩ kk)(e1:(G.S.acc c.h 1 true id).1=(s,true))(hne:s≠t) :
  q.step c G b=({q with eff:=false},G.mem (G.S.acc c.h 1 true id).2):=by
 rw [step_nx hd,hn];have et:Tk.step c ⟨b0,t,1⟩ G.S=(false,⟨b0,t,1⟩,(G.S.acc c.h 1 true id).2):=by
  unfold Tk.step;rw [if_neg (by simp),if_pos rfl,if_neg (by rw [e1];exact λh=>hne h.2)]
 unfold doNx;simp only [et];rw [<-hn];rfl
theorem Wo.wait (w:Wo c ps Q sv hs D la G)(hN:ps.length<=4)(hk:ps[k]? =.some (.wai q))(hq:Q[0]? ≠.some k) :
  ∃q' G',(∀b,q.step c G b=(q',G'))/\Wo c (ps.set k (.wai q')) Q sv hs D la G'/\q'.dn=false/\q'.eff=false/\q'.res=q.res/\q'.op=q.op:=by
 have⟨i,hi⟩:=List.getElem?_of_mem ((w.lk.inq k).2 ⟨_,hk,rfl⟩);have hw:=w.lk.tk i k q hi hk;have⟨b0,hn⟩:=hw.nx;have⟨l,x,cnt,M⟩:=w.memo;have⟨dr,_,hc⟩:=M.lock;have⟨e0,M2,same⟩:=M.load (i:=1) hc (by simp);have e1:(G.S.acc c.h 1 true id).1=(sv,true):=(V_acc1 hc (by simp) id).1;have hi4:i<1000:=by have:=lt_of_get hi;have:=w.lk.len;omega
 have hne:sv≠tick sv i:=λe=>by
  have:=tick_inj hi4 e.symm
  subst this;exact hq hi
 refine ⟨_,_,λb=>tk_wait hw.dn hn e1 hne,?_,hw.dn,rfl,rfl,rfl⟩;refine w.quiet hk rfl (λh=>by cases h) rfl (λh=>by cases h) (w.lk.keep hk rfl (λh=>by cases h) (λj q2 e hj=>?_) (λq2 e=>by cases e) ?_)
  (w.ls.same ⟨by rw [acc_made];exact Int.le_refl _,λa ha hn=>keepV (same a) hn⟩) (λ_ _ _ _ m0 _=>RI.look) (λM=>(RI.look (m0:=0)).mem M) (λx hx=>by rw [acc_keys];exact hx) λh e=>by cases e
 ·injection e with e;subst e
  have:=w.lk.tk j k q hj hk
  exact ⟨this.nx,this.dn,this.st,this.any,this.keys⟩
 ·exact Dr.acc (h:=c.h) (i:=1) (f:=id) (.inr (.inl (by decide))) w.lk.dr
theorem tk_got {b0:Nat}{s:Wd}{kk:KS}{b:Nat}(hd:q.dn=false)(hn:q.nx=.enter ⟨b0,s,1⟩ kk)(e1:(G.S.acc c.h 1 true id).1=(s,true)) :
  q.step c G b=doKS c kk {q with eff:=false,nx:=.enter ⟨b0,s,2⟩ kk} (G.mem (G.S.acc c.h 1 true id).2) b:=by
 rw [step_nx hd,hn];have et:Tk.step c ⟨b0,s,1⟩ G.S=(true,⟨b0,s,2⟩,(G.S.acc c.h 1 true id).2):=by
  unfold Tk.step;rw [if_neg (by simp),if_pos rfl,if_pos (by rw [e1];exact ⟨rfl,rfl⟩)]
 unfold doNx;simp only [et];rfl
theorem run_begin (M:Mem c (cxT sv) G la [] (lenW la))(ls:Ls c hs D la G.S)(hm:G.S.made<2305843009213693951)(hv:q.vb=none)(hd:q.dn=false)(ha:q.any=false) :
  RunM c (cxT sv) (RI c (cxT sv) G.S.made) G.S.made (2*la.length+10) false (q.begin c) G la/\(q.begin c).dn=false/\(q.begin c).eff=q.eff/\(q.begin c).op=q.op/\(q.begin c).res=q.res:=by
 have hr:=RI.rely (c:=c) (cap:=cxT sv) (m0:=G.S.made);unfold Qr.begin;split
 ·rename_i h4;refine ⟨?_,hd,rfl,rfl,rfl⟩;refine Run.mono (n:=2*la.length+2) (Run.near (l1:=[]) (m:=la) (q:=q.walk c .near) hr M ⟨rfl,rfl,?_,hd,hv,h4⟩ rfl) (by omega);show (if q.any then _ else none)=none;rw [ha];rfl
 ·rename_i h4;refine ⟨?_,hd,rfl,rfl,rfl⟩;exact Run.walk (l1:=[]) (m:=la) (q:=q.walk c .key) hr M ⟨rfl,hm,ls.d1,ls.le,ls.keys⟩ ⟨rfl,rfl,λl0 a h=>by simp at h,hd,hv,λy hy=>by simp at hy,h4⟩ rfl
theorem room_begin (M:Mem c (cxT sv) G la [] (lenW la))(hv:q.vb.isSome=true)(hd:q.dn=false)(ha:q.keys=[]) :
  RunV c (cxT sv) (RI c (cxT sv) G.S.made) G.S.made (2*la.length+1) false (q.walk c .room) G la/\(q.walk c .room).dn=false/\(q.walk c .room).eff=q.eff/\(q.walk c .room).op=q.op/\(q.walk c .room).res=q.res:=by
 refine ⟨?_,hd,rfl,rfl,rfl⟩;exact Run.room (l1:=[]) (m:=la) (q:=q.walk c .room) RI.rely M ⟨rfl,rfl,ha,hd,hv⟩ rfl
theorem Wo.alone (w:Wo c ps Q sv hs D la G){p0:Ph}(hk:ps[k]? =.some p0)(h0:p0.isRun=false)(hq:Q[0]? =.some k):∀(j:Nat)(p:Ph),ps[j]? =.some p->p.isRun=false:=λj p hp=>by
 cases p with
 |run q n had m0=>
  have:=w.lk.first hp rfl
  rw [hq] at this;injection this with this;subst this
  rw [hk] at hp;injection hp with hp;rw [hp] at h0;cases h0
 |_=>rfl
theorem Wo.got (w:Wo c ps Q sv hs D la G)(hm:G.S.made<2305843009213693951)(hk:ps[k]? =.some (.wai q))(hq:Q[0]? =.some k) :
  ∃q' G',(∀b,q.step c G b=(q',G'))/\Wo c (ps.set k (.run q' (2*la.length+10) false G'.S.made)) Q sv hs D la G'/\q'.dn=false/\q'.eff=false/\q'.res=q.res/\q'.op=q.op:=by
 have hw:=w.lk.tk 0 k q hq hk;have e0:tick sv 0=sv:=BitVec.add_zero sv;rw [e0] at hw;have⟨b0,hn⟩:=hw.nx;have M:=w.mem (w.alone hk rfl hq);have⟨dr,_,hc⟩:=M.lock;have⟨_,M2,same⟩:=M.load (i:=1) hc (by simp);have e1:(G.S.acc c.h 1 true id).1=(sv,true):=(V_acc1 hc (by simp) id).1;have ls2:Ls c hs D la (G.mem (G.S.acc c.h 1 true id).2).S:=w.ls.same ⟨by rw [acc_made];exact Int.le_refl _,λa ha hn=>keepV (same a) hn⟩;have em:(G.mem (G.S.acc c.h 1 true id).2).S.made=G.S.made:=acc_made ..;have key:∀q',q'.dn=false->q'.op=q.op->RunX c sv (G.mem (G.S.acc c.h 1 true id).2).S.made (2*la.length+10) false q' la (G.mem (G.S.acc c.h 1 true id).2)->
   Wo c (ps.set k (.run q' (2*la.length+10) false (G.mem (G.S.acc c.h 1 true id).2).S.made)) Q sv hs D la (G.mem (G.S.acc c.h 1 true id).2):=λq' hd ho hr=>by
  refine w.put hk (w.lk.keep hk rfl (λ_=>hq) (λj q2 e hj=>by cases e) (λq2 e=>by cases e) ?_) ls2 (λh hh=>hh) (λj q2 n had m1 hj hp=>?_) (λq2 n had m1 e=>?_) (λ_ h=>by cases h) (λj hj=>?_) rfl
   (λj h hj hp=>(w.told j h hp).1.mem λx hx=>by rw [acc_keys];exact hx) λh e=>by cases e
  ·exact Dr.acc (h:=c.h) (i:=1) (f:=id) (.inr (.inl (by decide))) w.lk.dr
  ·have:=w.alone hk rfl hq j _ hp;cases this
  ·injection e with e1 e2 e3 e4;subst e1;subst e2;subst e3;subst e4
   exact ⟨hr,λ_ h hh=>(ls2.hb h hh).1,λj h hj hp=>(ls2.hb h (w.told j h hp).2.1).1⟩
  ·by_cases e:j=k
   ·subst e;rw [if_pos rfl];exact ⟨(λ_ h=>by cases h),λ_=>w.in_of hk (λh=>by cases h)⟩
   ·rw [if_neg e]
 cases hv:q.vb.isSome with
 |true=>
  rw [hv,if_pos rfl] at hn;have h1:=room_begin (q:={q with eff:=false,nx:=.enter ⟨b0,sv,2⟩ .room}) M2 hv hw.dn hw.keys;refine ⟨_,_,λb=>tk_got hw.dn hn e1,key _ h1.2.1 h1.2.2.2.1 ⟨_,?_,RI.refl _⟩,h1.2.1,h1.2.2.1,h1.2.2.2.2,h1.2.2.2.1⟩
  have:PX (({q with eff:=false,nx:=.enter ⟨b0,sv,2⟩ .room}:Qr).walk c .room) c (cxT sv)=PV c (cxT sv):=if_pos hv
  show Run c (cxT sv) _ _ (PX (({q with eff:=false,nx:=.enter ⟨b0,sv,2⟩ .room}:Qr).walk c .room) c (cxT sv)) _ _ _ _ _;rw [this];exact Run.mono h1.1 (by omega)
 |false=>
  have hv':q.vb=none:=by cases h:q.vb with|none=>rfl|some b=>rw [h] at hv;cases hv
  rw [hv,if_neg Bool.false_ne_true] at hn;have h1:=run_begin (q:={q with eff:=false,nx:=.enter ⟨b0,sv,2⟩ .begin}) M2 ls2 (show (G.mem (G.S.acc c.h 1 true id).2).S.made<_ by rw [em];exact hm) hv' hw.dn hw.any;refine ⟨_,_,λb=>tk_got hw.dn hn e1,key _ h1.2.1 h1.2.2.2.1 ⟨_,?_,RI.refl _⟩,h1.2.1,h1.2.2.1,h1.2.2.2.2,h1.2.2.2.1⟩
  have:PX (({q with eff:=false,nx:=.enter ⟨b0,sv,2⟩ .begin}:Qr).begin c) c (cxT sv)=PM c (cxT sv):=by
   have hvb:(({q with eff:=false,nx:=.enter ⟨b0,sv,2⟩ .begin}:Qr).begin c).vb=q.vb:=by
    have:=h1.2.2.2.1;unfold Qr.op at this;simp only [Prod.mk.injEq] at this;exact this.2.2.2.2.1
   unfold PX;rw [hvb,hv];rfl
  show Run c (cxT sv) _ _ (PX (({q with eff:=false,nx:=.enter ⟨b0,sv,2⟩ .begin}:Qr).begin c) c (cxT sv)) _ _ _ _ _;rw [this];exact h1.1
end
section
variable {c:Lc} {n k:Nat} {Q:List Nat} {sv:Wd} {hs:List Int} {D:Dq} {la:List El} {G G':Gr} {q:Qr} {m0 h:Int} {had:Bool} {ps:List Ph}
def Did (c:Lc)(m0:Int)(G:Gr)(q':Qr)(hs hs':List Int)(D D':Dq):Prop:=
 if q'.vb.isSome then D'=D/\hs'=hs/\q'.res=(0,[],0,0)/\q'.keys=D.keys else
 (q'.res=(5,[],0,0)/\D'=D/\hs'=hs/\G.S.room<3/\q'.kd=2/\q'.fl≠2)∨
 (q'.res=((D.do c.d1 q'.kd q'.ky q'.fl q'.val).1.1,(D.do c.d1 q'.kd q'.ky q'.fl q'.val).1.2.1,(D.do c.d1 q'.kd q'.ky q'.fl q'.val).1.2.2.1,elOf hs (D.do c.d1 q'.kd q'.ky q'.fl q'.val).1.2.2.2)/\
  (D.do c.d1 q'.kd q'.ky q'.fl q'.val).1.2.2.2<=hs.length/\D'=(D.do c.d1 q'.kd q'.ky q'.fl q'.val).2/\(hs'=hs∨∃h,hs'=hs++[h]/\m0<h))
theorem did_ls {q':Qr}{la':List El}(ls:Ls c hs D la G.S)(he:Eff c m0 G q' G' la la')(hm:∀h∈hs,h<=m0)(hmade:G.S.made<=G'.S.made)
  (hvals:∀h,h<=m0->h≠c.h->G'.S.V h≠none->G.S.V h≠none/\((q'.kd=2/\q'.fl≠1/\q'.vb=none/\∃e∈la,e.h=h/\e.k=q'.ky)∨val G'.S h=val G.S h)) :
  ∃hs' D',Did c m0 G q' hs hs' D D'/\Ls c hs' D' la' G'.S/\∀h∈hs,h∈hs':=by
 have hk:=he.keeps ls.keys ls.le ls.d1.1;cases hv:q'.vb.isSome with
 |true=>
  have he':=he;unfold Eff at he';rw [if_pos hv] at he';obtain ⟨rfl,e1,e2⟩:=he';refine ⟨hs,D,?_,⟨ls.d1,ls.cor,ls.keys,ls.le,λa ha=>⟨Int.le_trans (ls.hb a ha).1 hmade,(ls.hb a ha).2⟩,ls.nd,?_⟩,λh hh=>hh⟩
  ·unfold Did;rw [if_pos hv];exact ⟨rfl,rfl,e1,e2.trans ls.cor.keys⟩
  ·refine ls.vals.keep λa ha h3=>?_
   have⟨x1,x2⟩:=hvals a (hm a ha) (ls.hb a ha).2 h3;exact ⟨x1,x2.resolve_left λ⟨_,_,y,_⟩=>by rw [y] at hv;cases hv⟩
 |false=>
  have hv':q'.vb=none:=by cases h:q'.vb with|none=>rfl|some b=>rw [h] at hv;cases hv
  have hd:=he.doc hv' ls.cor ls.keys (λh hh=>⟨hm h hh,(ls.hb h hh).2⟩) ls.nd ls.vals hvals;rcases hd with ⟨e1,rfl,e2,e3,e4,V⟩|⟨e1,e2,hs',⟨C,V,hn⟩⟩
  ·refine ⟨hs,D,?_,⟨ls.d1,ls.cor,ls.keys,ls.le,λa ha=>⟨Int.le_trans (ls.hb a ha).1 hmade,(ls.hb a ha).2⟩,ls.nd,V⟩,λh hh=>hh⟩;unfold Did;rw [if_neg (by rw [hv];exact Bool.false_ne_true)];exact .inl ⟨e1,rfl,rfl,e2,e3,e4⟩
  ·refine ⟨hs',_,?_,⟨ls.d1,C,hk.1,hk.2,?_,?_,V⟩,?_⟩
   ·unfold Did;rw [if_neg (by rw [hv];exact Bool.false_ne_true)];exact .inr ⟨e1,e2,rfl,hn.imp id λ⟨h,x,y,_⟩=>⟨h,x,y⟩⟩
   ·rcases hn with rfl|⟨h,rfl,h1,h2,h3⟩
    ·exact λa ha=>⟨Int.le_trans (ls.hb a ha).1 hmade,(ls.hb a ha).2⟩
    ·intro a ha;rcases List.mem_append.1 ha with ha|ha
     ·exact ⟨Int.le_trans (ls.hb a ha).1 hmade,(ls.hb a ha).2⟩
     ·simp only [List.mem_singleton] at ha;subst ha;exact ⟨h2,h3⟩
   ·rcases hn with rfl|⟨h,rfl,h1,h2,h3⟩
    ·exact ls.nd
    ·exact List.nodup_append.2 ⟨ls.nd,by simp,λa ha b hb e=>by
      simp only [List.mem_singleton] at hb;subst hb;subst e
      have:=hm a ha;omega⟩
   ·rcases hn with rfl|⟨h,rfl,_⟩
    ·exact λh hh=>hh
    ·exact λa ha=>List.mem_append_left _ ha
theorem Lk.keepDr {p0 p:Ph}{S S':Sm}(w:Lk c ps Q sv S)(hk:ps[k]? =.some p0)(h0:p0.hold=true)(hp:p.hold=true)(hd:Dr c S' (tick sv Q.length))(hnw:∀q,p≠.wai q)(hnu:∀q,p≠.und q):Lk c (ps.set k p) Q sv S':=by
 have hi:∀{p:Ph},p.hold=true->p.inq=true:=λ{p} h=>by cases p<;>first|exact h|rfl|cases h
 exact w.keep hk (by rw [hi hp,hi h0]) (λ_=>w.first hk h0) (λi q e _=>absurd e (hnw q)) (λq e=>absurd e (hnu q)) hd
theorem PX_eq {q q':Qr}{cap:Cx}(h:q'.op=q.op):PX q' c cap=PX q c cap:=by
 unfold Qr.op at h;simp only [Prod.mk.injEq] at h;unfold PX;rw [h.2.2.2.2.1]
theorem Wo.made (w:Wo c ps Q sv hs D la G):0<=G.S.made/\G.S.made<2305843009213693952:=by
 have⟨l,x,cnt,M⟩:=w.memo;exact M.made
theorem Wo.lonely (w:Wo c ps Q sv hs D la G){p0:Ph}(hk:ps[k]? =.some p0)(h0:p0.hold=true):∀(j:Nat)(p':Ph),j≠k->ps[j]? =.some p'->p'.hold=false:=λj p' hj hp=>by
 cases h:p'.hold with
 |false=>rfl
 |true=>exact absurd (w.lk.one hk h0 hp h) hj
theorem run_hold {p:Ph}(h:p.isRun=true):p.hold=true:=by cases p<;>first|rfl|cases h
theorem Wo.lonely2 (w:Wo c ps Q sv hs D la G){p0:Ph}(hk:ps[k]? =.some p0)(h0:p0.hold=true):∀(j:Nat)(p':Ph),j≠k->ps[j]? =.some p'->p'.isRun=false:=λj p' hj hp=>by
 cases h:p'.isRun with
 |false=>rfl
 |true=>have:=w.lonely hk h0 j p' hj hp;rw [run_hold h] at this;cases this
theorem queue_first {Q:List Nat}(h:Q[0]? =.some k):∃Q1,Q=k::Q1:=by
 cases Q with
 |nil=>simp at h
 |cons a Q1=>simp only [List.getElem?_cons_zero,Option.some.injEq] at h;exact ⟨Q1,by rw [h]⟩
theorem Wo.mine {p0 p:Ph}{Q':List Nat}{sv':Wd}{hs':List Int}{D':Dq}{la':List El}(w:Wo c ps Q sv hs D la G)(hk:ps[k]? =.some p0)(h0:p0.hold=true)(h1:p≠.out)(h2:∀h,p≠.cell h)
  (lk:Lk c (ps.set k p) Q' sv' G'.S)(ls:Ls c hs' D' la' G'.S)(hsub:∀h∈hs,h∈hs')
  (hmine:∀(q:Qr)(n:Nat)(had:Bool)(m0:Int),p=.run q n had m0->RunX c sv' m0 n had q la' G'/\(had=false->∀h∈hs',h<=m0)/\∀(j:Nat)(h:Int),j≠k->ps[j]? =.some (.cell h)->h<=m0)
  (hmem:p.isRun=false->Mem c (cxT sv') G' la' [] (lenW la'))(hins:G'.ins=G.ins)(hn:G'.n=G.n)(hkept:∀h (j:Int),Kept h j G->Kept h j G'):Wo c (ps.set k p) Q' sv' hs' D' la' G':=by
 refine w.put hk lk ls hsub (λj q n had m0 hj hp=>?_) hmine (λ_ h=>hmem h) (λj hj=>?_) hn (λj h hj hp=>hkept h j (w.told j h hp).1) λh e=>absurd e (h2 h)
 ·have:=w.lonely2 hk h0 j _ hj hp;cases this
 ·rw [hins];by_cases e:j=k
  ·subst e;rw [if_pos rfl];exact ⟨λ_=>h1,λ_=>w.in_of hk λe=>by subst e;cases h0⟩
  ·rw [if_neg e]
theorem Wo.step (w:Wo c ps Q sv hs D la G)(hk:ps[k]? =.some (.run q n had m0)):q.dn=false/\q.nx≠.none/\G.S.fresh/\G.q.length<10000/\∀b,
  ∃hs' D' la',((q.step c G b).1.eff=false->hs'=hs/\D'=D/\la'=la)/\((q.step c G b).1.eff=true->had=false/\Did c m0 G (q.step c G b).1 hs hs' D D')/\(∀h∈hs,h∈hs')/\
   ((q.step c G b).1.dn=false->1<n/\Wo c (ps.set k (.run (q.step c G b).1 (n - 1) (had||(q.step c G b).1.eff) m0)) Q sv hs' D' la' (q.step c G b).2)/\
   ((q.step c G b).1.dn=true->0<n/\(had||(q.step c G b).1.eff)=true/\(((q.step c G b).1.st=true∨(q.step c G b).1.vb.isSome=true)->Wo c (ps.set k .rest) Q sv hs' D' la' (q.step c G b).2/\Mem c (cxT sv) (q.step c G b).2 la' [] (lenW la'))/\
    ((q.step c G b).1.st=false->(q.step c G b).1.vb=none->∃Q1,Q=k::Q1/\Wo c (ps.set k .idle) Q1 (sv+1) hs' D' la' (q.step c G b).2/\Mem c (cxT (sv+1)) (q.step c G b).2 la' [] (lenW la'))):=by
 have⟨⟨G0,hr,hi⟩,hb⟩:=w.run k q n had m0 hk;cases n with
 |zero=>exact hr.elim
 |succ n=>
  have⟨hd,hne,hz,_,hstep⟩:=hr;have⟨hf,hl,hb2⟩:=hstep G hi;refine ⟨hd,hne,hf,hl,λb=>?_⟩;have⟨la',t,h1,h2⟩:=hb2 b;have⟨kp1,kp2⟩:=step_kp (c:=c) hd G b;have⟨g1,g2,g3,g4⟩:=step_G (c:=c) hd G b;have hkept:∀h (j:Int),Kept h j G->Kept h j (q.step c G b).2:=λh j hK=>step_kept G b hd hK
  have hdr:=λhn=>Dr.step hd hz hf b w.lk.dr hn
  generalize hs1:q.step c G b=s at t h1 h2 kp1 kp2 g1 g2 g3 g4 hkept hdr⊢;have hmade:G.S.made<=s.2.S.made:=by
   have hm:=w.made;have e:wr (G.S.made+1)=G.S.made+1:=wrs (by omega);rw [e] at g3;rcases g3 with g|g<;>omega
  have hal:∀{l x cnt cap},Mem c cap s.2 l x cnt->s.2.S.V c.h≠none:=λM=>by
   have⟨dr,_,e⟩:=M.lock;rw [e];simp
  have key:∃hs' D',(s.1.eff=false->hs'=hs/\D'=D/\la'=la)/\(s.1.eff=true->had=false/\Did c m0 G s.1 hs hs' D D')/\(∀h∈hs,h∈hs')/\Ls c hs' D' la' s.2.S:=by
   cases he:s.1.eff with
   |false=>
    obtain rfl:=t.no he;refine ⟨hs,D,λ_=>⟨rfl,rfl,rfl⟩,(λh=>by cases h),λh hh=>hh,w.ls.same ⟨hmade,λa ha hn=>?_⟩⟩;have ha':a<=m0∨had=true:=by
     cases had with
     |false=>exact .inl (hb rfl a ha)
     |true=>exact .inr rfl
    have⟨x1,x2⟩:=t.vals a ha' (w.ls.hb a ha).2 hn;exact ⟨x1,x2.resolve_left λh=>by rw [he] at h;cases h.1⟩
   |true=>
    have⟨hh,hE⟩:=t.yes he;have⟨hs',D',x1,x2,x3⟩:=did_ls w.ls hE (hb hh) hmade λh h1 h2 h3=>by
     have⟨y1,y2⟩:=t.vals h (.inl h1) h2 h3;exact ⟨y1,y2.imp (λy=>y.2) id⟩
    exact ⟨hs',D',(λh=>by cases h),λ_=>⟨hh,x1⟩,x3,x2⟩
  have⟨hs',D',k1,k2,k3,ls⟩:=key;refine ⟨hs',D',la',k1,k2,k3,λhdn=>?_,λhdn=>?_⟩
  ·have hrun:=h2 hdn;rw [<-PX_eq kp1] at hrun;have hx:RunX c sv m0 n (had||s.1.eff) s.1 la' s.2:=⟨s.2,hrun,RI.refl _⟩;have⟨l,x,cnt,M⟩:=hx.mem;have hn:0<n:=by
    cases n with
    |zero=>exact hrun.elim
    |succ n=>omega
   refine ⟨by omega,w.mine hk rfl (λe=>by cases e) (λh e=>by cases e) (w.lk.keepDr hk rfl rfl (hdr (hal M)) (λq e=>by cases e) (λq e=>by cases e)) ls k3 (λq2 n2 had2 m2 e=>?_) (λh=>by cases h) g1 g2 hkept⟩;injection e with e1 e2 e3 e4
   subst e1;subst e2;subst e3;subst e4;refine ⟨hx,λhh=>?_,λj h hj hp=>(w.told j h hp).2.2 k q (n+1) had m0 hk⟩;simp only [Bool.or_eq_false_iff] at hh;rw [(k1 hh.2).1];exact hb hh.1
  ·have⟨he,hP⟩:=h1 hdn;refine ⟨by omega,he,λhv=>?_,λhst hvb=>?_⟩
   ·have M:Mem c (cxT sv) s.2 la' [] (lenW la'):=by
     rw [<-PX_eq kp1] at hP;unfold PX at hP;split at hP
     ·exact hP
     ·rename_i hnv;have hst:=hv.resolve_right hnv;unfold PM at hP;rw [if_pos hst] at hP;exact hP
    exact ⟨w.mine hk rfl (λe=>by cases e) (λh e=>by cases e) (w.lk.keepDr hk rfl rfl (hdr (hal M)) (λq e=>by cases e) (λq e=>by cases e)) ls k3 (λq2 n2 had2 m2 e=>by cases e) (λ_=>M) g1 g2 hkept,M⟩
   ·have M:Mem c (cxT (sv+1)) s.2 la' [] (lenW la'):=by
     rw [<-PX_eq kp1] at hP;unfold PX at hP;rw [hvb,if_neg (by simp)] at hP;unfold PM at hP;rw [if_neg (by rw [hst];exact Bool.false_ne_true)] at hP;exact hP
    obtain ⟨Q1,rfl⟩:=queue_first (w.lk.first hk rfl);exact ⟨Q1,rfl,w.mine hk rfl (λe=>by cases e) (λh e=>by cases e) (w.lk.pop hk rfl (λq e=>by cases e) (w.lonely hk rfl) (hdr (hal M))) ls k3 (λq2 n2 had2 m2 e=>by cases e) (λ_=>M) g1 g2 hkept,M⟩
theorem Wo.begin (w:Wo c ps Q sv hs D la G)(hm:G.S.made<2305843009213693951)(hk:ps[k]? =.some .rest)(hv:q.vb=none)(hd:q.dn=false)(ha:q.any=false) :
  Wo c (ps.set k (.run (q.begin c) (2*la.length+10) false G.S.made)) Q sv hs D la G:=by
 have M:=w.mem λj p hp=>by
  by_cases e:j=k
  ·subst e;rw [hk] at hp;injection hp with hp;subst hp;rfl
  ·exact w.lonely2 hk rfl j p e hp
 have h1:=run_begin M w.ls hm hv hd ha;have eP:PX (q.begin c) c (cxT sv)=PM c (cxT sv):=by
  rw [PX_eq h1.2.2.2.1];unfold PX;rw [hv];rfl
 refine w.mine hk rfl (λe=>by cases e) (λh e=>by cases e) (w.lk.keepDr hk rfl rfl w.lk.dr (λq e=>by cases e) (λq e=>by cases e)) w.ls (λh hh=>hh) (λq2 n2 had2 m2 e=>?_) (λh=>by cases h) rfl rfl λh j hK=>hK
 injection e with e1 e2 e3 e4
 subst e1;subst e2;subst e3;subst e4;refine ⟨⟨G,?_,RI.refl _⟩,λ_ h hh=>(w.ls.hb h hh).1,λj h hj hp=>(w.ls.hb h (w.told j h hp).2.1).1⟩;rw [eP];exact h1.1
theorem Wo.drop (w:Wo c ps Q sv hs D la G)(hk:ps[k]? =.some .rest)(hd:q.dn=false)(hn:q.nx=.drop):∃Q1 G',(∀b,q.step c G b=({q with eff:=false,dn:=true},G'))/\Q=k::Q1/\Wo c (ps.set k .idle) Q1 (sv+1) hs D la G':=by
 have M:=w.mem λj p hp=>by
  by_cases e:j=k
  ·subst e;rw [hk] at hp;injection hp with hp;subst hp;rfl
  ·exact w.lonely2 hk rfl j p e hp
 have⟨M2,same⟩:=M.served (addF 1) (by rw [addF_eq]);obtain ⟨Q1,rfl⟩:=queue_first (w.lk.first hk rfl);refine ⟨Q1,G.mem (G.S.acc c.h 1 true (addF 1)).2,λb=>?_,rfl,?_⟩
 ·rw [step_nx hd,hn];rfl
 ·refine w.mine hk rfl (λe=>by cases e) (λh e=>by cases e) (w.lk.pop hk rfl (λq e=>by cases e) (w.lonely hk rfl) ?_) (w.ls.same ⟨by show G.S.made<=(G.S.acc _ _ _ _).2.made;rw [acc_made];exact Int.le_refl _,λa ha hn=>keepV (same a (w.ls.hb a ha).2) hn⟩) (λh hh=>hh) (λq2 n2 had2 m2 e=>by cases e) (λ_=>M2) rfl rfl λh j hK=>hK.acc
  exact Dr.acc (h:=c.h) (i:=1) (f:=addF 1) (.inr (.inl (by decide))) w.lk.dr
theorem Wo.enter (w:Wo c ps Q sv hs D la G)(hk:ps[k]? =.some .out)(hq:Wq q 0 0):(G.enter k).1=true/\Wo c (ps.set k (.und q)) Q sv hs D la (G.enter k).2:=by
 have hl:=lt_of_get hk;have hni:¬(k:Int)∈G.ins:=λh=>(w.ins k hl).1 h hk
 have e:G.enter k=(true,{G with ins:=G.ins++[(k:Int)]}):=by
  unfold Gr.enter;rw [if_neg (by have:=w.gn;simp only [not_or];exact ⟨by omega,by omega,hni⟩)]
 refine ⟨by rw [e],?_⟩;have eS:=enter_S (G:=G) (a:=k);refine w.put hk (w.lk.keep hk rfl (λh=>by cases h) (λi q e=>by cases e) (λq2 e=>by injection e with e;subst e;exact hq) (by rw [eS.1];exact w.lk.dr)) (by rw [eS.1];exact w.ls) (λh hh=>hh)
  (λj q n had m0 hj hp=>⟨(w.run j q n had m0 hp).1.ri (RI.enter k),(w.run j q n had m0 hp).2⟩) (λq n had m0 e=>by cases e) (λho _=>(RI.enter (m0:=0) k).mem (w.mem λj p' hp=>?_)) (λj hj=>?_) enter_n
  (λj h hj hp=>(w.told j h hp).1.enter k) λh e=>by cases e
 ·by_cases e:j=k
  ·subst e;rw [hk] at hp;injection hp with hp;subst hp;rfl
  ·exact ho j p' e hp
 ·rw [e];show (j:Int)∈G.ins++[(k:Int)]↔_;by_cases e1:j=k
  ·subst e1;rw [if_pos rfl];simp
  ·rw [if_neg e1,List.mem_append];simp only [List.mem_singleton,or_iff_left_iff_imp];intro h;omega
theorem Wo.exit (w:Wo c ps Q sv hs D la G)(hk:ps[k]? =.some .idle):Wo c (ps.set k .out) Q sv hs D la (G.leave k).2:=by
 have⟨l,x,cnt,M⟩:=w.memo;have⟨M2,f⟩:=M.leave (k:Int);have hdr:Dr c (G.leave (k:Int)).2.S (tick sv Q.length):=by
  have⟨a,b,e,h1⟩:=w.lk.dr;have⟨d,_,h2⟩:=M2.lock
  have:=f c.h (by rw [h2];simp)
  exact ⟨a,b,e,this.trans h1⟩
 refine w.put hk (w.lk.keep hk rfl (λh=>by cases h) (λi q e=>by cases e) (λq2 e=>by cases e) hdr) (w.ls.same ⟨by rw [leave_made];exact Int.le_refl _,λa ha hn=>keepV (f a hn) hn⟩) (λh hh=>hh)
  (λj q n had m0 hj hp=>⟨(w.run j q n had m0 hp).1.ri (RI.leave k),(w.run j q n had m0 hp).2⟩) (λq n had m0 e=>by cases e) (λho _=>(RI.leave (m0:=0) k).mem (w.mem λj p' hp=>?_)) (λj hj=>?_) leave_n
  (λj h hj hp=>(w.told j h hp).1.leave (λe=>hj (by omega))) λh e=>by cases e
 ·by_cases e:j=k
  ·subst e;rw [hk] at hp;injection hp with hp;subst hp;rfl
  ·exact ho j p' e hp
 ·rw [leave_ins M.ok];by_cases e1:j=k
  ·subst e1;rw [if_pos rfl];exact ⟨λh=>absurd rfl h.2,λh=>absurd rfl h⟩
  ·rw [if_neg e1];exact ⟨λh=>h.1,λh=>⟨h,λe=>e1 (by omega)⟩⟩
theorem Wo.tell (w:Wo c ps Q sv hs D la G)(M:Mem c (cxT sv) G la [] (lenW la))(hno:∀(j:Nat)(p:Ph),ps[j]? =.some p->p.isRun=false)(hk:ps[k]? =.some .idle){e:El}(he:e∈la)(hh:e.h∈hs):Wo c (ps.set k (.cell e.h)) Q sv hs D la G:=by
 have hreg:e.h∈G.S.regs.map Reg.h:=M.perm.mem_iff.2 (List.mem_cons_of_mem _ (List.mem_append_left _ (List.mem_append_left _ (List.mem_map.2 ⟨e,he,rfl⟩))));have hK:Kept e.h k G:=⟨w.in_of hk (λh=>by cases h),hreg,λx hx hxe=>by
  exfalso;have nd:=(List.nodup_cons.1 M.nd2).2;exact (List.nodup_append.1 nd).2.2 e.h (List.mem_append_left _ (List.mem_map.2 ⟨e,he,rfl⟩)) x.h (List.mem_map.2 ⟨x,hx,rfl⟩) hxe.symm⟩
 refine w.put hk (w.lk.keep hk rfl (λh=>by cases h) (λi q e=>by cases e) (λq2 e=>by cases e) w.lk.dr) w.ls (λh hh=>hh)
  (λj q n had m0 hj hp=>w.run j q n had m0 hp) (λq n had m0 e=>by cases e) (λ_ _=>M) (λj hj=>?_) rfl
  (λj h hj hp=>(w.told j h hp).1) λh e1=>?_
 ·by_cases e1:j=k
  ·subst e1;rw [if_pos rfl];exact ⟨(λ_ h=>by cases h),λ_=>w.in_of hk (λh=>by cases h)⟩
  ·rw [if_neg e1]
 ·injection e1 with e1;subst e1
  exact ⟨hK,hh,λj q n had m0 hj hp=>by have:=hno j _ hp;cases this⟩
theorem Wo.alive (w:Wo c ps Q sv hs D la G)(hk:ps[k]? =.some (.cell h)):∃p v r,G.S.V h=.some [p,v,r]:=by
 have⟨x1,x2,x3⟩:=w.told k h hk;have⟨l,x,cnt,M⟩:=w.memo;exact M.alive (M.of_reg x1.reg (w.ls.hb h x2).2)
theorem Wo.store {i:Nat}(w:Wo c ps Q sv hs D la G)(hk:ps[k]? =.some (.cell h))(hi:hs[i]? =.some h)(v:Wd) :
  (G.S.acc h 1 true λ_=>v).1.2=true/\Wo c (ps.set k (.cell h)) Q sv hs ⟨D.L,D.ws.set i v⟩ la (G.mem (G.S.acc h 1 true λ_=>v).2):=by
 have⟨x1,x2,x3⟩:=w.told k h hk;have hc:=(w.ls.hb h x2).2;have⟨p,v0,r,hv⟩:=w.alive hk;have⟨e1,e2,_,_,_⟩:=V_acc1 hv (by simp) (λ_=>v);refine ⟨by rw [e1],?_⟩;refine w.quiet hk rfl (λh=>by cases h) rfl (λh=>by cases h) (w.lk.keep hk rfl (λh=>by cases h) (λi q e=>by cases e) (λq2 e=>by cases e) ?_) ?_
  (λj q n had m0 hp=>RI.cell x1.reg hc (x3 j q n had m0 hp) v) (λM=>(RI.cell (m0:=h) x1.reg hc (Int.le_refl _) v).mem M) (λx hx=>by rw [acc_keys];exact hx) λh' e=>e
 ·exact Dr.acc (h:=h) (i:=1) (f:=λ_=>v) (.inl hc) w.lk.dr
 ·refine ⟨w.ls.d1,⟨w.ls.cor.map,w.ls.cor.rng,by rw [List.length_set];exact w.ls.cor.len⟩,w.ls.keys,w.ls.le,λa ha=>?_,w.ls.nd,λj a u h1 h2 h3=>?_⟩
  ·rw [acc_made];exact w.ls.hb a ha
  ·have e2a:=e2 a;by_cases ej:j=i
   ·subst ej;rw [hi] at h1;injection h1 with h1;subst h1
    have h2:(D.ws.set j v)[j]? =.some u:=h2;rw [List.getElem?_set_self (by have:=lt_of_get h2;rwa [List.length_set] at this)] at h2;injection h2 with h2;subst h2
    rw [if_pos rfl] at e2a;exact val_of e2a
   ·have h2:(D.ws.set i v)[j]? =.some u:=h2;rw [List.getElem?_set_ne (Ne.symm ej)] at h2;have hne:a≠h:=λe=>ej ((List.getElem?_inj (lt_of_get h1) w.ls.nd).1 (by rw [h1,hi,e]))
    rw [if_neg hne] at e2a;rw [e2a] at h3;rw [val_same e2a];exact w.ls.vals j a u h1 h2 h3
theorem Wo.load {i:Nat}{u:Wd}(w:Wo c ps Q sv hs D la G)(hk:ps[k]? =.some (.cell h))(hi:hs[i]? =.some h)(hu:D.ws[i]? =.some u) :
  (G.S.acc h 1 true id).1=(u,true)/\Wo c (ps.set k .idle) Q sv hs D la (G.mem (G.S.acc h 1 true id).2):=by
 have⟨x1,x2,x3⟩:=w.told k h hk;have hc:=(w.ls.hb h x2).2;have⟨p,v0,r,hv⟩:=w.alive hk;have⟨e1,e2,_,_,_⟩:=V_acc1 hv (by simp) id;have ev:v0=u:=by
  have:=w.ls.vals i h u hi hu (by rw [hv];simp)
  rw [<-this];exact (val_of hv).symm
 refine ⟨by rw [e1];show (v0,true)=_;rw [ev],?_⟩;have same:∀a,(G.S.acc h 1 true id).2.V a=G.S.V a:=λa=>by
  rw [e2];by_cases e:a=h
  ·subst e;rw [if_pos rfl,hv];rfl
  ·rw [if_neg e]
 refine w.quiet hk rfl (λh=>by cases h) rfl (λh=>by cases h) (w.lk.keep hk rfl (λh=>by cases h) (λi q e=>by cases e) (λq2 e=>by cases e) ?_) (w.ls.same ⟨by rw [acc_made];exact Int.le_refl _,λa ha hn=>keepV (same a) hn⟩)
  (λj q n had m0 hp=>RI.cellLd x1.reg hc) (λM=>(RI.cellLd (m0:=0) x1.reg hc).mem M) (λx hx=>by rw [acc_keys];exact hx) λh' e=>by cases e
 exact Dr.acc (h:=h) (i:=1) (f:=id) (.inl hc) w.lk.dr
end
end Go.Proofs.YtjggeoghlicmdaaGreat
