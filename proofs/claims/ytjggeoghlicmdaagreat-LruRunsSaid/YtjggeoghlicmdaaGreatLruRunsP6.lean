/-
  lruRuns.proved: part 6 of its proof. No condition.
  Written by a program out of the texts LruDo LruDo2 LruStep LruStep2 GraceP0 LruMem LruMem2 LruMem3 LrRun LrRun2 LrRun3 LrRun4 LrKeep LrDoc As49 Harness Rws LrGl VcLd Lru16.
-/
import Derived.Test.YtjggeoghlicmdaaGreatLruRunsP5
set_option linter.unusedVariables false
namespace Go.Proofs.YtjggeoghlicmdaaGreat
open Go Go.AS Go.RowKit
section
variable {H H':Heap} {R:Value->Heap->Prop} {L PL PL':List Asr} {r:Nat} {c:Lc}
theorem pool_ins (As:List Asr)(h:Sep H (As++many PL::L)):Sep H (many (As++PL)::L):=by
 have h1:Sep H (many PL::(As++L)):=h.perm List.perm_middle;refine Sep.many_iff.2 ((Sep.many_iff.1 h1).perm ?_);rw [List.append_assoc];exact List.perm_append_comm_assoc PL As L
theorem pld {g o z k:Nat}{w:Bool}{cs:List Value}{v:Value}(h:Sep H L)(hk:L[k]? =some (many PL))(hm:bx g (.cells w z cs)∈PL)(hv:cs[o]? =some v):H.cell g o=some v:=
 (cell_of (h.one k hk _ hm) o).trans hv
abbrev b1 (g:Nat)(v:Value):Asr:=bx g (.cells true 0 [v])
theorem sub_r {A B:List Asr}(h:∀x∈A,x∈B)(As:List Asr):∀x∈A,x∈As++B:=λx hx=>List.mem_append_right _ (h x hx)
theorem sub_t {A B C:List Asr}(h:∀x∈A,x∈B)(k:∀x∈B,x∈C):∀x∈A,x∈C:=λx hx=>k x (h x hx)
structure Gx where
 G:Gr
 b:Option Nat
 junk:List Value
 hb:b=none->G.q=[]
 hj:b=none->junk=[]
abbrev Gx.rest (g m:Nat)(X:Gx):List Asr:=[bx g (.cells true 0 [P m,I X.G.n,.map (some X.G.mi),.slice (addr X.b) X.G.q.length 0]),im .i64 X.G.mi (kset X.G.ins),gl 2 X.b (rows X.G.q++X.junk),wm X.G.q]
def grA (g m:Nat)(X:Gx):Asr:=many (mem m X.G.S::X.rest g m)
def Gx.to (X:Gx)(S:Sm):Gx:=⟨X.G.mem S,X.b,X.junk,X.hb,X.hj⟩
theorem gr_out {g m:Nat}{X:Gx}(h:Sep H (grA g m X::L)):Sep H (mem m X.G.S::(X.rest g m++L)):=Sep.many_iff.1 h
theorem gr_in {g m:Nat}{X:Gx}{S:Sm}(h:Sep H (mem m S::(X.rest g m++L))):Sep H (grA g m (X.to S)::L):=Sep.many_iff.2 h
theorem gr_isG {g m:Nat}{X:Gx}(h:Sep H (grA g m X::L)):IsG H g m X.G L:=
 ⟨X.b,X.junk,X.hb,X.hj,Sep.pick (gr_out h) 5 [1,2,3,4,0] (by decide)⟩
theorem isG_gr {g m:Nat}{G:Gr}(h:IsG H g m G L):∃X:Gx,X.G=G/\Sep H (grA g m X::L):=by
 have⟨b,junk,hb,hj,hs⟩:=h.ex;refine ⟨⟨G,b,junk,hb,hj⟩,rfl,Sep.many_iff.2 ?_⟩;exact Sep.pick hs 5 [4,0,1,2,3] (by decide)
theorem gload_s {g m:Nat}{X:Gx}{a i:Int}(h:Sep H (grA g m X::L))
  (hR:∀H',Sep H' (grA g m (X.to (X.G.S.acc a i true id).2)::L)->R (.tuple #[W (X.G.S.acc a i true id).1.1,.bool (X.G.S.acc a i true id).1.2]) H'):CA en F.smem_Mem_Load [P m,I a,I i] H R:=
 load_s (gr_out h) λH' h'=>hR H' (gr_in h')
theorem gstore_s {g m:Nat}{X:Gx}{a i:Int}{v:BitVec 64}(h:Sep H (grA g m X::L))
  (hR:∀H',Sep H' (grA g m (X.to (X.G.S.acc a i true λ_=>v).2)::L)->R (.bool (X.G.S.acc a i true λ_=>v).1.2) H'):CA en F.smem_Mem_Store [P m,I a,I i,W v] H R:=
 store_s (gr_out h) λH' h'=>hR H' (gr_in h')
theorem gadd_s {g m:Nat}{X:Gx}{a i:Int}{v:BitVec 64}(h:Sep H (grA g m X::L))
  (hR:∀H',Sep H' (grA g m (X.to (X.G.S.acc a i true (addF v)).2)::L)->R (.tuple #[W (X.G.S.acc a i true (addF v)).1.1,.bool (X.G.S.acc a i true (addF v)).1.2]) H'):CA en F.smem_Mem_Fetch [P m,I a,I i,I 0,.int .u64 18446744073709551615,W v] H R:=by
 rw [all_ones];exact fetch_s (gr_out h) λH' h'=>hR H' (gr_in h')
theorem gmore_s {g m:Nat}{X:Gx}{a i:Int}(h:Sep H (grA g m X::L))
  (hR:∀H',Sep H' (grA g m (X.to (X.G.S.acc a i true (addF 1)).2)::L)->R (.tuple #[W (X.G.S.acc a i true (addF 1)).1.1,.bool (X.G.S.acc a i true (addF 1)).1.2]) H'):CA en F.lock_more [P m,I a,I i] H R:=by
 apply vc_lock_more;exact gadd_s (v:=1) h λH' h'=>⟨_,_,rfl,hR H' h'⟩
theorem gmake_s {g m:Nat}{X:Gx}{n:Int}(h:Sep H (grA g m X::L))(hf:X.G.S.find (wr (X.G.S.made+1))=none)
  (hR:∀H' b,Sep H' (grA g m (X.to (X.G.S.make b n).2)::L)->R (.tuple #[I (X.G.S.make b n).1.1,I (X.G.S.make b n).1.2]) H'):CA en F.smem_Mem_Make [P m,I n] H R:=
 make_s (gr_out h) (λ_ _ _=>hf) λH' b h'=>hR H' b (gr_in h')
theorem gdefer_s {g m:Nat}{X:Gx}{a:Int}(h:Sep H (grA g m X::L))(hl:X.G.q.length<10000)
  (hR:∀H' X' mb f n,X'.G=(X.G.defer a mb).2->Sep H' (grA g m X'::L)->R (.slice f n 0) H'):CA en F.grace_Grace_Defer [P g,I a] H R:=
 defer_s (gr_isG h) hl λH' f mb _ h'=>by
  have⟨X',e,h2⟩:=isG_gr h'
  exact hR H' X' mb _ _ e (Sep.rm1 h2)
inductive AskV (PL:List Asr)(r:Nat):Ask->Value->Prop where
 |key {g:Nat}(h:b1 g (P r)∈PL):AskV PL r .key (.func (.func F.lru_Run_begin_1) #[] #[P g])
 |near:AskV PL r .near (.func (.func F.lru_Run_nearer) #[P r] #[])
inductive EndV (PL:List Asr)(r:Nat):Ask->Value->Prop where
 |key:EndV PL r .key (.func (.func F.lru_Run_absent) #[P r] #[])
 |near:EndV PL r .near (.func (.func F.lru_Run_nearest) #[P r] #[])
inductive SV (PL:List Asr)(r:Nat):KS->Value->Prop where
 |upd {g:Nat}(h:b1 g (P r)∈PL):SV PL r .upd (.func (.func F.lru_Run_found_1) #[] #[P g])
 |takeEnd {g:Nat}(h:b1 g (P r)∈PL):SV PL r .takeEnd (.func (.func F.lru_Run_found_3_1) #[] #[P g])
 |delEnd {g:Nat}(h:b1 g (P r)∈PL):SV PL r .delEnd (.func (.func F.lru_Run_found_4) #[] #[P g])
 |used {g:Nat}(h:b1 g (P r)∈PL):SV PL r .used (.func (.func F.lru_Run_used_1) #[] #[P g])
 |layVal {g g2:Nat}{k:KS}{v:Value}(h:b1 g (P r)∈PL)(h2:b1 g2 v∈PL)(hk:SV PL r k v):SV PL r (.layVal k) (.func (.func F.lru_Run_lay_1) #[] #[P g,P g2])
 |layYoung {g g2:Nat}{k:KS}{v:Value}(h:b1 g (P r)∈PL)(h2:b1 g2 v∈PL)(hk:SV PL r k v):SV PL r (.layYoung k) (.func (.func F.lru_Run_lay_1_1) #[] #[P g,P g2])
 |layGive {g g2:Nat}{k:KS}{v:Value}(h:b1 g (P r)∈PL)(h2:b1 g2 v∈PL)(hk:SV PL r k v):SV PL r (.layGive k) (.func (.func F.lru_Run_lay_1_1_1) #[] #[P g,P g2])
 |abs1 {g:Nat}(h:b1 g (P r)∈PL):SV PL r .abs1 (.func (.func F.lru_Run_absent_1_1) #[] #[P g])
 |absLay {g g2:Nat}{last:Int}(h:b1 g (P r)∈PL)(h2:b1 g2 (I last)∈PL):SV PL r (.absLay last) (.func (.func F.lru_Run_absent_1_2) #[] #[P g,P g2])
 |absDef {g g2:Nat}{last:Int}(h:b1 g (P r)∈PL)(h2:b1 g2 (I last)∈PL):SV PL r (.absDef last) (.func (.func F.lru_Run_absent_1_2_1) #[] #[P g,P g2])
 |head {g g2 g3:Nat}{a:Int}{k:KS}{v:Value}(h:b1 g (P r)∈PL)(h2:b1 g2 (I a)∈PL)(h3:b1 g3 v∈PL)(hk:SV PL r k v):SV PL r (.head a k) (.func (.func F.lru_Run_youngest_1_1) #[] #[P g,P g2,P g3])
 |away:SV PL r .away (.func (.func F.lru_Run_away) #[P r] #[])
 |begin:SV PL r .begin (.func (.func F.lru_Run_begin) #[P r] #[])
abbrev onV (g0 g1 g2 g3:Nat):Value:=.func (.func F.lru_Run_walk_1) #[] #[P g0,P g1,P g2,P g3]
structure Wk (PL:List Asr)(r:Nat)(a:Ask)(g0 g1 g2 g3:Nat):Prop where
 run:b1 g0 (P r)∈PL
 stop:∃v,b1 g1 v∈PL/\EndV PL r a v
 ask:∃v,b1 g2 v∈PL/\AskV PL r a v
 on:b1 g3 (onV g0 g1 g2 g3)∈PL
inductive LV (PL:List Asr)(r:Nat):KL->Value->Prop where
 |walkAt {a:Ask}{g0 g1 g2 g3:Nat}(h:Wk PL r a g0 g1 g2 g3):LV PL r (.walkAt a) (.func (.func F.lru_Run_walk_1_1) #[] #[P g0,P g1,P g2,P g3])
 |walkKey {a:Ask}{g0 g1 g2 g3:Nat}(h:Wk PL r a g0 g1 g2 g3):LV PL r (.walkKey a) (.func (.func F.lru_Run_walk_1_1_1) #[] #[P g2,P g0,P g3])
 |look {g:Nat}(h:b1 g (P r)∈PL):LV PL r .look (.func (.func F.lru_Run_found_2) #[] #[P g])
 |take {g:Nat}(h:b1 g (P r)∈PL):LV PL r .take (.func (.func F.lru_Run_found_3) #[] #[P g])
 |count {g:Nat}(h:b1 g (P r)∈PL):LV PL r .count (.func (.func F.lru_Run_absent_1) #[] #[P g])
 |unl {g g2:Nat}{k:KS}{v:Value}(h:b1 g (P r)∈PL)(h2:b1 g2 v∈PL)(hk:SV PL r k v):LV PL r (.unl k) (.func (.func F.lru_Run_unlink_1) #[] #[P g,P g2])
 |young {g g2 g3:Nat}{a:Int}{k:KS}{v:Value}(h:b1 g (P r)∈PL)(h2:b1 g2 (I a)∈PL)(h3:b1 g3 v∈PL)(hk:SV PL r k v):LV PL r (.young a k) (.func (.func F.lru_Run_youngest_1) #[] #[P g,P g2,P g3])
inductive NV (PL:List Asr)(r:Nat):Nx->Value->Prop where
 |none {v:Value}:NV PL r .none v
 |enter {g g2:Nat}{t:Tk}{k:KS}{v:Value}(h:b1 g (P t.b)∈PL)(h2:b1 g2 v∈PL)(hk:SV PL r k v):NV PL r (.enter t k) (.func (.func F.lru_Run_enter_1) #[] #[P g,P g2])
 |load {g g2 g3:Nat}{a i:Int}{k:KL}{v:Value}(h:b1 g (P r)∈PL)(h2:bx g2 (.cells true 0 [I a,I i])∈PL)(h3:b1 g3 v∈PL)(hk:LV PL r k v):NV PL r (.load a i k) (.func (.func F.lru_Run_load_1) #[] #[P g,P g2,P g3])
 |store {g g2 g3 g4:Nat}{a i:Int}{w:BitVec 64}{k:KS}{v:Value}(h:b1 g (P r)∈PL)(h2:bx g2 (.cells true 0 [I a,I i])∈PL)(h3:b1 g3 (W w)∈PL)(h4:b1 g4 v∈PL)(hk:SV PL r k v):NV PL r (.store a i w k) (.func (.func F.lru_Run_store_1) #[] #[P g,P g2,P g3,P g4])
 |more {g g2:Nat}{w:BitVec 64}(h:b1 g (P r)∈PL)(h2:b1 g2 (W w)∈PL):NV PL r (.more w) (.func (.func F.lru_Run_more_1) #[] #[P g,P g2])
 |drop {g:Nat}(h:b1 g (P r)∈PL):NV PL r .drop (.func (.func F.lru_Run_away_1) #[] #[P g])
theorem AskV.mono (hp:∀A∈PL,A∈PL'){a:Ask}{v:Value}(h:AskV PL r a v):AskV PL' r a v:=by
 cases h with
 |key h=>exact .key (hp _ h)
 |near=>exact .near
theorem EndV.mono {a:Ask}{v:Value}(h:EndV PL r a v):EndV PL' r a v:=by
 cases h with
 |key=>exact .key
 |near=>exact .near
theorem SV.mono (hp:∀A∈PL,A∈PL'){k:KS}{v:Value}(h:SV PL r k v):SV PL' r k v:=by
 induction h with
 |upd h=>exact .upd (hp _ h)
 |takeEnd h=>exact .takeEnd (hp _ h)
 |delEnd h=>exact .delEnd (hp _ h)
 |used h=>exact .used (hp _ h)
 |layVal h h2 _ ih=>exact .layVal (hp _ h) (hp _ h2) ih
 |layYoung h h2 _ ih=>exact .layYoung (hp _ h) (hp _ h2) ih
 |layGive h h2 _ ih=>exact .layGive (hp _ h) (hp _ h2) ih
 |abs1 h=>exact .abs1 (hp _ h)
 |absLay h h2=>exact .absLay (hp _ h) (hp _ h2)
 |absDef h h2=>exact .absDef (hp _ h) (hp _ h2)
 |head h h2 h3 _ ih=>exact .head (hp _ h) (hp _ h2) (hp _ h3) ih
 |away=>exact .away
 |begin=>exact .begin
theorem Wk.mono (hp:∀A∈PL,A∈PL'){a:Ask}{g0 g1 g2 g3:Nat}(h:Wk PL r a g0 g1 g2 g3):Wk PL' r a g0 g1 g2 g3:=by
 have⟨v,h1,h2⟩:=h.stop;have⟨w,h3,h4⟩:=h.ask;exact ⟨hp _ h.run,⟨v,hp _ h1,h2.mono⟩,⟨w,hp _ h3,h4.mono hp⟩,hp _ h.on⟩
theorem LV.mono (hp:∀A∈PL,A∈PL'){k:KL}{v:Value}(h:LV PL r k v):LV PL' r k v:=by
 cases h with
 |walkAt h=>exact .walkAt (h.mono hp)
 |walkKey h=>exact .walkKey (h.mono hp)
 |look h=>exact .look (hp _ h)
 |take h=>exact .take (hp _ h)
 |count h=>exact .count (hp _ h)
 |unl h h2 hk=>exact .unl (hp _ h) (hp _ h2) (hk.mono hp)
 |young h h2 h3 hk=>exact .young (hp _ h) (hp _ h2) (hp _ h3) (hk.mono hp)
theorem NV.mono (hp:∀A∈PL,A∈PL'){n:Nx}{v:Value}(h:NV PL r n v):NV PL' r n v:=by
 cases h with
 |none=>exact .none
 |enter h h2 hk=>exact .enter (hp _ h) (hp _ h2) (hk.mono hp)
 |load h h2 h3 hk=>exact .load (hp _ h) (hp _ h2) (hp _ h3) (hk.mono hp)
 |store h h2 h3 h4 hk=>exact .store (hp _ h) (hp _ h2) (hp _ h3) (hp _ h4) (hk.mono hp)
 |more h h2=>exact .more (hp _ h) (hp _ h2)
 |drop h=>exact .drop (hp _ h)
theorem SV.fn {k:KS}{v:Value}(h:SV PL r k v):∃f l cs,v=.func (.func f) ⟨l⟩ ⟨cs⟩:=by cases h<;>exact ⟨_,_,_,rfl⟩
theorem LV.fn {k:KL}{v:Value}(h:LV PL r k v):∃f l cs,v=.func (.func f) ⟨l⟩ ⟨cs⟩:=by cases h<;>exact ⟨_,_,_,rfl⟩
theorem AskV.fn {k:Ask}{v:Value}(h:AskV PL r k v):∃f l cs,v=.func (.func f) ⟨l⟩ ⟨cs⟩:=by cases h<;>exact ⟨_,_,_,rfl⟩
theorem EndV.fn {k:Ask}{v:Value}(h:EndV PL r k v):∃f l cs,v=.func (.func f) ⟨l⟩ ⟨cs⟩:=by cases h<;>exact ⟨_,_,_,rfl⟩
def RV (PL:List Asr)(ws:List (BitVec 64))(sa:Option Addr):Prop:=
 (ws=[]/\sa=none)∨∃b w,ws=[w]/\sa=some ⟨b,0,none⟩/\bx b (.cells true 1 [W w])∈PL
theorem RV.mono (hp:∀A∈PL,A∈PL'){ws:List (BitVec 64)}{sa:Option Addr}(h:RV PL ws sa):RV PL' ws sa:=
 h.imp_right λ⟨b,w,h1,h2,h3⟩=>⟨b,w,h1,h2,hp _ h3⟩
abbrev rA (r:Nat)(c:Lc)(q:Qr)(sa:Option Addr)(v:Value):Asr:=
 bx r (.cells true 0 [P c.x,I q.kd,W q.ky,.slice none 0 0,I q.fl,I q.cpu,W q.val,I q.no,.slice sa q.rv.length 0,W q.rk,I q.el,v,.bool q.eff,.bool q.dn,.bool q.st,I q.ah,I q.ai,I q.bh,I q.bi,I q.cur,I q.made,W q.best,.bool q.any])
abbrev xA (c:Lc):Asr:=bx c.x (.cells true 0 [P c.m,P c.g,I c.d0,I c.d1,I c.d2,I c.d3,I c.d4,I c.h])
def tkF (ph:Nat):Nat:=if ph=0 then F.lock_Taker_draw else if ph=1 then F.lock_Taker_wait else F.lock_Taker_got
abbrev tkA (c:Lc)(t:Tk):Asr:=bx t.b (.cells true 0 [P c.m,I c.h,I 0,W t.t,.func (.func (tkF t.ph)) #[P t.b] #[]])
def tkL (c:Lc):Nx->List Asr
 |.enter t _=>[tkA c t]
 |_=>[]
structure Rk (H:Heap)(PL:List Asr)(r:Nat)(c:Lc)(q:Qr)(X:Gx)(L:List Asr):Prop where
 ex:∃sa v,RV PL q.rv sa/\NV PL r q.nx v/\Sep H (rA r c q sa v::many PL::xA c::grA c.g c.m X::many (tkL c q.nx)::L)
variable {q:Qr} {X:Gx}
theorem dropT {T:List Asr}{A B C D:Asr}(h:Sep H (A::B::C::D::many T::L)):Sep H (A::B::C::D::many []::L):=by
 have h1:Sep H (many []::A::B::C::D::L):=Sep.many0 (Sep.rm4 h);exact Sep.pick h1 5 [1,2,3,4,0] (by decide)
theorem rload_s {a i:Int}{k:KL}{v:Value}(h:Rk H PL r c q X L)(hk:LV PL r k v)
  (hR:∀H' PL',(∀A∈PL,A∈PL')->Rk H' PL' r c (q.load a i k) X L->R undef H'):CA en F.lru_Run_load [P r,.agg #[I a,I i],v] H R:=by
 have⟨sa,nv,hrv,hnv,hs⟩:=h.ex;obtain ⟨f,l,cs,rfl⟩:=hk.fn;apply vc_lru_Run_load;refine Sep.nw hs λi1 H2 h2=>Sep.nw h2 λi3 H4 h4=>Sep.nw h4 λi5 H6 h6=>⟨_,Sep.ld2 h6 rfl,asAddr_in (Sep.st3 h6 (Nat.le_of_ble_eq_true rfl) λH10 h10=>?_)⟩
 have hp:=sub_r (A:=PL) (λ_ h=>h) [b1 i5 (.func (.func f) ⟨l⟩ ⟨cs⟩),bx i3 (.cells true 0 [I a,I i]),b1 i1 (P r)];refine hR H10 _ hp ⟨sa,_,hrv.mono hp,.load (g:=i1) (g2:=i3) (g3:=i5) (by simp) (by simp) (.head _) (hk.mono hp),?_⟩;have h11:=pool_ins [_,_,_] (Sep.pick h10 8 [0,1,2,4,3,5,6,7] (by decide));exact dropT (Sep.pick h11 5 [1,0,2,3,4] (by decide))
theorem rstore_s {a i:Int}{w:BitVec 64}{k:KS}{v:Value}(h:Rk H PL r c q X L)(hk:SV PL r k v)
  (hR:∀H' PL',(∀A∈PL,A∈PL')->Rk H' PL' r c (q.store a i w k) X L->R undef H'):CA en F.lru_Run_store [P r,.agg #[I a,I i],W w,v] H R:=by
 have⟨sa,nv,hrv,hnv,hs⟩:=h.ex;obtain ⟨f,l,cs,rfl⟩:=hk.fn;apply vc_lru_Run_store;refine Sep.nw hs λi1 H2 h2=>Sep.nw h2 λi3 H4 h4=>Sep.nw h4 λi5 H6 h6=>Sep.nw h6 λi7 H8 h8=>⟨_,Sep.ld3 h8 rfl,asAddr_in (Sep.st4 h8 (Nat.le_of_ble_eq_true rfl) λH10 h10=>?_)⟩
 have hp:=sub_r (A:=PL) (λ_ h=>h) [b1 i7 (.func (.func f) ⟨l⟩ ⟨cs⟩),b1 i5 (W w),bx i3 (.cells true 0 [I a,I i]),b1 i1 (P r)];refine hR H10 _ hp ⟨sa,_,hrv.mono hp,.store (g:=i1) (g2:=i3) (g3:=i5) (g4:=i7) (by simp) (by simp) (by simp) (.head _) (hk.mono hp),?_⟩;have h11:=pool_ins [_,_,_,_] (Sep.pick h10 9 [0,1,2,3,5,4,6,7,8] (by decide));exact dropT (Sep.pick h11 5 [1,0,2,3,4] (by decide))
theorem rmore_s {w:BitVec 64}(h:Rk H PL r c q X L)
  (hR:∀H' PL',(∀A∈PL,A∈PL')->Rk H' PL' r c (q.more w) X L->R undef H'):CA en F.lru_Run_more [P r,W w] H R:=by
 have⟨sa,nv,hrv,hnv,hs⟩:=h.ex;apply vc_lru_Run_more;refine Sep.nw hs λi1 H2 h2=>Sep.nw h2 λi3 H4 h4=>⟨_,Sep.ld1 h4 rfl,asAddr_in (Sep.st2 h4 (Nat.le_of_ble_eq_true rfl) λH10 h10=>?_)⟩
 have hp:=sub_r (A:=PL) (λ_ h=>h) [b1 i3 (W w),b1 i1 (P r)];refine hR H10 _ hp ⟨sa,_,hrv.mono hp,.more (g:=i1) (g2:=i3) (by simp) (by simp),?_⟩;have h11:=pool_ins [_,_] (Sep.pick h10 7 [0,1,3,2,4,5,6] (by decide));exact dropT (Sep.pick h11 5 [1,0,2,3,4] (by decide))
theorem raway_s (h:Rk H PL r c q X L)
  (hR:∀H' PL',(∀A∈PL,A∈PL')->Rk H' PL' r c q.away X L->R undef H'):CA en F.lru_Run_away [P r] H R:=by
 have⟨sa,nv,hrv,hnv,hs⟩:=h.ex;apply vc_lru_Run_away;refine Sep.nw hs λi1 H2 h2=>⟨_,Sep.ld0 h2 rfl,asAddr_in ⟨_,Sep.ld1 h2 rfl,cond_of (λe=>?_) λe=>?_⟩⟩
 ·refine ⟨_,Sep.ld0 h2 rfl,asAddr_in (Sep.st1 h2 (Nat.le_of_ble_eq_true rfl) λH10 h10=>?_)⟩;refine hR H10 PL (λ_ h=>h) ?_;have e2:q.away={q with dn:=true}:=if_pos e;rw [e2];exact ⟨sa,nv,hrv,hnv,h10.tail⟩
 ·refine ⟨_,Sep.ld0 h2 rfl,asAddr_in (Sep.st1 h2 (Nat.le_of_ble_eq_true rfl) λH10 h10=>?_)⟩;have hp:=sub_r (A:=PL) (λ_ h=>h) [b1 i1 (P r)];have e2:q.away={q with nx:=.drop}:=if_neg (by rw [e];exact Bool.false_ne_true);refine hR H10 _ hp ?_;rw [e2];refine ⟨sa,_,hrv.mono hp,.drop (g:=i1) (by simp),?_⟩;have h11:=pool_ins [_] (Sep.pick h10 6 [0,2,1,3,4,5] (by decide));exact dropT (Sep.pick h11 5 [1,0,2,3,4] (by decide))
theorem rgive_s {no el:Int}{rv:List (BitVec 64)}{rk:BitVec 64}{sa:Option Addr}(h:Rk H PL r c q X L)(hv:RV PL rv sa)
  (hR:∀H',Rk H' PL r c (q.give no rv rk el) X L->R undef H'):CA en F.lru_Run_give [P r,.agg #[I no,.slice sa rv.length 0,W rk,I el]] H R:=by
 have⟨sa',nv,hrv,hnv,hs⟩:=h.ex;apply vc_lru_Run_give;refine Sep.nw hs λi1 H2 h2=>⟨_,_,_,_,_,Sep.lds0 h2 rfl,asAddr_in (Sep.st1 h2 (Nat.le_of_ble_eq_true rfl) λH10 h10=>asAddr_in (Sep.st1 h10 (Nat.le_of_ble_eq_true rfl) λH13 h13=>?_))⟩
 exact hR H13 ⟨sa,nv,hv,hnv,h13.tail⟩
theorem rfail_s {e:Int}(h:Rk H PL r c q X L)
  (hR:∀H' PL',(∀A∈PL,A∈PL')->Rk H' PL' r c (q.fail e) X L->R undef H'):CA en F.lru_Run_none [P r,I e] H R:=by
 apply vc_lru_Run_none;refine rgive_s (rv:=[]) (rk:=0) (sa:=none) h (.inl ⟨rfl,rfl⟩) λH2 h2=>⟨rfl,?_⟩
 exact raway_s h2 λH4 PL' hp h4=>⟨rfl,hR H4 PL' hp h4⟩
theorem rhead_s (h:Rk H PL r c q X L)(hR:∀H',Rk H' PL r c q X L->R (.agg #[I c.h,I 2]) H'):CA en F.lru_Run_head [P r] H R:=by
 have⟨sa,nv,hrv,hnv,hs⟩:=h.ex;apply vc_lru_Run_head;refine Sep.nw hs λi1 H2 h2=>asAddr_in ⟨_,Sep.ld1 h2 rfl,asAddr_in ⟨_,Sep.ld3 h2 rfl,Sep.st0 h2 (Nat.le_of_ble_eq_true rfl) λH9 h9=>⟨_,_,Sep.lds0 h9 rfl,?_⟩⟩⟩
 exact hR H9 ⟨sa,nv,hrv,hnv,h9.tail⟩
end
section
variable {H H':Heap} {R:Value->Heap->Prop} {L PL PL':List Asr} {r:Nat} {c:Lc} {q:Qr} {X:Gx}
theorem ins2 (As:List Asr){A:Asr}{M:List Asr}(h:Sep H (As++A::many PL::M)):Sep H (A::many (As++PL)::M):=by
 have h1:Sep H (As++many PL::A::M):=h.perm ((List.Perm.swap (many PL) A M).append_left As);exact (pool_ins As h1).swap
theorem Rk.bump (h:Rk H PL r c q X L)(n:Nat):Rk (H.bump n) PL r c q X L:=by
 have⟨sa,nv,hrv,hnv,hs⟩:=h.ex;exact ⟨sa,nv,hrv,hnv,hs.bump n⟩
theorem Rk.box (h:Rk H PL r c q X L){g:Nat}{v:Value}(hm:b1 g v∈PL):H.cell g 0=some v:=by
 have⟨sa,nv,hrv,hnv,hs⟩:=h.ex;exact pld (k:=1) hs rfl hm rfl
theorem Rk.ins (As:List Asr){sa:Option Addr}{nv:Value}(hrv:RV PL q.rv sa)(hnv:NV PL r q.nx nv)(h:Sep H (As++rA r c q sa nv::many PL::xA c::grA c.g c.m X::many (tkL c q.nx)::L)):Rk H (As++PL) r c q X L:=
 have hp:=sub_r (A:=PL) (λ_ h=>h) As
 ⟨sa,nv,hrv.mono hp,hnv.mono hp,ins2 As h⟩
theorem ryoung_s {a:Int}{k:KS}{v:Value}(h:Rk H PL r c q X L)(hk:SV PL r k v)
  (hR:∀H' PL',(∀A∈PL,A∈PL')->Rk H' PL' r c (q.young c a k) X L->R undef H'):CA en F.lru_Run_youngest [P r,I a,v] H R:=by
 have⟨sa,nv,hrv,hnv,hs⟩:=h.ex;obtain ⟨f,l,cs,rfl⟩:=hk.fn;apply vc_lru_Run_youngest;refine Sep.nw hs λi1 H2 h2=>Sep.nw h2 λi3 H4 h4=>Sep.nw h4 λi5 H6 h6=>?_
 have hp:=sub_r (A:=PL) (λ_ h=>h) [b1 i5 (.func (.func f) ⟨l⟩ ⟨cs⟩),b1 i3 (I a),b1 i1 (P r)];have o6:=(Rk.ins [_,_,_] hrv hnv h6).bump 5;refine ⟨_,Sep.ld2 (h6.bump 5) rfl,_,Sep.ld2 (h6.bump 5) rfl,rhead_s o6 λH10 o10=>⟨_,_,rfl,?_⟩⟩;refine rload_s (k:=.young a k) o10 (.young (g:=i1) (g2:=i3) (g3:=i5) (by simp) (by simp) (.head _) (hk.mono hp)) λH14 PL' hp' o14=>⟨rfl,⟨hR H14 PL' (sub_t hp hp') o14,⟨⟨_,Sep.ld2 (h6.bump 5) rfl,rfl⟩,⟨_,o10.box (by simp),rfl⟩,trivial⟩,trivial⟩⟩
theorem runlink_s {k:KS}{v:Value}(h:Rk H PL r c q X L)(hk:SV PL r k v)
  (hR:∀H' PL',(∀A∈PL,A∈PL')->Rk H' PL' r c (q.unlink k) X L->R undef H'):CA en F.lru_Run_unlink [P r,v] H R:=by
 have⟨sa,nv,hrv,hnv,hs⟩:=h.ex;obtain ⟨f,l,cs,rfl⟩:=hk.fn;apply vc_lru_Run_unlink;refine Sep.nw hs λi1 H2 h2=>Sep.nw h2 λi3 H4 h4=>?_
 have hp:=sub_r (A:=PL) (λ_ h=>h) [b1 i3 (.func (.func f) ⟨l⟩ ⟨cs⟩),b1 i1 (P r)];have o4:=(Rk.ins [_,_] hrv hnv h4).bump 8;have h5:=h4.bump 8;refine ⟨_,Sep.ld1 h5 rfl,_,Sep.ld1 h5 rfl,asAddr_in ⟨_,Sep.ld2 h5 rfl,?_⟩⟩;refine rload_s (k:=.unl k) o4 (.unl (g:=i1) (g2:=i3) (by simp) (.head _) (hk.mono hp)) λH14 PL' hp' o14=>⟨rfl,⟨hR H14 PL' (sub_t hp hp') o14,trivial⟩⟩
theorem rlay_s {k:KS}{v:Value}(h:Rk H PL r c q X L)(hk:SV PL r k v)
  (hR:∀H' PL',(∀A∈PL,A∈PL')->Rk H' PL' r c (q.lay k) X L->R undef H'):CA en F.lru_Run_lay [P r,v] H R:=by
 have⟨sa,nv,hrv,hnv,hs⟩:=h.ex;obtain ⟨f,l,cs,rfl⟩:=hk.fn;apply vc_lru_Run_lay;refine Sep.nw hs λi1 H2 h2=>Sep.nw h2 λi3 H4 h4=>?_
 have hp:=sub_r (A:=PL) (λ_ h=>h) [b1 i3 (.func (.func f) ⟨l⟩ ⟨cs⟩),b1 i1 (P r)];have o4:=(Rk.ins [_,_] hrv hnv h4).bump 13;have h5:=h4.bump 13;refine ⟨_,Sep.ld1 h5 rfl,_,Sep.ld1 h5 rfl,asAddr_in ⟨_,Sep.ld2 h5 rfl,_,Sep.ld1 h5 rfl,asAddr_in ⟨_,Sep.ld2 h5 rfl,?_⟩⟩⟩;refine rstore_s (k:=.layVal k) o4 (.layVal (g:=i1) (g2:=i3) (by simp) (.head _) (hk.mono hp)) λH14 PL' hp' o14=>⟨rfl,⟨hR H14 PL' (sub_t hp hp') o14,trivial⟩⟩
theorem same_sp (a b:Int):sameN 8 (.agg #[I a,I b]) (.agg #[I a,I b])=true:=by simp [sameN,sameN.sameL]
theorem rused_s (h:Rk H PL r c q X L)
  (hR:∀H' PL',(∀A∈PL,A∈PL')->Rk H' PL' r c (q.used c) X L->R undef H'):CA en F.lru_Run_used [P r] H R:=by
 have⟨sa,nv,hrv,hnv,hs⟩:=h.ex;apply vc_lru_Run_used;refine Sep.nw hs λi1 H2 h2=>?_
 have hp:=sub_r (A:=PL) (λ_ h=>h) [b1 i1 (P r)];have o2:=(Rk.ins [_] hrv hnv h2).bump 7;have h3:=h2.bump 7;refine ⟨_,Sep.ld0 h3 rfl,asAddr_in ⟨_,_,Sep.lds1 h3 rfl,_,Sep.ld0 h3 rfl,rhead_s o2 λH10 o10=>⟨_,_,rfl,⟨?_,?_,⟨⟨_,Sep.ld0 h3 rfl,rfl⟩,⟨_,o10.box (by simp),rfl⟩,trivial⟩,trivial⟩⟩⟩⟩
 ·refine cond_of (λe=>⟨_,o10.box (v:=P r) (by simp),?_⟩) λe=>⟨_,o10.box (v:=P r) (by simp),?_⟩
  ·have e':q.ah=c.h/\q.ai=2:=by simpa using e
   refine raway_s o10 λH14 PL' hp' o14=>⟨rfl,hR H14 PL' (sub_t hp hp') ?_⟩
   unfold Qr.used;rw [if_pos e'];exact o14
  ·have e':¬(q.ah=c.h/\q.ai=2):=by simpa using e
   refine runlink_s o10 (.used (g:=i1) (by simp)) λH14 PL' hp' o14=>⟨rfl,hR H14 PL' (sub_t hp hp') ?_⟩
   unfold Qr.used;rw [if_neg e'];exact o14
 ·have⟨sa',nv',_,_,hs'⟩:=o10.ex;exact ⟨⟨_,_,Sep.lds1 h3 rfl,same_sp _ _⟩,⟨_,_,Sep.lds0 hs' rfl,same_sp _ _⟩,trivial⟩
theorem rfound_s (h:Rk H PL r c q X L)
  (hR:∀H' PL',(∀A∈PL,A∈PL')->Rk H' PL' r c q.found X L->R undef H'):CA en F.lru_Run_found [P r] H R:=by
 have⟨sa,nv,hrv,hnv,hs⟩:=h.ex;apply vc_lru_Run_found;refine Sep.nw hs λi1 H2 h2=>⟨_,Sep.ld0 h2 rfl,asAddr_in ⟨_,Sep.ld1 h2 rfl,Sep.nw h2 λi7 H8 h8=>Sep.st0 h8 (Nat.le_of_ble_eq_true rfl) λH9 h9=>?_⟩⟩
 have h9:Sep H9 (bx i7 (.cells true 0 [I q.cur,I 1])::b1 i1 (P r)::rA r c q sa nv::many PL::xA c::grA c.g c.m X::many (tkL c q.nx)::L):=h9;have hp:=sub_r (A:=PL) (λ_ h=>h) [bx i7 (.cells true 0 [I q.cur,I 1]),b1 i1 (P r)];have o9:=Rk.ins [_,_] hrv hnv h9;have hb:=h9.bump 8;refine ⟨_,Sep.ld1 h9 rfl,asAddr_in ⟨_,Sep.ld2 h9 rfl,cond_of (λe=>?_) λe=>?_⟩⟩
 ·have e:q.kd=2:=by simpa using e
  refine ⟨_,Sep.ld1 h9 rfl,asAddr_in ⟨_,Sep.ld2 h9 rfl,cond_of (λd=>?_) λd=>?_⟩⟩
  ·have d:q.fl=1:=by simpa using d
   refine ⟨_,Sep.ld1 h9 rfl,rfail_s o9 λH20 PL' hp' o20=>⟨rfl,hR H20 PL' (sub_t hp hp') ?_⟩⟩;unfold Qr.found;rw [if_pos e,if_pos d];exact o20
  ·have d:¬q.fl=1:=by simpa using d
   refine ⟨_,Sep.ld1 h9 rfl,asAddr_in ⟨_,Sep.ld2 h9 rfl,cond_yes (by simp [e]) ?_⟩⟩;refine ⟨_,Sep.ld1 hb rfl,_,_,Sep.lds0 hb rfl,_,Sep.ld1 hb rfl,asAddr_in ⟨_,Sep.ld2 hb rfl,?_⟩⟩;refine rstore_s (k:=.upd) (o9.bump 8) (.upd (g:=i1) (by simp)) λH20 PL' hp' o20=>⟨rfl,hR H20 PL' (sub_t hp hp') ?_,trivial⟩
   unfold Qr.found;rw [if_pos e,if_neg d];exact o20
 ·have e:¬q.kd=2:=by simpa using e
  refine ⟨_,Sep.ld1 h9 rfl,asAddr_in ⟨_,Sep.ld2 h9 rfl,cond_no (by simpa using e) ?_⟩⟩;refine ⟨_,Sep.ld1 h9 rfl,asAddr_in ⟨_,Sep.ld2 h9 rfl,cond_of (λd=>?_) λd=>?_⟩⟩
  ·have d:q.kd=1:=by simpa using d
   refine ⟨_,Sep.ld1 h9 rfl,_,_,Sep.lds0 h9 rfl,?_⟩;refine rload_s (k:=.look) o9 (.look (g:=i1) (by simp)) λH20 PL' hp' o20=>⟨rfl,hR H20 PL' (sub_t hp hp') ?_⟩
   unfold Qr.found;rw [if_neg e,if_pos d];exact o20
  ·have d:¬q.kd=1:=by simpa using d
   refine ⟨_,Sep.ld1 h9 rfl,asAddr_in ⟨_,Sep.ld2 h9 rfl,cond_of (λb=>?_) λb=>?_⟩⟩
   ·have b:q.kd=5:=by simpa using b
    refine ⟨_,Sep.ld1 h9 rfl,_,_,Sep.lds0 h9 rfl,?_⟩;refine rload_s (k:=.take) o9 (.take (g:=i1) (by simp)) λH20 PL' hp' o20=>⟨rfl,hR H20 PL' (sub_t hp hp') ?_⟩
    unfold Qr.found;rw [if_neg e,if_neg d,if_pos b];exact o20
   ·have b:¬q.kd=5:=by simpa using b
    refine ⟨_,Sep.ld1 h9 rfl,?_⟩;refine runlink_s o9 (.delEnd (g:=i1) (by simp)) λH20 PL' hp' o20=>⟨rfl,hR H20 PL' (sub_t hp hp') ?_⟩
    unfold Qr.found;rw [if_neg e,if_neg d,if_neg b];exact o20
theorem rabsent_s (h:Rk H PL r c q X L)
  (hR:∀H' PL',(∀A∈PL,A∈PL')->Rk H' PL' r c (q.absent c) X L->R undef H'):CA en F.lru_Run_absent [P r] H R:=by
 have⟨sa,nv,hrv,hnv,hs⟩:=h.ex;apply vc_lru_Run_absent;refine Sep.nw hs λi1 H2 h2=>?_
 have hp:=sub_r (A:=PL) (λ_ h=>h) [b1 i1 (P r)];have o2:=Rk.ins [_] hrv hnv h2;have hb:=h2.bump 11;refine ⟨_,Sep.ld0 h2 rfl,asAddr_in ⟨_,Sep.ld1 h2 rfl,cond_of (λe=>?_) λe=>?_⟩⟩
 ·have e:q.kd≠2:=by simpa using e
  refine ⟨_,Sep.ld0 h2 rfl,rfail_s o2 λH20 PL' hp' o20=>⟨rfl,hR H20 PL' (sub_t hp hp') ?_⟩⟩;unfold Qr.absent;rw [if_pos (.inl e)];exact o20
 ·have e:q.kd=2:=by simpa using e
  refine ⟨_,Sep.ld0 h2 rfl,asAddr_in ⟨_,Sep.ld1 h2 rfl,cond_of (λd=>?_) λd=>?_⟩⟩
  ·have d:q.fl=2:=by simpa using d
   refine ⟨_,Sep.ld0 h2 rfl,rfail_s o2 λH20 PL' hp' o20=>⟨rfl,hR H20 PL' (sub_t hp hp') ?_⟩⟩;unfold Qr.absent;rw [if_pos (.inr d)];exact o20
  ·have d:¬q.fl=2:=by simpa using d
   refine ⟨_,Sep.ld0 hb rfl,_,Sep.ld0 hb rfl,asAddr_in ⟨_,Sep.ld1 hb rfl,asAddr_in ⟨_,Sep.ld3 hb rfl,?_⟩⟩⟩;refine rload_s (k:=.count) (o2.bump 11) (.count (g:=i1) (by simp)) λH20 PL' hp' o20=>⟨rfl,hR H20 PL' (sub_t hp hp') ?_,trivial⟩
   unfold Qr.absent;rw [if_neg (by simp only [not_or];exact ⟨λh=>h e,d⟩)];exact o20
theorem rnearest_s (h:Rk H PL r c q X L)
  (hR:∀H' PL',(∀A∈PL,A∈PL')->Rk H' PL' r c q.nearest X L->R undef H'):CA en F.lru_Run_nearest [P r] H R:=by
 have⟨sa,nv,hrv,hnv,hs⟩:=h.ex;apply vc_lru_Run_nearest;refine asAddr_in ⟨_,Sep.ld0 hs rfl,cond_of (λe=>?_) λe=>asAddr_in ⟨_,Sep.ld0 hs rfl,?_⟩⟩
 ·have e:¬q.any=true:=by simpa using e
  refine rfail_s h λH20 PL' hp' o20=>⟨rfl,hR H20 PL' hp' ?_⟩
  unfold Qr.nearest;rw [if_neg e];exact o20
 ·have e:q.any=true:=by simpa using e
  refine rgive_s (rv:=[]) (sa:=none) h (.inl ⟨rfl,rfl⟩) λH2 h2=>⟨rfl,raway_s h2 λH20 PL' hp' o20=>⟨rfl,hR H20 PL' hp' ?_⟩⟩
  unfold Qr.nearest;rw [if_pos e];exact o20
theorem rnearer_s {k:BitVec 64}(h:Rk H PL r c q X L)
  (hR:∀H',Rk H' PL r c (q.nearer k) X L->R (.bool false) H'):CA en F.lru_Run_nearer [P r,W k] H R:=by
 have⟨sa,nv,hrv,hnv,hs⟩:=h.ex;apply vc_lru_Run_nearer;have yes:((q.fl=1∨q.ky.toNat<k.toNat)/\(q.any=false∨k.toNat<q.best.toNat))->stc H r (0+21) [W k] λH9=>AS.asAddr (P r) λi10 i11=>stc H9 i10 (i11+22) [.bool true] λH12=>R (.bool false) H12:=λe=>
  Sep.st0 hs (Nat.le_of_ble_eq_true rfl) λH9 h9=>asAddr_in (Sep.st0 h9 (Nat.le_of_ble_eq_true rfl) λH12 h12=>hR H12 (by
   unfold Qr.nearer;rw [if_pos e];exact ⟨sa,nv,hrv,hnv,h12⟩))
 have no:¬((q.fl=1∨q.ky.toNat<k.toNat)/\(q.any=false∨k.toNat<q.best.toNat))->R (.bool false) H:=λe=>hR H (by
   unfold Qr.nearer;rw [if_neg e];exact h)
 have inner:(q.fl=1∨q.ky.toNat<k.toNat)->∃b,H.cell r (0+22)=some (.bool b)/\cond (!b) (AS.asAddr (P r) λi j=>stc H i (j+21) [W k] λH9=>AS.asAddr (P r) λi10 i11=>stc H9 i10 (i11+22) [.bool true] λH12=>R (.bool false) H12)
   (AS.asAddr (P r) λi j=>∃n,H.cell i (j+21)=some (.int .u64 n)/\cond (decide ((k.toNat:Int)<n)) (AS.asAddr (P r) λi j=>stc H i (j+21) [W k] λH9=>AS.asAddr (P r) λi10 i11=>stc H9 i10 (i11+22) [.bool true] λH12=>R (.bool false) H12) (R (.bool false) H)):=λe=>by
  refine ⟨_,Sep.ld0 hs rfl,cond_of (λa=>asAddr_in (yes ⟨e,.inl (by simpa using a)⟩)) λa=>asAddr_in ⟨_,Sep.ld0 hs rfl,cond_of (λb=>asAddr_in (yes ⟨e,.inr (by simpa using b)⟩)) λb=>no λ⟨_,f⟩=>?_⟩⟩;have a:q.any=true:=by simpa using a
  have b:¬k.toNat<q.best.toNat:=by simpa using b
  rcases f with f|f
  ·rw [a] at f;cases f
  ·exact b f
 refine asAddr_in ⟨_,Sep.ld0 hs rfl,cond_of (λe=>asAddr_in (inner (.inl (by simpa using e)))) λe=>asAddr_in ⟨_,Sep.ld0 hs rfl,cond_of (λd=>asAddr_in (inner (.inr (by simpa using d)))) λd=>no λ⟨f,_⟩=>?_⟩⟩;rcases f with f|f
 ·exact absurd f (by simpa using e)
 ·exact absurd f (by simpa using d)
theorem ron_s {a:Ask}{g0 g1 g2 g3:Nat}(hw:Wk PL r a g0 g1 g2 g3)(h:Rk H PL r c q X L)
  (hR:∀H' PL',(∀A∈PL,A∈PL')->Rk H' PL' r c (q.on a) X L->R undef H'):CA en F.lru_Run_walk_1 [P g0,P g1,P g2,P g3] H R:=by
 have hb:=h.bump 7;have⟨sa,nv,hrv,hnv,hs⟩:=hb.ex;apply vc_lru_Run_walk_1;refine asAddr_in ⟨_,hb.box hw.run,asAddr_in ⟨_,hb.box hw.run,asAddr_in ⟨_,_,Sep.lds0 hs rfl,?_⟩⟩⟩;exact rload_s (k:=.walkAt a) hb (.walkAt hw) λH14 PL' hp' o14=>⟨rfl,⟨hR H14 PL' hp' o14,trivial⟩⟩
theorem rwalk_s {a:Ask}{va ve:Value}(h:Rk H PL r c q X L)(ha:AskV PL r a va)(he:EndV PL r a ve)
  (hR:∀H' PL',(∀A∈PL,A∈PL')->Rk H' PL' r c (q.walk c a) X L->R undef H'):CA en F.lru_Run_walk [P r,va,ve] H R:=by
 have⟨sa,nv,hrv,hnv,hs⟩:=h.ex;obtain ⟨f,l,cs,rfl⟩:=ha.fn;obtain ⟨f',l',cs',rfl⟩:=he.fn;apply vc_lru_Run_walk;refine Sep.nw hs λi1 H2 h2=>Sep.nw h2 λi3 H4 h4=>Sep.nw h4 λi5 H6 h6=>?_
 have hp:=sub_r (A:=PL) (λ_ h=>h) [b1 i5 (.func (.func f') ⟨l'⟩ ⟨cs'⟩),b1 i3 (.func (.func f) ⟨l⟩ ⟨cs⟩),b1 i1 (P r)];have o6:=(Rk.ins [_,_,_] hrv hnv h6).bump 6;have h7:=h6.bump 6;refine ⟨_,Sep.ld2 h7 rfl,_,Sep.ld2 h7 rfl,rhead_s o6 λH10 o10=>⟨_,_,rfl,asAddr_in ?_⟩⟩;have⟨sa',nv',hrv',hnv',hs'⟩:=o10.ex;refine Sep.st0 hs' (Nat.le_of_ble_eq_true rfl) λH15 h15=>⟨Sep.nw h15 λi18 H19 h19=>Sep.st0 h19 (Nat.le_of_ble_eq_true rfl) λH20 h20=>⟨_,Sep.ld0 h20 rfl,asFn_in ⟨Option.isSome_iff_exists.1 (by kernel_rfl),?_⟩⟩,⟨⟨_,Sep.ld2 h7 rfl,rfl⟩,⟨_,o10.box (by simp),rfl⟩,trivial⟩,trivial⟩
 show CA en F.lru_Run_walk_1 [P i1,P i5,P i3,P i18] H20 _;have o20:Rk H20 _ r c {q with ah:=c.h,ai:=2} X L:=Rk.ins (q:={q with ah:=c.h,ai:=2}) [b1 i18 (onV i1 i5 i3 i18)] hrv' hnv' h20;have hp2:=sub_r (A:=[b1 i5 (.func (.func f') ⟨l'⟩ ⟨cs'⟩),b1 i3 (.func (.func f) ⟨l⟩ ⟨cs⟩),b1 i1 (P r)]++PL) (λ_ h=>h) [b1 i18 (onV i1 i5 i3 i18)];have hp3:=sub_t hp hp2;refine ron_s (a:=a) ⟨?_,⟨_,?_,he.mono⟩,⟨_,?_,ha.mono hp3⟩,.head _⟩ o20 λH14 PL' hp' o14=>⟨rfl,hR H14 PL' (sub_t hp3 hp') o14⟩
 ·exact .tail _ (.tail _ (.tail _ (.head _)))
 ·exact .tail _ (.head _)
 ·exact .tail _ (.tail _ (.head _))
theorem rbegin_s (h:Rk H PL r c q X L)
  (hR:∀H' PL',(∀A∈PL,A∈PL')->Rk H' PL' r c (q.begin c) X L->R undef H'):CA en F.lru_Run_begin [P r] H R:=by
 have⟨sa,nv,hrv,hnv,hs⟩:=h.ex;apply vc_lru_Run_begin;refine Sep.nw hs λi1 H2 h2=>?_
 have hp:=sub_r (A:=PL) (λ_ h=>h) [b1 i1 (P r)];have o2:=Rk.ins [_] hrv hnv h2;refine ⟨_,Sep.ld0 h2 rfl,asAddr_in ⟨_,Sep.ld1 h2 rfl,cond_of (λe=>?_) λe=>?_⟩⟩
 ·have e:q.kd=4:=by simpa using e
  refine ⟨_,Sep.ld0 h2 rfl,_,Sep.ld0 h2 rfl,_,Sep.ld0 h2 rfl,rwalk_s o2 .near .near λH20 PL' hp' o20=>⟨rfl,hR H20 PL' (sub_t hp hp') ?_⟩⟩;unfold Qr.begin;rw [if_pos e];exact o20
 ·have e:¬q.kd=4:=by simpa using e
  refine ⟨_,Sep.ld0 h2 rfl,_,Sep.ld0 h2 rfl,rwalk_s o2 (.key (g:=i1) (by simp)) .key λH20 PL' hp' o20=>⟨rfl,hR H20 PL' (sub_t hp hp') ?_⟩⟩;unfold Qr.begin;rw [if_neg e];exact o20
end
section
variable {H H':Heap} {R K:Value->Heap->Prop} {L PL PL':List Asr} {r:Nat} {c:Lc} {q:Qr} {X X':Gx}
theorem SV.same {k:KS}{v:Value}(h:SV PL r k v):sameP v v:=by cases h<;>simp [sameP,sameN,sameN.sameL]
theorem rall_s (h:Rk H PL r c q X L)
  (hR:∀H' PL',(∀A∈PL,A∈PL')->Rk H' PL' r c (q.more ones) X L->R undef H'):CA en F.lru_Run_more [P r,.int .u64 18446744073709551615] H R:=by
 rw [all_ones];exact rmore_s (w:=ones) h hR
theorem rdefer_s {a:Int}(h:Rk H PL r c q X L)(hl:X.G.q.length<10000)
  (hR:∀H' X' mb f n,X'.G=(X.G.defer a mb).2->Rk H' PL r c q X' L->R (.slice f n 0) H'):CA en F.grace_Grace_Defer [P c.g,I a] H R:=by
 have⟨sa,nv,hrv,hnv,hs⟩:=h.ex;refine gdefer_s (Sep.up3 hs) hl λH17 X' mb f n e h17=>hR H17 X' mb f n e ⟨sa,nv,hrv,hnv,?_⟩
 exact Sep.pick h17 5 [1,2,3,0,4] (by decide)
theorem ks_s {k:KS}{v:Value}(hk:SV PL r k v):∀{q:Qr}{X:Gx}{H:Heap}{K:Value->Heap->Prop},Rk H PL r c q X L->X.G.q.length<10000->
  (∀H' PL' X' b,(∀A∈PL,A∈PL')->X'.G=(doKS c k q X.G b).2->Rk H' PL' r c (doKS c k q X.G b).1 X' L->K undef H')->
  AS.asFn v λf l cs=>(∃fn,en.fn f=some fn)/\CA en f (l++[]++cs) H K:=by
 induction hk with
 |upd hg=>
  intro q X H K h hl hR;refine asFn_in ⟨Option.isSome_iff_exists.1 (by kernel_rfl),?_⟩;show CA en F.lru_Run_found_1 [_] H K;apply vc_lru_Run_found_1;refine asAddr_in ⟨_,h.box hg,rgive_s (rv:=[]) (rk:=0) (sa:=none) h (.inl ⟨rfl,rfl⟩) λH5 h5=>⟨rfl,asAddr_in ⟨_,h5.box hg,rused_s h5 λH10 PL' hp o=>⟨rfl,hR H10 PL' X 0 hp rfl o⟩⟩⟩⟩
 |takeEnd hg=>
  intro q X H K h hl hR;refine asFn_in ⟨Option.isSome_iff_exists.1 (by kernel_rfl),?_⟩;show CA en F.lru_Run_found_3_1 [_] H K;apply vc_lru_Run_found_3_1;have hb:=h.bump 12;have⟨sa,nv,hrv,hnv,hs⟩:=hb.ex;refine asAddr_in ⟨_,hb.box hg,asAddr_in ⟨_,Sep.ld0 hs rfl,asAddr_in ⟨_,Sep.ld2 hs rfl,asAddr_in ⟨_,hb.box hg,asAddr_in ⟨_,Sep.ld0 hs rfl,?_⟩⟩⟩⟩⟩;refine rdefer_s hb hl λH17 X' mb f n e o17=>⟨_,_,rfl,⟨asAddr_in ⟨_,o17.box hg,rall_s o17 λH23 PL' hp o=>⟨rfl,hR H23 PL' X' mb hp e o⟩⟩,trivial⟩⟩
 |delEnd hg=>
  intro q X H K h hl hR;refine asFn_in ⟨Option.isSome_iff_exists.1 (by kernel_rfl),?_⟩;show CA en F.lru_Run_found_4 [_] H K;apply vc_lru_Run_found_4;refine asAddr_in ⟨_,h.box hg,rgive_s (rv:=[]) (rk:=0) (sa:=none) h (.inl ⟨rfl,rfl⟩) λH5 h5=>⟨rfl,?_⟩⟩;have hb:=h5.bump 12;have⟨sa,nv,hrv,hnv,hs⟩:=hb.ex;refine asAddr_in ⟨_,hb.box hg,asAddr_in ⟨_,Sep.ld0 hs rfl,asAddr_in ⟨_,Sep.ld2 hs rfl,asAddr_in ⟨_,hb.box hg,asAddr_in ⟨_,Sep.ld0 hs rfl,?_⟩⟩⟩⟩⟩;refine rdefer_s hb hl λH17 X' mb f n e o17=>⟨_,_,rfl,⟨asAddr_in ⟨_,o17.box hg,rall_s o17 λH23 PL' hp o=>⟨rfl,hR H23 PL' X' mb hp e o⟩⟩,trivial⟩⟩
 |used hg=>
  intro q X H K h hl hR;refine asFn_in ⟨Option.isSome_iff_exists.1 (by kernel_rfl),?_⟩;show CA en F.lru_Run_used_1 [_] H K;apply vc_lru_Run_used_1;have hb:=h.bump 8;have⟨sa,nv,hrv,hnv,hs⟩:=hb.ex;refine asAddr_in ⟨_,hb.box hg,asAddr_in ⟨_,hb.box hg,asAddr_in ⟨_,Sep.ld0 hs rfl,asAddr_in ⟨_,hb.box hg,?_⟩⟩⟩⟩;exact ryoung_s (k:=.away) hb .away λH23 PL' hp o=>⟨rfl,⟨hR H23 PL' X 0 hp rfl o,trivial⟩⟩
 |layVal hg h2 hk ih=>
  intro q X H K h hl hR;refine asFn_in ⟨Option.isSome_iff_exists.1 (by kernel_rfl),?_⟩;show CA en F.lru_Run_lay_1 [_,_] H K;apply vc_lru_Run_lay_1;have hb:=h.bump 12;have⟨sa,nv,hrv,hnv,hs⟩:=hb.ex;refine asAddr_in ⟨_,hb.box hg,asAddr_in ⟨_,hb.box hg,asAddr_in ⟨_,Sep.ld0 hs rfl,asAddr_in ⟨_,hb.box hg,asAddr_in ⟨_,Sep.ld0 hs rfl,?_⟩⟩⟩⟩⟩;exact rstore_s hb (.layYoung hg h2 hk) λH23 PL' hp o=>⟨rfl,⟨hR H23 PL' X 0 hp rfl o,trivial⟩⟩
 |layYoung hg h2 hk ih=>
  intro q X H K h hl hR;refine asFn_in ⟨Option.isSome_iff_exists.1 (by kernel_rfl),?_⟩;show CA en F.lru_Run_lay_1_1 [_,_] H K;apply vc_lru_Run_lay_1_1;have hb:=h.bump 7;have⟨sa,nv,hrv,hnv,hs⟩:=hb.ex;refine asAddr_in ⟨_,hb.box hg,asAddr_in ⟨_,hb.box hg,asAddr_in ⟨_,Sep.ld0 hs rfl,?_⟩⟩⟩;exact ryoung_s hb (.layGive hg h2 hk) λH23 PL' hp o=>⟨rfl,⟨hR H23 PL' X 0 hp rfl o,trivial⟩⟩
 |layGive hg h2 hk ih=>
  intro q X H K h hl hR;refine asFn_in ⟨Option.isSome_iff_exists.1 (by kernel_rfl),?_⟩;show CA en F.lru_Run_lay_1_1_1 [_,_] H K;apply vc_lru_Run_lay_1_1_1;refine asAddr_in ⟨_,h.box hg,rgive_s (rv:=[]) (rk:=0) (sa:=none) h (.inl ⟨rfl,rfl⟩) λH5 h5=>⟨rfl,asAddr_in ⟨_,h5.box h2,?_⟩⟩⟩;exact ih h5 hl λH23 PL' X' b hp e o=>⟨rfl,hR H23 PL' X' b hp e o⟩
 |abs1 hg=>
  intro q X H K h hl hR;refine asFn_in ⟨Option.isSome_iff_exists.1 (by kernel_rfl),?_⟩;show CA en F.lru_Run_absent_1_1 [_] H K;apply vc_lru_Run_absent_1_1;exact asAddr_in ⟨_,h.box hg,rmore_s (w:=1) h λH23 PL' hp o=>⟨rfl,hR H23 PL' X 0 hp rfl o⟩⟩
 |absLay hg h2=>
  intro q X H K h hl hR;refine asFn_in ⟨Option.isSome_iff_exists.1 (by kernel_rfl),?_⟩;show CA en F.lru_Run_absent_1_2 [_,_] H K;apply vc_lru_Run_absent_1_2;exact asAddr_in ⟨_,h.box hg,rlay_s h (.absDef hg h2) λH23 PL' hp o=>⟨rfl,hR H23 PL' X 0 hp rfl o⟩⟩
 |absDef hg h2=>
  intro q X H K h hl hR;refine asFn_in ⟨Option.isSome_iff_exists.1 (by kernel_rfl),?_⟩;show CA en F.lru_Run_absent_1_2_1 [_,_] H K;apply vc_lru_Run_absent_1_2_1;have hb:=h.bump 9;have⟨sa,nv,hrv,hnv,hs⟩:=hb.ex;refine asAddr_in ⟨_,hb.box hg,asAddr_in ⟨_,Sep.ld0 hs rfl,asAddr_in ⟨_,Sep.ld2 hs rfl,asAddr_in ⟨_,hb.box h2,?_⟩⟩⟩⟩;refine rdefer_s hb hl λH17 X' mb f n e o17=>⟨_,_,rfl,⟨asAddr_in ⟨_,o17.box hg,raway_s o17 λH23 PL' hp o=>⟨rfl,hR H23 PL' X' mb hp e o⟩⟩,trivial⟩⟩
 |head hg h2 h3 hk ih=>
  intro q X H K h hl hR;refine asFn_in ⟨Option.isSome_iff_exists.1 (by kernel_rfl),?_⟩;show CA en F.lru_Run_youngest_1_1 [_,_,_] H K;apply vc_lru_Run_youngest_1_1;have hb:=h.bump 7;refine asAddr_in ⟨_,hb.box hg,asAddr_in ⟨_,hb.box hg,rhead_s hb λH8 o8=>⟨_,_,rfl,asAddr_in ⟨_,o8.box h2,asAddr_in ⟨_,o8.box h3,?_⟩⟩⟩⟩⟩;rw [wrap_u64];refine rstore_s o8 hk λH23 PL' hp o=>⟨rfl,⟨hR H23 PL' X 0 hp rfl o,?_,?_,?_,trivial⟩⟩
  ·exact ⟨asAddr_in ⟨_,hb.box h3,hk.same⟩,asAddr_in ⟨_,o8.box h3,hk.same⟩,trivial⟩
  ·exact ⟨asAddr_in ⟨_,hb.box h2,rfl⟩,asAddr_in ⟨_,o8.box h2,rfl⟩,trivial⟩
  ·exact ⟨asAddr_in ⟨_,hb.box hg,rfl⟩,asAddr_in ⟨_,o8.box hg,rfl⟩,trivial⟩
 |away=>
  intro q X H K h hl hR;refine asFn_in ⟨Option.isSome_iff_exists.1 (by kernel_rfl),?_⟩;show CA en F.lru_Run_away [_] H K;exact raway_s h λH23 PL' hp o=>hR H23 PL' X 0 hp rfl o
 |begin=>
  intro q X H K h hl hR;refine asFn_in ⟨Option.isSome_iff_exists.1 (by kernel_rfl),?_⟩;show CA en F.lru_Run_begin [_] H K;exact rbegin_s h λH23 PL' hp o=>hR H23 PL' X 0 hp rfl o
theorem stop_s {a:Ask}{v:Value}(ha:EndV PL r a v)(h:Rk H PL r c q X L)
  (hR:∀H' PL',(∀A∈PL,A∈PL')->Rk H' PL' r c (q.stop c a) X L->K undef H') :
  AS.asFn v λf l cs=>(∃fn,en.fn f=some fn)/\CA en f (l++[]++cs) H K:=by
 cases ha with
 |key=>
  refine asFn_in ⟨Option.isSome_iff_exists.1 (by kernel_rfl),?_⟩;show CA en F.lru_Run_absent [_] H K;exact rabsent_s h hR
 |near=>
  refine asFn_in ⟨Option.isSome_iff_exists.1 (by kernel_rfl),?_⟩;show CA en F.lru_Run_nearest [_] H K;exact rnearest_s h hR
theorem ask_s {a:Ask}{v:Value}{w:BitVec 64}(ha:AskV PL r a v)(h:Rk H PL r c q X L)
  (hR:∀H' PL',(∀A∈PL,A∈PL')->
   (match a with
    |.key=>(w=q.ky/\Rk H' PL' r c q.found X L->K (.bool true) H')/\(w≠q.ky/\PL'=PL/\Rk H' PL' r c q X L->K (.bool false) H')
    |.near=>PL'=PL/\Rk H' PL' r c (q.nearer w) X L->K (.bool false) H'
    |.room=>True)) :
  AS.asFn v λf l cs=>(∃fn,en.fn f=some fn)/\CA en f (l++[W w]++cs) H K:=by
 cases ha with
 |key hg=>
  refine asFn_in ⟨Option.isSome_iff_exists.1 (by kernel_rfl),?_⟩;show CA en F.lru_Run_begin_1 [W w,_] H K;apply vc_lru_Run_begin_1;have⟨sa,nv,hrv,hnv,hs⟩:=h.ex;refine asAddr_in ⟨_,h.box hg,asAddr_in ⟨_,Sep.ld0 hs rfl,?_⟩⟩;rw [bv_beq];refine cond_of (λe=>asAddr_in ⟨_,h.box hg,?_⟩) λe=>asAddr_in ⟨_,h.box hg,asAddr_in ⟨_,Sep.ld0 hs rfl,?_⟩⟩
  ·have e:w=q.ky:=by simpa using e
   refine rfound_s h λH11 PL' hp o=>⟨rfl,asAddr_in ⟨_,o.box (hp _ hg),asAddr_in ?_⟩⟩
   have⟨sa',nv',hrv',hnv',hs'⟩:=o.ex;have ek:q.found.ky=q.ky:=by
    unfold Qr.found Qr.fail Qr.away Qr.unlink Qr.load Qr.store Qr.give;split<;>(try split)<;>(try split)<;>rfl
   refine ⟨_,Sep.ld0 hs' rfl,?_⟩;rw [ek,bv_beq,e,beq_self_eq_true];exact (hR H11 PL' hp).1 ⟨e,o⟩
  ·have e:w≠q.ky:=by simpa using e
   rw [bv_beq,beq_false_of_ne e];exact (hR H PL (λ_ h=>h)).2 ⟨e,rfl,h⟩
 |near=>
  refine asFn_in ⟨Option.isSome_iff_exists.1 (by kernel_rfl),?_⟩;show CA en F.lru_Run_nearer [_,W w] H K;exact rnearer_s h λH' o=>hR H' PL (λ_ h=>h) ⟨rfl,o⟩
theorem rgo_s {a:Ask}{g0 g1 g2 g3:Nat}(hw:Wk PL r a g0 g1 g2 g3)(h:Rk H PL r c q X L)
  (hR:∀H' PL',(∀A∈PL,A∈PL')->Rk H' PL' r c (q.go a) X L->R undef H') :
  AS.asAddr (P g0) λi10 i11=>∃a12,(H.bump 17).cell i10 i11=some (.pointer a12)/\
  AS.asAddr (P g0) λi13 i14=>∃a15,(H.bump 17).cell i13 i14=some (.pointer a15)/\
  AS.asAddr (P g0) λi16 i17=>∃a18,(H.bump 17).cell i16 i17=some (.pointer a18)/\
  AS.asAddr (.pointer a18) λi19 i20=>∃n21,∃n22,(H.bump 17).cellsAt i19 (i20+15) 2=some [I n21,I n22]/\
  AS.asAddr (P g0) λi23 i24=>∃a25,(H.bump 17).cell i23 i24=some (.pointer a25)/\
  AS.asAddr (.pointer a25) λi26 i27=>∃n28,(H.bump 17).cell i26 (i27+19)=some (I n28)/\
  AS.asAddr (.pointer a12) λi29 i30=>stc (H.bump 17) i29 (i30+17) [I n21,I n22] λH31=>
  AS.asAddr (.pointer a15) λi32 i33=>stc H31 i32 (i33+15) [I n28,I 2] λH34=>(
   (AS.asAddr (P g3) λi41 i42=>∃v43,H34.cell i41 i42=some v43/\AS.asFn v43 λf44 l45 l46=>(∃fn,en.fn f44=some fn)/\
    CA en f44 (l45++[]++l46) H34 λv47 H48=>v47=undef/\R undef H48)/\
   ((AS.asAddr (P g0) λi38 i39=>∃a40,(H.bump 17).cell i38 i39=some (.pointer a40)/\a15=a40)/\(AS.asAddr (P g0) λi35 i36=>∃a37,H31.cell i35 i36=some (.pointer a37)/\a15=a37)/\True)/\True):=by
 have hb:=h.bump 17;have⟨sa,nv,hrv,hnv,hs⟩:=hb.ex;refine asAddr_in ⟨_,hb.box hw.run,asAddr_in ⟨_,hb.box hw.run,asAddr_in ⟨_,hb.box hw.run,asAddr_in ⟨_,_,Sep.lds0 hs rfl,asAddr_in ⟨_,hb.box hw.run,asAddr_in ⟨_,Sep.ld0 hs rfl,asAddr_in (Sep.st0 hs (Nat.le_of_ble_eq_true rfl) λH31 h31=>asAddr_in (Sep.st0 h31 (Nat.le_of_ble_eq_true rfl) λH34 h34=>?_))⟩⟩⟩⟩⟩⟩;have o34:Rk H34 PL r c {q with bh:=q.ah,bi:=q.ai,ah:=q.cur,ai:=2} X L:=⟨sa,nv,hrv,hnv,h34⟩;refine ⟨asAddr_in ⟨_,o34.box hw.on,asFn_in ⟨Option.isSome_iff_exists.1 (by kernel_rfl),?_⟩⟩,⟨asAddr_in ⟨_,hb.box hw.run,rfl⟩,asAddr_in ⟨_,pld (k:=1) h31 rfl hw.run rfl,rfl⟩,trivial⟩,trivial⟩;show CA en F.lru_Run_walk_1 [P g0,P g1,P g2,P g3] H34 _;exact ron_s hw o34 λH48 PL' hp o=>⟨rfl,hR H48 PL' hp o⟩
end
section
variable {H H':Heap} {R K:Value->Heap->Prop} {L M PL PL':List Asr} {r:Nat} {c:Lc} {q:Qr} {X X':Gx}
abbrev Sm.fresh (S:Sm):Prop:=S.find (wr (S.made+1))=none
theorem acc_made (S:Sm)(a i:Int)(may:Bool)(f:BitVec 64->BitVec 64):(S.acc a i may f).2.made=S.made:=by
 unfold Sm.acc;split
 ·split<;>rfl
 ·rfl
theorem acc_keys (S:Sm)(a i:Int)(may:Bool)(f:BitVec 64->BitVec 64):(S.acc a i may f).2.regs.map Reg.h=S.regs.map Reg.h:=by
 unfold Sm.acc;split
 ·split
  ·show ((S.cnt.regs.map _).map Reg.h)=_;rw [List.map_map];refine List.map_congr_left λx _=>?_
   show Reg.h (if x.h=a then _ else x)=x.h;split<;>rfl
  ·rfl
 ·rfl
theorem find_none_iff {S:Sm}{k:Int}:S.find k=none↔k∉S.regs.map Reg.h:=by
 unfold Sm.find;rw [List.find?_eq_none];simp only [List.mem_map,not_exists,not_and,beq_iff_eq]
theorem acc_fresh {S:Sm}(a i:Int)(may:Bool)(f:BitVec 64->BitVec 64)(h:S.fresh):(S.acc a i may f).2.fresh:=by
 have h':=find_none_iff.1 h;refine find_none_iff.2 ?_;rw [acc_made,acc_keys];exact h'
theorem rmake_s {n:Int}(h:Rk H PL r c q X L)(hf:X.G.S.fresh)
  (hR:∀H' b,Rk H' PL r c q (X.to (X.G.S.make b n).2) L->R (.tuple #[I (X.G.S.make b n).1.1,I (X.G.S.make b n).1.2]) H'):CA en F.smem_Mem_Make [P c.m,I n] H R:=by
 have⟨sa,nv,hrv,hnv,hs⟩:=h.ex;refine gmake_s (Sep.up3 hs) hf λH17 b h17=>hR H17 b ⟨sa,nv,hrv,hnv,?_⟩
 exact Sep.pick h17 5 [1,2,3,0,4] (by decide)
theorem w_zero {w:BitVec 64}(e:(((w.toNat:Int)==0):Bool)=true):w=0:=by
 have e:w.toNat=0:=by simpa using e
 exact BitVec.eq_of_toNat_eq e
theorem w_some {w:BitVec 64}(e:(((w.toNat:Int)==0):Bool)=false):w≠0:=λh=>by
 subst h;simp at e
theorem kl_s {k:KL}{v:Value}{w:BitVec 64}(hk:LV PL r k v)(h:Rk H PL r c q X L)(hl:X.G.q.length<10000)(hf:X.G.S.fresh)
  (hR:∀H' PL' X' b,(∀A∈PL,A∈PL')->X'.G=(doKL c k w q X.G b).2->Rk H' PL' r c (doKL c k w q X.G b).1 X' L->K undef H') :
  AS.asFn v λf l cs=>(∃fn,en.fn f=some fn)/\CA en f (l++[W w]++cs) H K:=by
 cases hk with
 |walkAt hw=>
  refine asFn_in ⟨Option.isSome_iff_exists.1 (by kernel_rfl),?_⟩;show CA en F.lru_Run_walk_1_1 [W w,_,_,_,_] H K;apply vc_lru_Run_walk_1_1;have⟨sa,nv,hrv,hnv,hs⟩:=h.ex;refine asAddr_in ⟨_,h.box hw.run,asAddr_in (Sep.st0 hs (Nat.le_of_ble_eq_true rfl) λH6 h6=>?_)⟩;have o6:Rk H6 PL r c {q with cur:=IntKind.i64.wrap w.toNat} X L:=⟨sa,nv,hrv,hnv,h6⟩;refine cond_of (λe=>?_) λe=>?_
  ·have e:=w_zero e;have⟨ve,h1,h2⟩:=hw.stop;refine asAddr_in ⟨_,o6.box h1,stop_s h2 o6 λH14 PL' hp o=>⟨rfl,hR H14 PL' X 0 hp rfl ?_⟩⟩;show Rk H14 PL' r c (if w=0 then _ else _) X L;rw [if_pos e];exact o
  ·have e:=w_some e;have hb:=o6.bump 8;have⟨sa,nv,hrv,hnv,hs⟩:=hb.ex;refine asAddr_in ⟨_,hb.box hw.run,asAddr_in ⟨_,hb.box hw.run,asAddr_in ⟨_,Sep.ld0 hs rfl,?_⟩⟩⟩;refine rload_s hb (.walkKey hw) λH14 PL' hp o=>⟨rfl,⟨hR H14 PL' X 0 hp rfl ?_,trivial⟩⟩
   show Rk H14 PL' r c (if w=0 then _ else _) X L;rw [if_neg e];exact o
 |walkKey hw=>
  refine asFn_in ⟨Option.isSome_iff_exists.1 (by kernel_rfl),?_⟩;show CA en F.lru_Run_walk_1_1_1 [W w,_,_,_] H K;apply vc_lru_Run_walk_1_1_1;have⟨va,h1,h2⟩:=hw.ask;refine asAddr_in ⟨_,h.box h1,ask_s h2 h λH8 PL1 hp1=>?_⟩;cases h2 with
  |key hg=>
   refine ⟨λ⟨e,o⟩=>⟨_,rfl,cond_no rfl (hR H8 PL1 X 0 hp1 rfl ?_)⟩,λ⟨e,e2,o⟩=>⟨_,rfl,cond_yes rfl ?_⟩⟩
   ·show Rk H8 PL1 r c (if w=q.ky then _ else _) X L;rw [if_pos e];exact o
   ·subst e2;refine rgo_s (R:=K) hw o λH14 PL' hp o14=>hR H14 PL' X 0 hp rfl ?_
    show Rk H14 PL' r c (if w=q.ky then _ else _) X L;rw [if_neg e];exact o14
  |near=>
   rintro ⟨e2,o⟩;subst e2;exact ⟨_,rfl,cond_yes rfl (rgo_s (R:=K) hw o λH14 PL' hp o14=>hR H14 PL' X 0 hp rfl o14)⟩
 |look hg=>
  refine asFn_in ⟨Option.isSome_iff_exists.1 (by kernel_rfl),?_⟩;show CA en F.lru_Run_found_2 [W w,_] H K;apply vc_lru_Run_found_2;have hb:=h.bump 9;have⟨sa,nv,hrv,hnv,hs⟩:=hb.ex;refine asAddr_in ⟨_,hb.box hg,Sep.nw hs λi4 H5 h5=>asAddr_in ⟨_,pld (k:=2) h5 rfl hg rfl,asAddr_in ⟨_,Sep.ld1 h5 rfl,?_⟩⟩⟩;have o5:=Rk.ins [_] hrv hnv h5;have hp:=sub_r (A:=PL) (λ_ h=>h) [bx i4 (.cells true 1 [W w])];refine rgive_s (rv:=[w]) (rk:=0) (sa:=some ⟨i4,0,none⟩) o5 (.inr ⟨i4,w,rfl,rfl,.head _⟩) λH13 o13=>⟨rfl,⟨?_,⟨⟨_,Sep.ld0 hs rfl,rfl⟩,⟨_,Sep.ld1 h5 rfl,rfl⟩,trivial⟩,⟨asAddr_in ⟨_,hb.box hg,rfl⟩,asAddr_in ⟨_,o5.box (hp _ hg),rfl⟩,trivial⟩,⟨asAddr_in ⟨_,hb.box hg,rfl⟩,asAddr_in ⟨_,o5.box (hp _ hg),rfl⟩,trivial⟩,trivial⟩⟩
  exact asAddr_in ⟨_,o13.box (hp _ hg),rused_s o13 λH14 PL' hp' o=>⟨rfl,hR H14 PL' X 0 (sub_t hp hp') rfl o⟩⟩
 |take hg=>
  refine asFn_in ⟨Option.isSome_iff_exists.1 (by kernel_rfl),?_⟩;show CA en F.lru_Run_found_3 [W w,_] H K;apply vc_lru_Run_found_3;have⟨sa,nv,hrv,hnv,hs⟩:=h.ex;refine asAddr_in ⟨_,h.box hg,Sep.nw hs λi4 H5 h5=>?_⟩;have o5:=Rk.ins [_] hrv hnv h5;have hp:=sub_r (A:=PL) (λ_ h=>h) [bx i4 (.cells true 1 [W w])];refine rgive_s (rv:=[w]) (rk:=0) (sa:=some ⟨i4,0,none⟩) o5 (.inr ⟨i4,w,rfl,rfl,.head _⟩) λH13 o13=>⟨rfl,?_⟩
  exact asAddr_in ⟨_,o13.box (hp _ hg),runlink_s o13 (.takeEnd (hp _ hg)) λH14 PL' hp' o=>⟨rfl,hR H14 PL' X 0 (sub_t hp hp') rfl o⟩⟩
 |count hg=>
  refine asFn_in ⟨Option.isSome_iff_exists.1 (by kernel_rfl),?_⟩;show CA en F.lru_Run_absent_1 [W w,_] H K;apply vc_lru_Run_absent_1;have⟨sa,nv,hrv,hnv,hs⟩:=h.ex;refine asAddr_in ⟨_,h.box hg,asAddr_in ⟨_,Sep.ld0 hs rfl,asAddr_in ⟨_,Sep.ld2 hs rfl,?_⟩⟩⟩;refine rmake_s h hf λH11 b o11=>⟨_,_,rfl,?_⟩
  refine cond_of (λe=>?_) λe=>?_
  ·have e:(X.G.S.make b 3).1.2≠0:=by simpa using e
   refine asAddr_in ⟨_,o11.box hg,rfail_s o11 λH14 PL' hp' o=>⟨rfl,hR H14 PL' (X.to (X.G.S.make b 3).2) b hp' rfl ?_⟩⟩;show Rk H14 PL' r c (q.count c w (X.G.S.make b 3).1.2 (X.G.S.make b 3).1.1) _ L;unfold Qr.count;rw [if_pos e];exact o
  ·have e:¬(X.G.S.make b 3).1.2≠0:=by simpa using e
   have⟨sa,nv,hrv,hnv,hs⟩:=o11.ex;refine asAddr_in ⟨_,o11.box hg,asAddr_in (Sep.st0 hs (Nat.le_of_ble_eq_true rfl) λH24 h24=>?_)⟩;have o24:Rk H24 PL r c {q with made:=(X.G.S.make b 3).1.1} (X.to (X.G.S.make b 3).2) L:=⟨sa,nv,hrv,hnv,h24⟩;refine asAddr_in ⟨_,o24.box hg,asAddr_in ⟨_,Sep.ld0 h24 rfl,Sep.nw h24 λi31 H32 h32=>Sep.st0 h32 (Nat.le_of_ble_eq_true rfl) λH33 h33=>?_⟩⟩;have o33:=Rk.ins (q:={q with made:=(X.G.S.make b 3).1.1}) [b1 i31 (I q.ah)] hrv hnv h33;have hp:=sub_r (A:=PL) (λ_ h=>h) [b1 i31 (I q.ah)];refine asAddr_in ⟨_,o33.box (hp _ hg),asAddr_in ⟨_,Sep.ld1 h33 rfl,asAddr_in ⟨_,Sep.ld3 h33 rfl,?_⟩⟩⟩;rw [wrap_u64];refine cond_of (λd=>?_) λd=>?_
   ·have d:w.toNat<(BitVec.ofInt 64 c.d1).toNat:=Int.ofNat_lt.1 (of_decide_eq_true d);refine asAddr_in ⟨_,o33.box (hp _ hg),rlay_s (k:=.abs1) o33 (.abs1 (hp _ hg)) λH14 PL' hp' o=>⟨rfl,hR H14 PL' (X.to (X.G.S.make b 3).2) b (sub_t hp hp') rfl ?_⟩⟩;show Rk H14 PL' r c (q.count c w (X.G.S.make b 3).1.2 (X.G.S.make b 3).1.1) _ L;unfold Qr.count;rw [if_neg e,if_pos d];exact o
   ·have d:¬w.toNat<(BitVec.ofInt 64 c.d1).toNat:=λh=>of_decide_eq_false d (Int.ofNat_lt.2 h)
    have hb:=o33.bump 7;have⟨sa',nv',hrv',hnv',hs'⟩:=hb.ex;refine asAddr_in ⟨_,hb.box (hp _ hg),asAddr_in ⟨_,hb.box (hp _ hg),asAddr_in ⟨_,_,Sep.lds0 hs' rfl,?_⟩⟩⟩;refine rstore_s (w:=0) (k:=.absLay q.ah) hb (.absLay (hp _ hg) (.head _)) λH14 PL' hp' o=>⟨rfl,⟨hR H14 PL' (X.to (X.G.S.make b 3).2) b (sub_t hp hp') rfl ?_,trivial⟩⟩
    show Rk H14 PL' r c (q.count c w (X.G.S.make b 3).1.2 (X.G.S.make b 3).1.1) _ L;unfold Qr.count;rw [if_neg e,if_neg d];exact o
 |unl hg h2 hk=>
  refine asFn_in ⟨Option.isSome_iff_exists.1 (by kernel_rfl),?_⟩;show CA en F.lru_Run_unlink_1 [W w,_,_] H K;apply vc_lru_Run_unlink_1;have hb:=h.bump 8;have⟨sa,nv,hrv,hnv,hs⟩:=hb.ex;refine asAddr_in ⟨_,hb.box hg,asAddr_in ⟨_,hb.box hg,asAddr_in ⟨_,_,Sep.lds0 hs rfl,asAddr_in ⟨_,hb.box h2,?_⟩⟩⟩⟩;exact rstore_s hb hk λH14 PL' hp' o=>⟨rfl,⟨hR H14 PL' X 0 hp' rfl o,trivial⟩⟩
 |young hg h2 h3 hk=>
  refine asFn_in ⟨Option.isSome_iff_exists.1 (by kernel_rfl),?_⟩;show CA en F.lru_Run_youngest_1 [W w,_,_,_] H K;apply vc_lru_Run_youngest_1;refine asAddr_in ⟨_,h.box hg,asAddr_in ⟨_,h.box h2,?_⟩⟩;exact rstore_s h (.head hg h2 h3 hk) λH14 PL' hp' o=>⟨rfl,hR H14 PL' X 0 hp' rfl o⟩
theorem tk_b {t:Tk}{S:Sm}:(t.step c S).2.1.b=t.b:=by
 unfold Tk.step;split
 ·simp only;split<;>rfl
 ·split
  ·split<;>rfl
  ·rfl
theorem tk_s {t:Tk}(h:Sep H (tkA c t::grA c.g c.m X::M))
  (hR:∀H',Sep H' (tkA c (t.step c X.G.S).2.1::grA c.g c.m (X.to (t.step c X.G.S).2.2)::M)->R (.bool (t.step c X.G.S).1) H'):CA en F.lock_Taker_Step [P t.b] H R:=by
 have⟨tb,tt,ph⟩:=t;apply vc_lock_Taker_Step;rcases ph with _|_|n
 ·refine asAddr_in ⟨_,Sep.ld0 h rfl,asFn_in ⟨Option.isSome_iff_exists.1 (by kernel_rfl),?_⟩⟩;show CA en F.lock_Taker_draw [P tb] H _;apply vc_lock_Taker_draw;have hB:=h.bump 18;refine asAddr_in ⟨_,Sep.ld0 hB rfl,asAddr_in ⟨_,Sep.ld0 hB rfl,asAddr_in ⟨_,Sep.ld0 hB rfl,?_⟩⟩⟩;refine gmore_s (Sep.up1 hB) λH' h'=>⟨_,_,rfl,⟨cond_of (λe=>asAddr_in (Sep.st1 h' (Nat.le_of_ble_eq_true rfl) λH2 h2=>asAddr_in (Sep.st1 h2 (Nat.le_of_ble_eq_true rfl) λH3 h3=>⟨_,rfl,?_⟩))) λe=>⟨_,rfl,?_⟩,trivial⟩⟩
  ·have:=hR H3
   unfold Tk.step at this;rw [if_pos rfl] at this;simp only at this;rw [if_pos e] at this;exact this (Sep.up1 h3)
  ·have:=hR H'
   unfold Tk.step at this;rw [if_pos rfl] at this;simp only at this;rw [if_neg (by rw [e];exact Bool.false_ne_true)] at this;exact this (Sep.up1 h')
 ·refine asAddr_in ⟨_,Sep.ld0 h rfl,asFn_in ⟨Option.isSome_iff_exists.1 (by kernel_rfl),?_⟩⟩;show CA en F.lock_Taker_wait [P tb] H _;apply vc_lock_Taker_wait;have hB:=h.bump 19;refine asAddr_in ⟨_,Sep.ld0 hB rfl,asAddr_in ⟨_,Sep.ld0 hB rfl,asAddr_in ⟨_,Sep.ld0 hB rfl,?_⟩⟩⟩;have e01:IntKind.i64.wrap ((0:Int)+1)=1:=by decide
  rw [e01];have no:∀H',¬((X.G.S.acc c.h 1 true id).1.2=true/\(X.G.S.acc c.h 1 true id).1.1=tt)->Sep H' (grA c.g c.m (X.to (X.G.S.acc c.h 1 true id).2)::tkA c ⟨tb,tt,1⟩::M)->R (.bool false) H':=λH' e h'=>by
   have:=hR H'
   unfold Tk.step at this;rw [if_neg (by simp),if_pos rfl,if_neg e] at this;exact this (Sep.up1 h')
  refine gload_s (Sep.up1 hB) λH' h'=>⟨_,_,rfl,⟨cond_of (λe=>⟨_,rfl,no H' (λh=>?_) h'⟩) λe=>asAddr_in ⟨_,Sep.ld1 h' rfl,?_⟩,trivial⟩⟩
  ·have e:(X.G.S.acc c.h 1 true id).1.2=false:=by simpa using e
   rw [e] at h;cases h.1
  ·have e:(X.G.S.acc c.h 1 true id).1.2=true:=by simpa using e
   rw [bv_bne];refine cond_of (λd=>⟨_,rfl,no H' (λh=>?_) h'⟩) λd=>asAddr_in (Sep.st1 h' (Nat.le_of_ble_eq_true rfl) λH3 h3=>⟨_,rfl,?_⟩)
   ·rw [h.2] at d;simp at d
   ·have d:(X.G.S.acc c.h 1 true id).1.1=tt:=by simpa using d
    have:=hR H3
    unfold Tk.step at this;rw [if_neg (by simp),if_pos rfl,if_pos ⟨e,d⟩] at this;exact this (Sep.up1 h3)
 ·refine asAddr_in ⟨_,Sep.ld0 h rfl,asFn_in ⟨Option.isSome_iff_exists.1 (by kernel_rfl),?_⟩⟩;show CA en F.lock_Taker_got [P tb] H _;refine vc_lock_Taker_got _ _ _ ⟨_,rfl,?_⟩
  have:=hR H
  unfold Tk.step at this;rw [if_neg (by simp),if_neg (by simp)] at this;refine this ?_;exact h
theorem gdrop_s {a:Int}(h:Sep H (grA c.g c.m X::M))
  (hR:∀H' b,Sep H' (grA c.g c.m (X.to (X.G.S.acc a 1 true (addF 1)).2)::M)->R (.bool b) H'):CA en F.lock_Drop [P c.m,I a,I 0] H R:=by
 apply vc_lock_Drop;have e01:IntKind.i64.wrap ((0:Int)+1)=1:=by decide
 rw [e01];exact gmore_s h λH' h'=>⟨_,_,rfl,hR H' _ h'⟩
theorem step_s (h:Rk H PL r c q X L)(hl:X.G.q.length<10000)(hf:X.G.S.fresh)(hnx:q.nx≠.none)
  (hR:∀H' PL' X' b,X'.G=(q.step c X.G b).2->Rk H' PL' r c (q.step c X.G b).1 X' L->R (.tuple #[.bool (q.tells (q.step c X.G b).1).1,.bool (q.tells (q.step c X.G b).1).2]) H'):CA en F.lru_Run_Step [P r] H R:=by
 have⟨sa,nv,hrv,hnv,hs⟩:=h.ex;apply vc_lru_Run_Step;refine asAddr_in ⟨_,Sep.ld0 hs rfl,cond_of (λe=>?_) λe=>?_⟩
 ·have:=hR H PL X 0
  unfold Qr.step Qr.tells at this;rw [if_pos e,if_pos e] at this;exact this rfl h
 ·have e:¬q.dn=true:=by rw [e];exact Bool.false_ne_true
  refine asAddr_in (Sep.st0 hs (Nat.le_of_ble_eq_true rfl) λH6 h6=>asAddr_in ⟨_,Sep.ld0 h6 rfl,?_⟩);have h6:Sep H6 (rA r c {q with eff:=false} sa nv::many PL::xA c::grA c.g c.m X::many (tkL c q.nx)::L):=h6;have o6:Rk H6 PL r c {q with eff:=false} X L:=⟨sa,nv,hrv,hnv,h6⟩;have fin:∀H' PL' X' b,X'.G=(doNx c q.nx {q with eff:=false} X.G b).2->Rk H' PL' r c (doNx c q.nx {q with eff:=false} X.G b).1 X' L->
    AS.asAddr (P r) λi15 i16=>∃b17,(H'.bump 10).cell i15 (i16+12)=some (.bool b17)/\AS.asAddr (P r) λi18 i19=>∃b20,(H'.bump 10).cell i18 (i19+13)=some (.bool b20)/\((R (.tuple #[.bool b17,.bool b20]) (H'.bump 10))/\True):=λH' PL' X' b e1 o=>by
   have ob:=o.bump 10;have⟨sa,nv,hrv,hnv,hs⟩:=ob.ex;refine asAddr_in ⟨_,Sep.ld0 hs rfl,asAddr_in ⟨_,Sep.ld0 hs rfl,?_,trivial⟩⟩
   have:=hR (H'.bump 10) PL' X' b
   unfold Qr.step Qr.tells at this;rw [if_neg e,if_neg e] at this;exact this e1 ob
  have n6:({q with eff:=false}:Qr).nx=q.nx:=rfl;have hrv6:RV PL ({q with eff:=false}:Qr).rv sa:=hrv;clear hR hs h e o6;generalize ({q with eff:=false}:Qr)=q6 at *;generalize q.nx=nx at *;clear hrv;cases hnv with
  |none=>exact absurd rfl hnx
  |@enter g g2 t k v h1 h2 hk=>
   refine asFn_in ⟨Option.isSome_iff_exists.1 (by kernel_rfl),?_⟩;show CA en F.lru_Run_enter_1 [_,_] H6 _;apply vc_lru_Run_enter_1;refine asAddr_in ⟨_,pld (k:=1) h6 rfl h1 rfl,?_⟩;have h7:Sep H6 (tkA c t::rA r c q6 sa (.func (.func F.lru_Run_enter_1) #[] #[P g,P g2])::many PL::xA c::grA c.g c.m X::L):=Sep.many_iff.1 (Sep.up4 h6);refine tk_s (Sep.pick h7 5 [0,4,1,2,3] (by decide)) λH5 h5=>⟨_,rfl,?_⟩
   have h8:Sep H5 (many [tkA c (t.step c X.G.S).2.1]::grA c.g c.m (X.to (t.step c X.G.S).2.2)::rA r c q6 sa (.func (.func F.lru_Run_enter_1) #[] #[P g,P g2])::many PL::xA c::L):=Sep.many_iff.2 h5;have o5:Rk H5 PL r c {q6 with nx:=.enter (t.step c X.G.S).2.1 k} (X.to (t.step c X.G.S).2.2) L:=
    ⟨sa,_,hrv6,.enter (by rw [tk_b];exact h1) h2 hk,Sep.pick h8 5 [2,3,4,1,0] (by decide)⟩
   refine cond_of (λg=>asAddr_in ⟨_,o5.box h2,ks_s hk o5 hl λH' PL' X' b hp e o=>⟨rfl,rfl,fin H' PL' X' b ?_ ?_⟩⟩) λg=>⟨rfl,fin H5 PL (X.to (t.step c X.G.S).2.2) 0 ?_ ?_⟩
   ·show X'.G=(if _ then _ else _:Qr×Gr).2;rw [if_pos g];exact e
   ·show Rk H' PL' r c (if _ then _ else _:Qr×Gr).1 X' L;rw [if_pos g];exact o
   ·show _=(if _ then _ else _:Qr×Gr).2;rw [if_neg (by rw [g];exact Bool.false_ne_true)];rfl
   ·show Rk H5 PL r c (if _ then _ else _:Qr×Gr).1 _ L;rw [if_neg (by rw [g];exact Bool.false_ne_true)];exact o5
  |@load g g2 g3 a i k v h1 h2 h3 hk=>
   refine asFn_in ⟨Option.isSome_iff_exists.1 (by kernel_rfl),?_⟩;show CA en F.lru_Run_load_1 [_,_,_] H6 _;apply vc_lru_Run_load_1;have hb:=h6.bump 17;refine asAddr_in ⟨_,pld (k:=1) hb rfl h1 rfl,asAddr_in ⟨_,Sep.ld0 hb rfl,asAddr_in ⟨_,Sep.ld2 hb rfl,asAddr_in ⟨_,pld (k:=1) hb rfl h2 rfl,asAddr_in ⟨_,pld (k:=1) hb rfl h2 rfl,?_⟩⟩⟩⟩⟩;refine gload_s (Sep.up3 hb) λH17 h17=>⟨_,_,rfl,⟨?_,trivial⟩⟩
   have h18:Sep H17 (rA r c q6 sa _::many PL::xA c::grA c.g c.m (X.to (X.G.S.acc a i true id).2)::many (tkL c (.load a i k))::L):=Sep.pick h17 5 [1,2,3,0,4] (by decide);have o17:Rk H17 PL r c q6 (X.to (X.G.S.acc a i true id).2) L:=⟨sa,_,hrv6,by rw [n6];exact .load h1 h2 h3 hk,by rw [n6];exact h18⟩;refine asAddr_in ⟨_,o17.box h3,kl_s hk o17 hl (acc_fresh _ _ _ _ hf) λH' PL' X' b hp e o=>⟨rfl,rfl,fin H' PL' X' b e o⟩⟩
  |@store g g2 g3 g4 a i w k v h1 h2 h3 h4 hk=>
   refine asFn_in ⟨Option.isSome_iff_exists.1 (by kernel_rfl),?_⟩;show CA en F.lru_Run_store_1 [_,_,_,_] H6 _;apply vc_lru_Run_store_1;have hb:=h6.bump 13;refine asAddr_in ⟨_,pld (k:=1) hb rfl h1 rfl,asAddr_in ⟨_,Sep.ld0 hb rfl,asAddr_in ⟨_,Sep.ld2 hb rfl,asAddr_in ⟨_,pld (k:=1) hb rfl h2 rfl,asAddr_in ⟨_,pld (k:=1) hb rfl h2 rfl,asAddr_in ⟨_,pld (k:=1) hb rfl h3 rfl,?_⟩⟩⟩⟩⟩⟩;refine gstore_s (Sep.up3 hb) λH17 h17=>⟨_,rfl,⟨?_,trivial⟩⟩
   have h18:Sep H17 (rA r c q6 sa _::many PL::xA c::grA c.g c.m (X.to (X.G.S.acc a i true λ_=>w).2)::many (tkL c (.store a i w k))::L):=Sep.pick h17 5 [1,2,3,0,4] (by decide);have o17:Rk H17 PL r c q6 (X.to (X.G.S.acc a i true λ_=>w).2) L:=⟨sa,_,hrv6,by rw [n6];exact .store h1 h2 h3 h4 hk,by rw [n6];exact h18⟩;refine asAddr_in ⟨_,o17.box h4,ks_s hk o17 hl λH' PL' X' b hp e o=>⟨rfl,rfl,fin H' PL' X' b e o⟩⟩
  |@more g g2 w h1 h2=>
   refine asFn_in ⟨Option.isSome_iff_exists.1 (by kernel_rfl),?_⟩;show CA en F.lru_Run_more_1 [_,_] H6 _;apply vc_lru_Run_more_1;have hb:=h6.bump 16;refine asAddr_in ⟨_,pld (k:=1) hb rfl h1 rfl,asAddr_in ⟨_,Sep.ld0 hb rfl,asAddr_in ⟨_,Sep.ld2 hb rfl,asAddr_in ⟨_,pld (k:=1) hb rfl h1 rfl,asAddr_in ⟨_,Sep.ld0 hb rfl,asAddr_in ⟨_,Sep.ld2 hb rfl,asAddr_in ⟨_,pld (k:=1) hb rfl h2 rfl,?_⟩⟩⟩⟩⟩⟩⟩;refine gadd_s (Sep.up3 hb) λH17 h17=>⟨_,_,rfl,⟨?_,trivial⟩⟩
   have h18:Sep H17 (rA r c q6 sa _::many PL::xA c::grA c.g c.m (X.to (X.G.S.acc c.h 3 true (addF w)).2)::many (tkL c (.more w))::L):=Sep.pick h17 5 [1,2,3,0,4] (by decide);have o17:Rk H17 PL r c q6 (X.to (X.G.S.acc c.h 3 true (addF w)).2) L:=⟨sa,_,hrv6,by rw [n6];exact .more h1 h2,by rw [n6];exact h18⟩;refine asAddr_in ⟨_,o17.box h1,raway_s o17 λH' PL' hp o=>⟨rfl,rfl,fin H' PL' _ 0 rfl o⟩⟩
  |@drop g h1=>
   refine asFn_in ⟨Option.isSome_iff_exists.1 (by kernel_rfl),?_⟩;show CA en F.lru_Run_away_1 [_] H6 _;apply vc_lru_Run_away_1;have hb:=h6.bump 15;refine asAddr_in ⟨_,pld (k:=1) hb rfl h1 rfl,asAddr_in ⟨_,Sep.ld0 hb rfl,asAddr_in ⟨_,Sep.ld2 hb rfl,asAddr_in ⟨_,pld (k:=1) hb rfl h1 rfl,asAddr_in ⟨_,Sep.ld0 hb rfl,asAddr_in ⟨_,Sep.ld2 hb rfl,?_⟩⟩⟩⟩⟩⟩;refine gdrop_s (Sep.up3 hb) λH17 b h17=>⟨_,rfl,⟨?_,trivial⟩⟩
   have h18:Sep H17 (rA r c q6 sa _::many PL::xA c::grA c.g c.m (X.to (X.G.S.acc c.h 1 true (addF 1)).2)::many (tkL c .drop)::L):=Sep.pick h17 5 [1,2,3,0,4] (by decide);refine asAddr_in ⟨_,pld (k:=1) h18 rfl h1 rfl,asAddr_in (Sep.st0 h18 (Nat.le_of_ble_eq_true rfl) λH27 h27=>⟨rfl,fin H27 PL (X.to (X.G.S.acc c.h 1 true (addF 1)).2) 0 rfl ⟨sa,.func (.func F.lru_Run_away_1) #[] #[P g],hrv6,?_,?_⟩⟩)⟩
   ·show NV PL r q6.nx _;rw [n6];exact .drop h1
   ·show Sep H27 (rA r c {q6 with dn:=true} sa _::many PL::xA c::grA c.g c.m (X.to (X.G.S.acc c.h 1 true (addF 1)).2)::many (tkL c q6.nx)::L);rw [n6];exact h27
end
section
variable {G:Gr} {a h k:Int} {q:List Wt}
theorem gone_mem:h∈gone q↔∃w∈q,w.ws=[]/\w.h=h:=by
 unfold gone;rw [List.mem_map];constructor
 ·rintro ⟨w,hw,e⟩;rw [List.mem_filter] at hw;refine ⟨w,hw.1,?_,e⟩;by_cases hn:w.ws=[]
  ·exact hn
  ·have:=(ne_iff w).2 hn
   rw [this] at hw;simp at hw
 ·rintro ⟨w,hw,hn,e⟩;refine ⟨w,List.mem_filter.2 ⟨hw,?_⟩,e⟩;unfold ne;rw [hn];rfl
theorem kept_mem:h∈(kept q).map Wt.h↔∃w∈q,w.ws≠[]/\w.h=h:=by
 unfold kept;rw [List.mem_map];constructor
 ·rintro ⟨w,hw,e⟩;rw [List.mem_filter] at hw;exact ⟨w,hw.1,(ne_iff w).1 hw.2,e⟩
 ·rintro ⟨w,hw,hn,e⟩;exact ⟨w,List.mem_filter.2 ⟨hw,(ne_iff w).2 hn⟩,e⟩
theorem same_of_h:∀{q:List Wt},(q.map Wt.h).Nodup->∀{w w':Wt},w∈q->w'∈q->w.h=w'.h->w=w'
 |[],_,_,_,h1,_,_=>by simp at h1
 |x::q,nd,w,w',h1,h2,e=>by
  rw [List.map_cons,List.nodup_cons] at nd
  rcases List.mem_cons.1 h1 with h1|h1
  ·rcases List.mem_cons.1 h2 with h2|h2
   ·rw [h1,h2]
   ·exact (nd.1 (List.mem_map.2 ⟨w',h2,by rw [<-e,h1]⟩)).elim
  ·rcases List.mem_cons.1 h2 with h2|h2
   ·exact (nd.1 (List.mem_map.2 ⟨w,h1,by rw [e,h2]⟩)).elim
   ·exact same_of_h nd.2 h1 h2 e
theorem gone_kept (nd:(q.map Wt.h).Nodup)(h1:h∈gone q):h∉(kept q).map Wt.h:=λh2=>by
 have⟨w,hw,e,eh⟩:=gone_mem.1 h1
 have⟨w',hw',e',eh'⟩:=kept_mem.1 h2
 exact e' (same_of_h nd hw hw' (eh.trans eh'.symm)▸e)
theorem gone_sub (h1:h∈gone q):h∈q.map Wt.h:=by
 have⟨w,hw,_,e⟩:=gone_mem.1 h1;exact List.mem_map.2 ⟨w,hw,e⟩
theorem kept_sub (h1:h∈(kept q).map Wt.h):h∈q.map Wt.h:=by
 have⟨w,hw,_,e⟩:=kept_mem.1 h1;exact List.mem_map.2 ⟨w,hw,e⟩
theorem gone_nd (nd:(q.map Wt.h).Nodup):(gone q).Nodup:=List.Sublist.nodup (List.Sublist.map _ List.filter_sublist) nd
theorem kept_nd (nd:(q.map Wt.h).Nodup):((kept q).map Wt.h).Nodup:=List.Sublist.nodup (List.Sublist.map _ List.filter_sublist) nd
structure Pre (G:Gr):Prop where
 ind:G.ins.Nodup
 nd:(G.q.map Wt.h).Nodup
 ws:∀w∈G.q,(∀a∈w.ws,a∈G.ins)/\w.ws.Nodup
structure Ok (G:Gr):Prop extends Pre G where
 full:∀w∈G.q,w.ws≠[]
theorem Pre.swept (p:Pre G):Ok G.swept:=by
 refine ⟨⟨p.ind,kept_nd p.nd,λw hw=>p.ws w (List.mem_filter.1 hw).1⟩,λw hw=>(ne_iff w).1 (List.mem_filter.1 hw).2⟩
theorem Ok.enter (p:Ok G):Ok (G.enter a).2:=by
 unfold Gr.enter;split
 ·exact p
 ·rename_i h;simp only [not_or] at h;refine ⟨⟨?_,p.nd,λw hw=>⟨λb hb=>List.mem_append.2 (.inl ((p.ws w hw).1 b hb)),(p.ws w hw).2⟩⟩,p.full⟩;exact List.nodup_append.2 ⟨p.ind,by simp,λx hx y hy e=>by simp at hy;subst hy;subst e;exact h.2.2 hx⟩
theorem map_er (a:Int)(q:List Wt):(q.map (er a)).map Wt.h=q.map Wt.h:=by rw [List.map_map];rfl
theorem Ok.left (p:Ok G):Pre (G.left a):=by
 refine ⟨p.ind.erase a,?_,λw hw=>?_⟩
 ·show ((G.q.map (er a)).map Wt.h).Nodup;rw [map_er];exact p.nd
 ·obtain ⟨u,hu,rfl⟩:=List.mem_map.1 hw;refine ⟨λb hb=>?_,(p.ws u hu).2.erase a⟩;have hb':b∈u.ws.erase a:=hb;rw [(p.ws u hu).2.mem_erase_iff] at hb';show b∈G.ins.erase a;rw [p.ind.mem_erase_iff];exact ⟨hb'.1,(p.ws u hu).1 b hb'.2⟩
theorem Ok.add {mb:Nat}(p:Ok G)(h:Int)(hn:h∉G.q.map Wt.h):Pre (G.add h mb):=by
 refine ⟨p.ind,?_,λw hw=>?_⟩
 ·show ((G.q++[_]).map Wt.h).Nodup;rw [List.map_append];exact List.nodup_append.2 ⟨p.nd,by simp,λx hx y hy e=>by simp at hy;subst hy;subst e;exact hn hx⟩
 ·rcases List.mem_append.1 hw with hw|hw
  ·exact p.ws w hw
  ·simp at hw;subst hw;exact ⟨λa h=>h,p.ind⟩
theorem leave_n:(G.leave a).2.n=G.n:=by unfold Gr.leave;split<;>rfl
theorem enter_n:(G.enter a).2.n=G.n:=by unfold Gr.enter;split<;>rfl
theorem leave_ins (p:Ok G):k∈(G.leave a).2.ins↔k∈G.ins/\k≠a:=by
 unfold Gr.leave;split
 ·show k∈G.ins.erase a↔_;rw [p.ind.mem_erase_iff];exact and_comm
 ·rename_i h;exact ⟨λh1=>⟨h1,λe=>h (e▸h1)⟩,λh=>h.1⟩
theorem Ok.empty (p:Ok G)(h:∀a,a∉G.ins):G.q=[]:=by
 cases e:G.q with
 |nil=>rfl
 |cons w q=>
  have hw:w∈G.q:=by rw [e];simp
  exfalso;apply p.full w hw;cases ew:w.ws with
  |nil=>rfl
  |cons b l=>exact (h b ((p.ws w hw).1 b (by rw [ew];simp))).elim
end
section
abbrev Wd:=BitVec 64
def Sm.V (S:Sm)(h:Int):Option (List Wd):=(S.find h).map Reg.ws
theorem find_map_upd (S:Sm)(a:Int)(i:Nat)(w:Wd)(h:Int):(S.upd a i w).find h=(S.find h).map λr=>if r.h=a then {r with ws:=r.ws.set i w} else r:=by
 unfold Sm.find Sm.upd;simp only;rw [List.find?_map]
 have:((λr:Reg=>r.h==h)∘λr=>if r.h=a then {r with ws:=r.ws.set i w} else r)=λr=>r.h==h:=by
  funext r;simp only [Function.comp];split<;>rfl
 rw [this]
theorem V_acc {S:Sm}{a:Int}{ws:List Wd}{i:Nat}(hv:S.V a=some ws)(hi:i<ws.length)(f:Wd->Wd) :
  (S.acc a i true f).1=(ws.getD i 0,true)/\(∀h,(S.acc a i true f).2.V h=if h=a then some (ws.set i (f (ws.getD i 0))) else S.V h)/\(S.acc a i true f).2.bads=S.bads/\(S.acc a i true f).2.room=S.room/\(S.acc a i true f).2.count=wr (S.count+1):=by
 unfold Sm.V at hv;cases hf:S.find a with
 |none=>rw [hf] at hv;cases hv
 |some r=>
  rw [hf] at hv;have hw:r.ws=ws:=by simpa using hv
  have e:S.acc a i true f=((ws.getD i 0,true),S.cnt.upd a i (f (ws.getD i 0))):=by
   unfold Sm.acc;rw [hf];simp only;rw [hw,if_pos ⟨trivial,by omega,by omega⟩];rfl
  rw [e];refine ⟨rfl,λh=>?_,rfl,rfl,rfl⟩;unfold Sm.V;rw [find_map_upd];show Option.map Reg.ws (Option.map _ (S.find h))=_;by_cases eh:h=a
  ·subst eh;rw [hf,if_pos rfl];have hr:r.h=h:=(find_mem hf).2;simp only [Option.map_some,hr,if_true,hw]
  ·rw [if_neg eh];cases hf2:S.find h with
   |none=>rfl
   |some r2=>
    have hr:r2.h=h:=(find_mem hf2).2;simp only [Option.map_some,Option.some.injEq];rw [if_neg (by rw [hr];exact eh)]
theorem V_mk {S:Sm}(b n:Nat)(hf:S.fresh)(h:Int):(S.mk' b n).V h=if h=wr (S.made+1) then some (List.replicate n 0) else S.V h:=by
 unfold Sm.V Sm.find Sm.mk';simp only;rw [List.find?_append];by_cases e:h=wr (S.made+1)
 ·subst e
  have:S.regs.find? (λr=>r.h==wr (S.made+1))=none:=hf
  rw [this,if_pos rfl];simp
 ·rw [if_neg e]
  have:([⟨wr (S.made+1),b,S.cl,List.replicate n 0⟩]:List Reg).find? (λr=>r.h==h)=none:=by
   rw [List.find?_eq_none];intro r hr;simp only [List.mem_singleton] at hr;subst hr;simp only [beq_iff_eq];exact λh2=>e h2.symm
  cases hx:S.regs.find? (λr=>r.h==h) with
  |some r=>rfl
  |none=>
   simp only [Option.none_or,Option.map_none];simp only [Option.map_eq_none_iff]
   first|exact this|(simp only [List.find?_cons,List.find?_nil];split<;>simp_all)
theorem V_free (S:Sm)(a h:Int):(S.free a).2.V h=if h=a then none else S.V h:=by
 unfold Sm.V Sm.free Sm.find;simp only;rw [List.find?_filter];by_cases e:h=a
 ·rw [if_pos e]
  have:S.regs.find? (λr=>decide ((r.h !=a)=true/\(r.h==h)=true))=none:=by
   rw [List.find?_eq_none];intro r _;subst e;simp only [bne_iff_ne,ne_eq,beq_iff_eq,decide_eq_true_eq,not_and];exact λh1 h2=>h1 h2
  rw [this];rfl
 ·rw [if_neg e]
  have:(λr:Reg=>decide ((r.h !=a)=true/\(r.h==h)=true))=λr=>r.h==h:=by
   funext r
   rw [Bool.eq_iff_iff];simp only [bne_iff_ne,ne_eq,beq_iff_eq,decide_eq_true_eq];exact ⟨λh1=>h1.2,λh1=>⟨λh2=>e (by rw [<-h1,h2]),h1⟩⟩
  rw [this]
theorem V_frees:∀(hs:List Int)(S:Sm)(h:Int),(frees S hs).V h=if h∈hs then none else S.V h
 |[],S,h=>rfl
 |a::hs,S,h=>by
  show (frees (S.free a).2 hs).V h=_
  rw [V_frees hs,V_free]
  by_cases h1:h=a
  ·simp [h1]
  ·simp [h1]
theorem size_V {S:Sm}{h:Int}{ws:List Wd}(hv:S.V h=some ws):S.size h=ws.length:=by
 unfold Sm.V at hv;unfold Sm.size;cases hf:S.find h with
 |none=>rw [hf] at hv;cases hv
 |some r=>rw [hf] at hv;simp only [Option.map_some,Option.some.injEq] at hv;rw [<-hv]
theorem frees_keys:∀(hs:List Int)(S:Sm),(frees S hs).regs.map Reg.h=(S.regs.map Reg.h).filter λh=> !hs.contains h
 |[],S=>(List.filter_eq_self.2 λx _=>by simp).symm
 |a::hs,S=>by
  show (frees (S.free a).2 hs).regs.map Reg.h=_;rw [frees_keys hs]
  have:(S.free a).2.regs.map Reg.h=(S.regs.map Reg.h).filter λh=>h !=a:=by
   unfold Sm.free;simp only [List.filter_map];rfl
  rw [this,List.filter_filter];refine List.filter_congr λx _=>?_
  rw [Bool.eq_iff_iff];simp only [Bool.and_eq_true,Bool.not_eq_true',List.contains_eq_mem,decide_eq_false_iff_not,bne_iff_ne,ne_eq,List.mem_cons,not_or];exact ⟨λh=>⟨h.2,h.1⟩,λh=>⟨h.2,h.1⟩⟩
theorem frees_made:∀(hs:List Int)(S:Sm),(frees S hs).made=S.made
 |[],S=>rfl
 |a::hs,S=>by show (frees (S.free a).2 hs).made=_;rw [frees_made hs];rfl
theorem frees_bads:∀(hs:List Int)(S:Sm),(frees S hs).bads=S.bads
 |[],S=>rfl
 |a::hs,S=>by show (frees (S.free a).2 hs).bads=_;rw [frees_bads hs];rfl
theorem frees_room:∀(hs:List Int)(S:Sm),hs.Nodup->(∀h∈hs,S.size h=3)->0<=S.room->S.room+3*hs.length<4611686018427387904->(frees S hs).room=S.room+3*hs.length
 |[],S,_,_,_,_=>by simp [frees]
 |a::hs,S,nd,hz,h0,h1=>by
  rw [List.nodup_cons] at nd;have hl:((a::hs).length:Int)=hs.length+1:=by simp
  rw [hl] at h1⊢;have e:(S.free a).2.room=S.room+3:=by
   show wr (S.room+S.size a)=_;rw [hz a (by simp),wrs (by omega)];rfl
  show (frees (S.free a).2 hs).room=_;rw [frees_room hs (S.free a).2 nd.2 (λh hh=>?_) (by rw [e];omega) (by rw [e];omega),e]
  ·omega
  ·have hne:h≠a:=λe=>nd.1 (e▸hh)
   have:=hz h (by simp [hh])
   unfold Sm.size Sm.free Sm.find at *;simp only at *;rw [List.find?_filter];have e2:(λr:Reg=>decide ((r.h !=a)=true/\(r.h==h)=true))=λr=>r.h==h:=by
    funext r
    rw [Bool.eq_iff_iff];simp only [bne_iff_ne,ne_eq,beq_iff_eq,decide_eq_true_eq];exact ⟨λh1=>h1.2,λh1=>⟨λh2=>hne (by rw [<-h1,h2]),h1⟩⟩
   rw [e2];exact this
structure El where
 h:Int
 k:Wd
def first:List El->Wd
 |[]=>0
 |e::_=>BitVec.ofInt 64 e.h
def Link (S:Sm):List El->Prop
 |[]=>True
 |e::l=>(∃v,S.V e.h=some [e.k,v,first l])/\Link S l
def spot (c:Lc)(l:List El):Int:=match l.getLast? with|none=>c.h|some e=>e.h
def val (S:Sm)(h:Int):Wd:=((S.V h).getD []).getD 1 0
theorem Link.frame {S S':Sm}:∀{l:List El},Link S l->(∀e∈l,S'.V e.h=S.V e.h)->Link S' l
 |[],_,_=>trivial
 |e::l,⟨⟨v,h1⟩,h2⟩,hf=>⟨⟨v,by rw [hf e (by simp),h1]⟩,h2.frame λx hx=>hf x (by simp [hx])⟩
theorem Link.at' {S:Sm}:∀{l1:List El}{e:El}{l2:List El},Link S (l1++e::l2)->∃v,S.V e.h=some [e.k,v,first l2]
 |[],e,l2,h=>h.1
 |a::l1,e,l2,h=>Link.at' (l1:=l1) h.2
theorem Link.val {S S':Sm}{a:Int}:∀{l:List El},Link S l->(∀h,h≠a->S'.V h=S.V h)->(∀x y z,S.V a=some [x,y,z]->∃y',S'.V a=some [x,y',z])->Link S' l
 |[],_,_,_=>trivial
 |e::l,⟨⟨v,h1⟩,h2⟩,hf,ha=>⟨by
   by_cases e1:e.h=a
   ·subst e1;exact ha _ _ _ h1
   ·exact ⟨v,by rw [hf _ e1,h1]⟩,h2.val hf ha⟩
theorem Link.cut {S S':Sm}{c:Lc}{m:List El}:∀{l1 l2:List El},Link S (l1++l2)->((l1++l2).map El.h).Nodup->(∀e∈l1++m,e.h≠spot c l1->S'.V e.h=S.V e.h)->(∀e∈m,e.h≠spot c l1)->
  (∀x y z,S.V (spot c l1)=some [x,y,z]->l1≠[]->S'.V (spot c l1)=some [x,y,first m])->Link S m->Link S' (l1++m)
 |[],l2,_,_,hf,hm,_,hl=>Link.frame hl λe he=>hf e (by simpa using he) (hm e he)
 |[a],l2,h,nd,hf,hm,hs,hl=>by
  have⟨⟨v,h1⟩,h2⟩:=h;refine ⟨⟨v,hs _ _ _ h1 (by simp)⟩,Link.frame hl λe he=>hf e (List.mem_cons_of_mem _ he) (hm e he)⟩
 |a::b::l1,l2,h,nd,hf,hm,hs,hl=>by
  have⟨⟨v,h1⟩,h2⟩:=h;have es:spot c (a::b::l1)=spot c (b::l1):=by unfold spot;rw [List.getLast?_cons_cons]
  rw [es] at hf hm hs;have na:a.h≠spot c (b::l1):=by
   intro e
   have:spot c (b::l1)∈(b::l1).map El.h:=by
    unfold spot;cases hg:(b::l1).getLast? with
    |none=>simp at hg
    |some x=>exact List.mem_map.2 ⟨x,List.mem_of_getLast? hg,rfl⟩
   rw [List.cons_append,List.map_cons,List.nodup_cons] at nd;exact nd.1 (by rw [e,List.map_append];exact List.mem_append_left _ this)
  refine ⟨⟨v,?_⟩,?_⟩
  ·rw [hf a (by simp) na,h1];rfl
  ·rw [List.cons_append,List.map_cons,List.nodup_cons] at nd;exact Link.cut (l1:=b::l1) h2 nd.2 (λe he=>hf e (by simp only [List.cons_append,List.mem_cons] at he⊢;exact .inr he)) hm (λx y z h3 _=>hs x y z h3 (by simp)) hl
end
section
structure Cx where
 dq:Wd->Prop
 sv:Wd
def Cx.next (z:Cx):Cx:={z with sv:=z.sv+1}
structure Mem (c:Lc)(cap:Cx)(G:Gr)(l:List El)(x:List Int)(cnt:Wd):Prop where
 ok:Ok G
 lock:∃dr,cap.dq dr/\G.S.V c.h=some [dr,cap.sv,first l,cnt]
 link:Link G.S l
 len:∀h∈x++G.q.map Wt.h,∃p q r,G.S.V h=some [p,q,r]
 perm:(G.S.regs.map Reg.h).Perm (c.h::(l.map El.h++x++G.q.map Wt.h))
 rng:∀h∈G.S.regs.map Reg.h,1<=h/\h<=G.S.made
 nd:(G.S.regs.map Reg.h).Nodup
 made:0<=G.S.made/\G.S.made<2305843009213693952
 room:G.S.room+3*(l.length+x.length+G.q.length)=c.cap
 room0:0<=G.S.room
 capb:c.cap<=20000
 bads:G.S.bads=0
variable {c:Lc} {cap:Cx} {G:Gr} {l:List El} {x:List Int} {cnt:Wd}
theorem Mem.nd2 (M:Mem c cap G l x cnt):(c.h::(l.map El.h++x++G.q.map Wt.h)).Nodup:=M.perm.nodup_iff.1 M.nd
theorem Mem.qlen (M:Mem c cap G l x cnt):G.q.length<10000:=by
 have:=M.room;have:=M.room0;have:=M.capb;omega
theorem Mem.wmade (M:Mem c cap G l x cnt):wr (G.S.made+1)=G.S.made+1:=by have:=M.made;exact wrs (by omega)
theorem Mem.fresh (M:Mem c cap G l x cnt):G.S.fresh:=by
 refine find_none_iff.2 λh=>?_
 have:=(M.rng _ h).2
 rw [M.wmade] at this;omega
theorem Mem.alive (M:Mem c cap G l x cnt){h:Int}(hm:h∈l.map El.h++x++G.q.map Wt.h):∃p q r,G.S.V h=some [p,q,r]:=by
 rw [List.append_assoc] at hm;rcases List.mem_append.1 hm with hm|hm
 ·obtain ⟨e,he,rfl⟩:=List.mem_map.1 hm;obtain ⟨l1,l2,rfl⟩:=List.append_of_mem he;have⟨v,hv⟩:=M.link.at';exact ⟨_,_,_,hv⟩
 ·exact M.len h hm
theorem Mem.ne_c (M:Mem c cap G l x cnt){h:Int}(hm:h∈l.map El.h++x++G.q.map Wt.h):h≠c.h:=λe=>by
 have:=M.nd2
 rw [List.nodup_cons] at this
 exact this.1 (e▸hm)
theorem Mem.bd (M:Mem c cap G l x cnt){h:Int}(hm:h∈l.map El.h++x++G.q.map Wt.h):1<=h/\h<=G.S.made:=
 M.rng h (M.perm.mem_iff.2 (List.mem_cons_of_mem _ hm))
theorem Mem.acc (M:Mem c cap G l x cnt){a:Int}{i:Nat}{f:Wd->Wd}{ws:List Wd}(hv:G.S.V a=some ws)(hi:i<ws.length){l':List El}{x':List Int}{cnt':Wd}
  (hlock:∃dr,cap.dq dr/\(G.S.acc a i true f).2.V c.h=some [dr,cap.sv,first l',cnt'])(hlink:Link (G.S.acc a i true f).2 l')
  (hperm:(l'.map El.h++x').Perm (l.map El.h++x)):Mem c cap (G.mem (G.S.acc a i true f).2) l' x' cnt':=by
 have⟨e1,e2,e3,e4,e5⟩:=V_acc hv hi f;have hl:l'.length+x'.length=l.length+x.length:=by have:=hperm.length_eq;simpa using this
 have hm:∀h,h∈x'++G.q.map Wt.h->h∈l.map El.h++x++G.q.map Wt.h:=λh hh=>by
  rcases List.mem_append.1 hh with hh|hh
  ·exact List.mem_append_left _ (hperm.mem_iff.1 (List.mem_append_right _ hh))
  ·exact List.mem_append_right _ hh
 refine ⟨⟨⟨M.ok.ind,M.ok.nd,M.ok.ws⟩,M.ok.full⟩,hlock,hlink,λh hh=>?_,?_,?_,?_,?_,?_,?_,M.capb,?_⟩
 ·have⟨p,q,r,h1⟩:=M.alive (hm h hh);show ∃p q r,(G.S.acc a i true f).2.V h=some [p,q,r];rw [e2];by_cases e:h=a
  ·subst e;rw [h1] at hv;simp only [Option.some.injEq] at hv;subst hv;rw [if_pos rfl]
   match i,hi with
   |0,_=>exact ⟨_,_,_,rfl⟩
   |1,_=>exact ⟨_,_,_,rfl⟩
   |2,_=>exact ⟨_,_,_,rfl⟩
  ·rw [if_neg e];exact ⟨p,q,r,h1⟩
 ·show ((G.S.acc a i true f).2.regs.map Reg.h).Perm _;rw [acc_keys];exact M.perm.trans ((hperm.symm.append_right _).cons _)
 ·show ∀h∈(G.S.acc a i true f).2.regs.map Reg.h,1<=h/\h<=(G.S.acc a i true f).2.made;rw [acc_keys,acc_made];exact M.rng
 ·show ((G.S.acc a i true f).2.regs.map Reg.h).Nodup;rw [acc_keys];exact M.nd
 ·show 0<=(G.S.acc a i true f).2.made/\(G.S.acc a i true f).2.made<_;rw [acc_made];exact M.made
 ·show (G.S.acc a i true f).2.room+_=_;rw [e4]
  have:=M.room
  show G.S.room+3*((l'.length:Int)+x'.length+G.q.length)=c.cap;omega
 ·show 0<=(G.S.acc a i true f).2.room;rw [e4];exact M.room0
 ·show (G.S.acc a i true f).2.bads=0;rw [e3];exact M.bads
theorem V_acc0 {S:Sm}{a:Int}{ws:List Wd}(hv:S.V a=some ws)(hi:0<ws.length)(f:Wd->Wd) :
  (S.acc a 0 true f).1=(ws.getD 0 0,true)/\(∀h,(S.acc a 0 true f).2.V h=if h=a then some (ws.set 0 (f (ws.getD 0 0))) else S.V h)/\(S.acc a 0 true f).2.bads=S.bads/\(S.acc a 0 true f).2.room=S.room/\(S.acc a 0 true f).2.count=wr (S.count+1):=V_acc (i:=0) hv hi f
theorem Mem.acc0 (M:Mem c cap G l x cnt){a:Int}{f:Wd->Wd}{ws:List Wd}(hv:G.S.V a=some ws)(hi:0<ws.length){l':List El}{x':List Int}{cnt':Wd}
  (hlock:∃dr,cap.dq dr/\(G.S.acc a 0 true f).2.V c.h=some [dr,cap.sv,first l',cnt'])(hlink:Link (G.S.acc a 0 true f).2 l')
  (hperm:(l'.map El.h++x').Perm (l.map El.h++x)):Mem c cap (G.mem (G.S.acc a 0 true f).2) l' x' cnt':=M.acc (i:=0) hv hi hlock hlink hperm
theorem V_acc1 {S:Sm}{a:Int}{ws:List Wd}(hv:S.V a=some ws)(hi:1<ws.length)(f:Wd->Wd) :
  (S.acc a 1 true f).1=(ws.getD 1 0,true)/\(∀h,(S.acc a 1 true f).2.V h=if h=a then some (ws.set 1 (f (ws.getD 1 0))) else S.V h)/\(S.acc a 1 true f).2.bads=S.bads/\(S.acc a 1 true f).2.room=S.room/\(S.acc a 1 true f).2.count=wr (S.count+1):=V_acc (i:=1) hv hi f
theorem Mem.acc1 (M:Mem c cap G l x cnt){a:Int}{f:Wd->Wd}{ws:List Wd}(hv:G.S.V a=some ws)(hi:1<ws.length){l':List El}{x':List Int}{cnt':Wd}
  (hlock:∃dr,cap.dq dr/\(G.S.acc a 1 true f).2.V c.h=some [dr,cap.sv,first l',cnt'])(hlink:Link (G.S.acc a 1 true f).2 l')
  (hperm:(l'.map El.h++x').Perm (l.map El.h++x)):Mem c cap (G.mem (G.S.acc a 1 true f).2) l' x' cnt':=M.acc (i:=1) hv hi hlock hlink hperm
theorem V_acc2 {S:Sm}{a:Int}{ws:List Wd}(hv:S.V a=some ws)(hi:2<ws.length)(f:Wd->Wd) :
  (S.acc a 2 true f).1=(ws.getD 2 0,true)/\(∀h,(S.acc a 2 true f).2.V h=if h=a then some (ws.set 2 (f (ws.getD 2 0))) else S.V h)/\(S.acc a 2 true f).2.bads=S.bads/\(S.acc a 2 true f).2.room=S.room/\(S.acc a 2 true f).2.count=wr (S.count+1):=V_acc (i:=2) hv hi f
theorem Mem.acc2 (M:Mem c cap G l x cnt){a:Int}{f:Wd->Wd}{ws:List Wd}(hv:G.S.V a=some ws)(hi:2<ws.length){l':List El}{x':List Int}{cnt':Wd}
  (hlock:∃dr,cap.dq dr/\(G.S.acc a 2 true f).2.V c.h=some [dr,cap.sv,first l',cnt'])(hlink:Link (G.S.acc a 2 true f).2 l')
  (hperm:(l'.map El.h++x').Perm (l.map El.h++x)):Mem c cap (G.mem (G.S.acc a 2 true f).2) l' x' cnt':=M.acc (i:=2) hv hi hlock hlink hperm
theorem V_acc3 {S:Sm}{a:Int}{ws:List Wd}(hv:S.V a=some ws)(hi:3<ws.length)(f:Wd->Wd) :
  (S.acc a 3 true f).1=(ws.getD 3 0,true)/\(∀h,(S.acc a 3 true f).2.V h=if h=a then some (ws.set 3 (f (ws.getD 3 0))) else S.V h)/\(S.acc a 3 true f).2.bads=S.bads/\(S.acc a 3 true f).2.room=S.room/\(S.acc a 3 true f).2.count=wr (S.count+1):=V_acc (i:=3) hv hi f
theorem Mem.acc3 (M:Mem c cap G l x cnt){a:Int}{f:Wd->Wd}{ws:List Wd}(hv:G.S.V a=some ws)(hi:3<ws.length){l':List El}{x':List Int}{cnt':Wd}
  (hlock:∃dr,cap.dq dr/\(G.S.acc a 3 true f).2.V c.h=some [dr,cap.sv,first l',cnt'])(hlink:Link (G.S.acc a 3 true f).2 l')
  (hperm:(l'.map El.h++x').Perm (l.map El.h++x)):Mem c cap (G.mem (G.S.acc a 3 true f).2) l' x' cnt':=M.acc (i:=3) hv hi hlock hlink hperm
theorem Mem.load (M:Mem c cap G l x cnt){a:Int}{i:Nat}{ws:List Wd}(hv:G.S.V a=some ws)(hi:i<ws.length) :
  (G.S.acc a i true id).1.1=ws.getD i 0/\Mem c cap (G.mem (G.S.acc a i true id).2) l x cnt/\∀h,(G.S.acc a i true id).2.V h=G.S.V h:=by
 have⟨e1,e2,e3,e4,e5⟩:=V_acc hv hi id;have same:∀h,(G.S.acc a i true id).2.V h=G.S.V h:=λh=>by
  rw [e2];by_cases e:h=a
  ·subst e;rw [if_pos rfl,hv,List.getD_eq_getElem?_getD,List.getElem?_eq_getElem hi];simp
  ·rw [if_neg e]
 refine ⟨by rw [e1],M.acc hv hi ?_ ?_ (List.Perm.refl _),same⟩
 ·rw [same];exact M.lock
 ·exact M.link.frame λe _=>same _
theorem Mem.hnc (M:Mem c cap G l x cnt){e:El}(he:e∈l):e.h≠c.h:=M.ne_c (List.mem_append_left _ (List.mem_append_left _ (List.mem_map.2 ⟨e,he,rfl⟩)))
theorem Mem.accC (M:Mem c cap G l x cnt)(f:Wd->Wd) :
  (G.S.acc c.h 3 true f).1=(cnt,true)/\Mem c cap (G.mem (G.S.acc c.h 3 true f).2) l x (f cnt)/\∀h,h≠c.h->(G.S.acc c.h 3 true f).2.V h=G.S.V h:=by
 have⟨dr,sv,hv⟩:=M.lock;have⟨e1,e2,e3,e4,e5⟩:=V_acc3 hv (by simp) f;have same:∀h,h≠c.h->(G.S.acc c.h 3 true f).2.V h=G.S.V h:=λh hn=>by rw [e2,if_neg hn]
 refine ⟨e1,M.acc3 hv (by simp) ?_ ?_ (List.Perm.refl _),same⟩
 ·rw [e2,if_pos rfl];exact ⟨dr,sv,rfl⟩
 ·exact M.link.frame λe he=>same _ (M.hnc he)
theorem Mem.draw (M:Mem c cap G l x cnt){dq':Wd->Prop}(f:Wd->Wd)(hf:∀d,cap.dq d->dq' (f d)) :
  ∃d,cap.dq d/\(G.S.acc c.h 0 true f).1=(d,true)/\(∃d2,G.S.V c.h=some [d,cap.sv,first l,d2])/\Mem c {cap with dq:=dq'} (G.mem (G.S.acc c.h 0 true f).2) l x cnt/\(G.S.acc c.h 0 true f).2.V c.h=some [f d,cap.sv,first l,cnt]/\∀h,h≠c.h->(G.S.acc c.h 0 true f).2.V h=G.S.V h:=by
 have⟨dr,sv,hv⟩:=M.lock;have⟨e1,e2,e3,e4,e5⟩:=V_acc0 hv (by simp) f;have same:∀h,h≠c.h->(G.S.acc c.h 0 true f).2.V h=G.S.V h:=λh hn=>by rw [e2,if_neg hn]
 have hc:(G.S.acc c.h 0 true f).2.V c.h=some [f dr,cap.sv,first l,cnt]:=by rw [e2,if_pos rfl];rfl
 have M0:Mem c {cap with dq:=λd=>cap.dq d∨dq' d} G l x cnt:=⟨M.ok,⟨dr,.inl sv,hv⟩,M.link,M.len,M.perm,M.rng,M.nd,M.made,M.room,M.room0,M.capb,M.bads⟩;have M1:=M0.acc0 (f:=f) hv (by simp) (l':=l) (x':=x) (cnt':=cnt) ⟨f dr,.inr (hf dr sv),hc⟩ (M.link.frame λe he=>same _ (M.hnc he)) (List.Perm.refl _);exact ⟨dr,sv,e1,⟨cnt,hv⟩,⟨M1.ok,⟨f dr,hf dr sv,hc⟩,M1.link,M1.len,M1.perm,M1.rng,M1.nd,M1.made,M1.room,M1.room0,M1.capb,M1.bads⟩,hc,same⟩
theorem Mem.served (M:Mem c cap G l x cnt)(f:Wd->Wd)(hf:f cap.sv=cap.sv+1) :
  Mem c cap.next (G.mem (G.S.acc c.h 1 true f).2) l x cnt/\∀h,h≠c.h->(G.S.acc c.h 1 true f).2.V h=G.S.V h:=by
 have⟨dr,sv,hv⟩:=M.lock;have⟨e1,e2,e3,e4,e5⟩:=V_acc1 hv (by simp) f;have same:∀h,h≠c.h->(G.S.acc c.h 1 true f).2.V h=G.S.V h:=λh hn=>by rw [e2,if_neg hn]
 have hm:∀h,h∈l.map El.h++x++G.q.map Wt.h->(G.S.acc c.h 1 true f).2.V h=G.S.V h:=λh hh=>same h (M.ne_c hh)
 refine ⟨⟨⟨⟨M.ok.ind,M.ok.nd,M.ok.ws⟩,M.ok.full⟩,⟨dr,sv,?_⟩,M.link.frame λe he=>same _ (M.hnc he),λh hh=>?_,?_,?_,?_,?_,?_,?_,M.capb,?_⟩,same⟩
 ·show (G.S.acc c.h 1 true f).2.V c.h=some [dr,cap.sv+1,first l,cnt];rw [e2,if_pos rfl,<-hf];rfl
 ·show ∃p q r,(G.S.acc c.h 1 true f).2.V h=some [p,q,r];rw [hm h (by rw [List.append_assoc];exact List.mem_append_right _ hh)];exact M.len h hh
 ·show ((G.S.acc c.h 1 true f).2.regs.map Reg.h).Perm _;rw [acc_keys];exact M.perm
 ·show ∀h∈(G.S.acc c.h 1 true f).2.regs.map Reg.h,1<=h/\h<=(G.S.acc c.h 1 true f).2.made;rw [acc_keys,acc_made];exact M.rng
 ·show ((G.S.acc c.h 1 true f).2.regs.map Reg.h).Nodup;rw [acc_keys];exact M.nd
 ·show 0<=(G.S.acc c.h 1 true f).2.made/\(G.S.acc c.h 1 true f).2.made<_;rw [acc_made];exact M.made
 ·show (G.S.acc c.h 1 true f).2.room+_=_;rw [e4];exact M.room
 ·show 0<=(G.S.acc c.h 1 true f).2.room;rw [e4];exact M.room0
 ·show (G.S.acc c.h 1 true f).2.bads=0;rw [e3];exact M.bads
theorem Mem.stVal (M:Mem c cap G l x cnt){a:Int}{p v r:Wd}(hv:G.S.V a=some [p,v,r])(ha:a∈l.map El.h++x++G.q.map Wt.h)(w:Wd) :
  (G.S.acc a 1 true λ_=>w).1.2=true/\Mem c cap (G.mem (G.S.acc a 1 true λ_=>w).2) l x cnt/\∀h,(G.S.acc a 1 true λ_=>w).2.V h=if h=a then some [p,w,r] else G.S.V h:=by
 have⟨e1,e2,e3,e4,e5⟩:=V_acc1 hv (by simp) (λ_=>w);refine ⟨by rw [e1],M.acc1 hv (by simp) ?_ ?_ (List.Perm.refl _),e2⟩
 ·rw [e2,if_neg (M.ne_c ha).symm];exact M.lock
 ·refine M.link.val (a:=a) (λh hn=>by rw [e2,if_neg hn]) λx y z h3=>?_
  rw [hv] at h3;simp only [Option.some.injEq,List.cons.injEq,and_true] at h3;obtain ⟨rfl,rfl,rfl⟩:=h3;exact ⟨w,by rw [e2,if_pos rfl];rfl⟩
theorem Mem.stX (M:Mem c cap G l x cnt){a:Int}{ws:List Wd}(hv:G.S.V a=some ws)(ha:a∈x){i:Nat}(hi:i<ws.length)(w:Wd) :
  (G.S.acc a i true λ_=>w).1.2=true/\Mem c cap (G.mem (G.S.acc a i true λ_=>w).2) l x cnt/\∀h,(G.S.acc a i true λ_=>w).2.V h=if h=a then some (ws.set i w) else G.S.V h:=by
 have⟨e1,e2,e3,e4,e5⟩:=V_acc hv hi (λ_=>w);have ham:a∈l.map El.h++x++G.q.map Wt.h:=List.mem_append_left _ (List.mem_append_right _ ha);refine ⟨by rw [e1],M.acc hv hi ?_ ?_ (List.Perm.refl _),e2⟩
 ·rw [e2,if_neg (M.ne_c ham).symm];exact M.lock
 ·refine M.link.frame λe he=>by
   have hn:e.h≠a:=λh=>by
    have nd:=(List.nodup_cons.1 M.nd2).2;rw [List.append_assoc] at nd;exact (List.nodup_append.1 nd).2.2 e.h (List.mem_map.2 ⟨e,he,rfl⟩) a (List.mem_append_left _ ha) h
   rw [e2,if_neg hn]
theorem Mem.unlink {l1 m:List El}{e:El}(M:Mem c cap G (l1++e::m) x cnt) :
  (G.S.acc (spot c l1) 2 true λ_=>first m).1.2=true/\Mem c cap (G.mem (G.S.acc (spot c l1) 2 true λ_=>first m).2) (l1++m) (e.h::x) cnt/\
  (∀h,val (G.S.acc (spot c l1) 2 true λ_=>first m).2 h=val G.S h∨h=c.h)/\(G.S.acc (spot c l1) 2 true λ_=>first m).2.V e.h=G.S.V e.h:=by
 have nd:=(List.nodup_cons.1 M.nd2).2;rw [List.append_assoc] at nd;have ndl:=(List.nodup_append.1 nd).1;have he:e.h∈(l1++e::m).map El.h++x++G.q.map Wt.h:=List.mem_append_left _ (List.mem_append_left _ (by simp));have hsp:l1≠[]->∃a∈l1,spot c l1=a.h:=λh=>by
  unfold spot;cases hg:l1.getLast? with
  |none=>rw [List.getLast?_eq_none_iff] at hg;exact absurd hg h
  |some a=>exact ⟨a,List.mem_of_getLast? hg,rfl⟩
 have hmem:∀y∈l1,y.h∉(e::m).map El.h:=λy hy hh=>by
  rw [List.map_append] at ndl;exact (List.nodup_append.1 ndl).2.2 y.h (List.mem_map.2 ⟨y,hy,rfl⟩) y.h hh rfl
 have hns:∀y∈e::m,y.h≠spot c l1:=λy hy h=>by
  by_cases hl:l1=[]
  ·subst hl;exact M.ne_c (h:=y.h) (List.mem_append_left _ (List.mem_append_left _ (List.mem_map.2 ⟨y,hy,rfl⟩))) h
  ·have⟨a,ha,e2⟩:=hsp hl;exact hmem a ha (by rw [<-e2,<-h];exact List.mem_map.2 ⟨y,hy,rfl⟩)
 have hperm:((l1++m).map El.h++e.h::x).Perm ((l1++e::m).map El.h++x):=by
  simp only [List.map_append,List.map_cons,List.append_assoc];refine List.Perm.append_left _ ?_;exact List.perm_middle
 have hlm:Link G.S m:=by
  have:=M.link
  clear hperm hns hmem hsp he ndl nd M
  induction l1 with
  |nil=>exact this.2
  |cons a l1 ih=>exact ih this.2
 by_cases hl:l1=[]
 ·subst hl;have⟨dr,sv,hv⟩:=M.lock;have⟨e1,e2,e3,e4,e5⟩:=V_acc2 hv (by simp) (λ_=>first m);have es:spot c []=c.h:=rfl;rw [es];refine ⟨by rw [e1],M.acc2 hv (by simp) ?_ ?_ hperm,λh=>?_,?_⟩
  ·rw [e2,if_pos rfl];exact ⟨dr,sv,rfl⟩
  ·exact Link.frame hlm λy hy=>by rw [e2,if_neg (show ¬y.h=c.h from hns y (List.mem_cons_of_mem _ hy))]
  ·by_cases hh:h=c.h
   ·exact .inr hh
   ·left;unfold val;rw [e2,if_neg hh]
  ·rw [e2,if_neg (M.ne_c he)]
 ·have⟨a,ha,es⟩:=hsp hl;have ham:a.h∈(l1++e::m).map El.h++x++G.q.map Wt.h:=List.mem_append_left _ (List.mem_append_left _ (List.mem_map.2 ⟨a,List.mem_append_left _ ha,rfl⟩));have⟨p,v,r,hv⟩:=M.alive ham;rw [<-es] at hv;have⟨e1,e2,e3,e4,e5⟩:=V_acc2 hv (by simp) (λ_=>first m);refine ⟨by rw [e1],M.acc2 hv (by simp) ?_ ?_ hperm,λh=>?_,?_⟩
  ·rw [e2,if_neg (by rw [es];exact (M.ne_c ham).symm)];have⟨dr,sv,h1⟩:=M.lock;refine ⟨dr,sv,?_⟩;rw [h1];obtain ⟨b,l1,rfl⟩:∃b l2,l1=b::l2:=by
    cases l1 with
    |nil=>exact absurd rfl hl
    |cons b l2=>exact ⟨b,l2,rfl⟩
   rfl
  ·refine Link.cut M.link ndl (λy hy hn=>by rw [e2,if_neg hn]) (λy hy=>hns y (List.mem_cons_of_mem _ hy)) (λp' v' r' h3 _=>?_) hlm;rw [hv] at h3;simp only [Option.some.injEq,List.cons.injEq,and_true] at h3;obtain ⟨rfl,rfl,rfl⟩:=h3;rw [e2,if_pos rfl];rfl
  ·left;unfold val;rw [e2];by_cases hh:h=spot c l1
   ·subst hh;rw [if_pos rfl,hv];rfl
   ·rw [if_neg hh]
  ·rw [e2,if_neg (hns e (by simp))]
theorem Mem.attach {h:Int}{k v:Wd}(M:Mem c cap G l (h::x) cnt)(hv:G.S.V h=some [k,v,first l]) :
  (G.S.acc c.h 2 true λ_=>BitVec.ofInt 64 h).1.2=true/\Mem c cap (G.mem (G.S.acc c.h 2 true λ_=>BitVec.ofInt 64 h).2) (⟨h,k⟩::l) x cnt/\
  ∀a,a≠c.h->(G.S.acc c.h 2 true λ_=>BitVec.ofInt 64 h).2.V a=G.S.V a:=by
 have⟨dr,sv,hc⟩:=M.lock;have⟨e1,e2,e3,e4,e5⟩:=V_acc2 hc (by simp) (λ_=>BitVec.ofInt 64 h);have hh:h≠c.h:=M.ne_c (List.mem_append_left _ (List.mem_append_right _ (by simp)));have same:∀a,a≠c.h->(G.S.acc c.h 2 true λ_=>BitVec.ofInt 64 h).2.V a=G.S.V a:=λa ha=>by rw [e2,if_neg ha]
 refine ⟨by rw [e1],M.acc2 hc (by simp) ?_ ?_ ?_,same⟩
 ·rw [e2,if_pos rfl];exact ⟨dr,sv,rfl⟩
 ·refine ⟨⟨v,?_⟩,M.link.frame λe he=>?_⟩
  ·show Sm.V _ h=_;rw [same h hh,hv]
  ·exact same _ (M.ne_c (List.mem_append_left _ (List.mem_append_left _ (List.mem_map.2 ⟨e,he,rfl⟩))))
 ·simp only [List.map_cons,List.cons_append];exact List.perm_middle.symm
end
section
variable {c:Lc} {cap:Cx} {G:Gr} {l:List El} {x:List Int} {cnt:Wd}
theorem filter_gone {q:List Wt}(nd:(q.map Wt.h).Nodup):((q.map Wt.h).filter λh=> !(gone q).contains h)=(kept q).map Wt.h:=by
 rw [List.filter_map]
 have:q.filter ((λh=> !(gone q).contains h)∘Wt.h)=kept q:=by
  refine List.filter_congr λw hw=>?_
  simp only [Function.comp];rw [Bool.eq_iff_iff];simp only [Bool.not_eq_true',List.contains_eq_mem,decide_eq_false_iff_not];rw [ne_iff];constructor
  ·intro h e;exact h (gone_mem.2 ⟨w,hw,e,rfl⟩)
  ·intro h e;exact gone_kept nd e (kept_mem.2 ⟨w,hw,h,rfl⟩)
 rw [this]
theorem swept_mem {G1:Gr}(p:Pre G1)(lock:∃dr,cap.dq dr/\G1.S.V c.h=some [dr,cap.sv,first l,cnt])(link:Link G1.S l)(len:∀h∈x++G1.q.map Wt.h,∃p q r,G1.S.V h=some [p,q,r])
  (perm:(G1.S.regs.map Reg.h).Perm (c.h::(l.map El.h++x++G1.q.map Wt.h)))(rng:∀h∈G1.S.regs.map Reg.h,1<=h/\h<=G1.S.made)(nd:(G1.S.regs.map Reg.h).Nodup)
  (made:0<=G1.S.made/\G1.S.made<2305843009213693952)(room:G1.S.room+3*(l.length+x.length+G1.q.length)=c.cap)(room0:0<=G1.S.room)(capb:c.cap<=20000)(bads:G1.S.bads=0) :
  Mem c cap G1.swept l x cnt/\∀h,G1.swept.S.V h≠none->G1.swept.S.V h=G1.S.V h:=by
 have nd2:=perm.nodup_iff.1 nd;have hV:∀h,G1.swept.S.V h=if h∈gone G1.q then none else G1.S.V h:=λh=>V_frees (gone G1.q) G1.S h
 have hgq:∀h∈gone G1.q,h∈G1.q.map Wt.h:=λh hh=>gone_sub hh
 have hng:∀h,h∈c.h::(l.map El.h++x)->h∉gone G1.q:=λh hh hg=>by
  have h2:(c.h::(l.map El.h++x))++G1.q.map Wt.h=c.h::(l.map El.h++x++G1.q.map Wt.h):=rfl;rw [<-h2] at nd2;exact (List.nodup_append.1 nd2).2.2 h hh h (hgq h hg) rfl
 have keys:G1.swept.S.regs.map Reg.h=(G1.S.regs.map Reg.h).filter λh=> !(gone G1.q).contains h:=frees_keys _ _
 have hkg:=kept_gone G1.q;have h3:∀h∈gone G1.q,G1.S.size h=3:=λh hh=>by
  have⟨a,b,d,hv⟩:=len h (List.mem_append_right _ (hgq h hh));rw [size_V hv];rfl
 have hroom:G1.swept.S.room=G1.S.room+3*(gone G1.q).length:=frees_room (gone G1.q) G1.S (gone_nd p.nd) h3 room0 (by omega);refine ⟨⟨p.swept,?_,?_,?_,?_,?_,?_,?_,?_,?_,capb,?_⟩,λh hn=>?_⟩
 ·rw [hV,if_neg (hng _ (List.mem_cons_self ..))];exact lock
 ·exact link.frame λe he=>by rw [hV,if_neg (hng _ (List.mem_cons_of_mem _ (List.mem_append_left _ (List.mem_map.2 ⟨e,he,rfl⟩))))]
 ·intro h hh;rcases List.mem_append.1 hh with hh|hh
  ·rw [hV,if_neg (hng _ (List.mem_cons_of_mem _ (List.mem_append_right _ hh)))];exact len h (List.mem_append_left _ hh)
  ·rw [hV,if_neg (λhg=>gone_kept p.nd hg hh)];exact len h (List.mem_append_right _ (kept_sub hh))
 ·rw [keys];refine (perm.filter _).trans ?_;rw [show (c.h::(l.map El.h++x++G1.q.map Wt.h))=(c.h::(l.map El.h++x))++G1.q.map Wt.h from rfl,List.filter_append,filter_gone p.nd]
  have:(c.h::(l.map El.h++x)).filter (λh=> !(gone G1.q).contains h)=c.h::(l.map El.h++x):=List.filter_eq_self.2 λh hh=>by
   have:=hng h hh
   simpa using this
  rw [this];exact List.Perm.refl _
 ·rw [keys];intro h hh
  have:=rng h (List.mem_filter.1 hh).1
  show 1<=h/\h<=(frees G1.S (gone G1.q)).made;rw [frees_made];exact this
 ·rw [keys];exact nd.filter _
 ·show 0<=(frees G1.S (gone G1.q)).made/\(frees G1.S (gone G1.q)).made<_;rw [frees_made];exact made
 ·rw [hroom];show G1.S.room+3*((gone G1.q).length:Int)+3*((l.length:Int)+x.length+(kept G1.q).length)=c.cap;omega
 ·rw [hroom];omega
 ·show (frees G1.S (gone G1.q)).bads=0;rw [frees_bads];exact bads
 ·rw [hV] at hn⊢;by_cases hg:h∈gone G1.q
  ·rw [if_pos hg] at hn;exact absurd rfl hn
  ·rw [if_neg hg]
theorem Mem.defer {h:Int}(M:Mem c cap G l (h::x) cnt)(b:Nat) :
  Mem c cap (G.defer h b).2 l x cnt/\(∀a,(G.defer h b).2.S.V a≠none->(G.defer h b).2.S.V a=G.S.V a)/\(G.defer h b).2.ins=G.ins/\(G.defer h b).2.q=kept (G.q++[⟨h,b,G.ins⟩]):=by
 have⟨p1,p2,p3,hv⟩:=M.len h (by simp);have hs:G.S.size h≠0:=by rw [size_V hv];simp
 have nd:=(List.nodup_cons.1 M.nd2).2;have hq:h∉G.q.map Wt.h:=λhh=>by
  exact (List.nodup_append.1 nd).2.2 h (List.mem_append_right _ (by simp)) h hh rfl
 have e:G.defer h b=(gone (G.add h b).q,(G.add h b).swept):=if_neg (by simp only [not_or];exact ⟨hs,hq⟩);rw [e];have hm:(G.add h b).q.map Wt.h=G.q.map Wt.h++[h]:=by show (G.q++[_]).map Wt.h=_;rw [List.map_append];rfl
 have hlen:((G.add h b).q.length:Int)=G.q.length+1:=by show ((G.q++[_]).length:Int)=_;simp
 have⟨M',f⟩:=swept_mem (c:=c) (cap:=cap) (l:=l) (x:=x) (cnt:=cnt) (M.ok.add (mb:=b) h hq) M.lock M.link (λa ha=>M.len a (by
   rw [hm] at ha;simp only [List.mem_append,List.mem_cons,List.not_mem_nil,or_false,List.cons_append] at ha⊢;rcases ha with ha|ha|ha
   ·exact .inr (.inl ha)
   ·exact .inr (.inr ha)
   ·exact .inl ha)) (M.perm.trans (by
   rw [hm];refine List.Perm.cons _ ?_;simp only [List.append_assoc,List.cons_append];refine List.Perm.append_left _ ?_
   have:(x++(G.q.map Wt.h++[h]))=(x++G.q.map Wt.h)++[h]:=by simp
   rw [this];exact (List.perm_append_comm (l₁:=[h]) (l₂:=x++G.q.map Wt.h))))
  M.rng M.nd M.made (by
   have:=M.room
   rw [hlen];simp only [List.length_cons] at this;show G.S.room+_=c.cap;omega) M.room0 M.capb M.bads
 exact ⟨M',f,rfl,rfl⟩
theorem Mem.leave (M:Mem c cap G l x cnt)(a:Int) :
  Mem c cap (G.leave a).2 l x cnt/\∀h,(G.leave a).2.S.V h≠none->(G.leave a).2.S.V h=G.S.V h:=by
 unfold Gr.leave;split
 ·have hm:(G.left a).q.map Wt.h=G.q.map Wt.h:=map_er a G.q;have hl:(G.left a).q.length=G.q.length:=by show (G.q.map (er a)).length=_;simp
  exact swept_mem M.ok.left M.lock M.link (by rw [hm];exact M.len) (by rw [hm];exact M.perm) M.rng M.nd M.made (by rw [hl];exact M.room) M.room0 M.capb M.bads
 ·exact ⟨M,λ_ _=>rfl⟩
theorem Mem.enter (M:Mem c cap G l x cnt)(a:Int):Mem c cap (G.enter a).2 l x cnt/\(G.enter a).2.S=G.S/\(G.enter a).2.q=G.q:=by
 have ok:=M.ok.enter (a:=a);have e1:(G.enter a).2.S=G.S:=by unfold Gr.enter;split<;>rfl
 have e2:(G.enter a).2.q=G.q:=by unfold Gr.enter;split<;>rfl
 refine ⟨⟨ok,?_,?_,?_,?_,?_,?_,?_,?_,?_,M.capb,?_⟩,e1,e2⟩
 ·rw [e1];exact M.lock
 ·rw [e1];exact M.link
 ·rw [e1,e2];exact M.len
 ·rw [e1,e2];exact M.perm
 ·rw [e1];exact M.rng
 ·rw [e1];exact M.nd
 ·rw [e1];exact M.made
 ·rw [e1,e2];exact M.room
 ·rw [e1];exact M.room0
 ·rw [e1];exact M.bads
theorem Mem.make (M:Mem c cap G l x cnt)(hm:G.S.made<2305843009213693951)(b:Nat) :
  (G.S.room<3/\G.S.make b 3=((0,5),G.S))∨
  (3<=G.S.room/\(G.S.make b 3).1=(G.S.made+1,0)/\Mem c cap (G.mem (G.S.make b 3).2) l ((G.S.made+1)::x) cnt/\(G.S.make b 3).2.V (G.S.made+1)=some [0,0,0]/\
   (∀h,h≠G.S.made+1->(G.S.make b 3).2.V h=G.S.V h)/\(G.S.make b 3).2.made=G.S.made+1):=by
 by_cases hr:G.S.room<3
 ·left;refine ⟨hr,?_⟩;unfold Sm.make;rw [if_neg (by omega),if_pos hr]
 ·right;have e:G.S.make b 3=((wr (G.S.made+1),0),G.S.mk' b 3):=by
   unfold Sm.make;rw [if_neg (by omega),if_neg hr];rfl
  have hv:=V_mk b 3 M.fresh;rw [M.wmade] at hv;rw [e];have emade:(G.S.mk' b 3).made=G.S.made+1:=M.wmade;have eroom:(G.S.mk' b 3).room=G.S.room - 3:=by
   show wr (G.S.room - ((3:Nat):Int))=_
   have:=M.room;have:=M.room0;have:=M.capb
   rw [wrs (by omega)];rfl
  have ekeys:(G.S.mk' b 3).regs.map Reg.h=G.S.regs.map Reg.h++[G.S.made+1]:=by
   show (G.S.regs++[_]).map Reg.h=_;rw [List.map_append];show _++[wr (G.S.made+1)]=_;rw [M.wmade]
  have hne:∀h∈G.S.regs.map Reg.h,h≠G.S.made+1:=λh hh e=>by have:=(M.rng h hh).2;omega
  have hold:∀h∈c.h::(l.map El.h++x++G.q.map Wt.h),h≠G.S.made+1:=λh hh=>hne h (M.perm.mem_iff.2 hh)
  refine ⟨by omega,by rw [M.wmade],⟨⟨⟨M.ok.ind,M.ok.nd,M.ok.ws⟩,M.ok.full⟩,?_,?_,?_,?_,?_,?_,?_,?_,?_,M.capb,M.bads⟩,?_,λh hh=>?_,emade⟩
  ·show ∃dr,cap.dq dr/\(G.S.mk' b 3).V c.h=_;rw [hv,if_neg (hold _ (List.mem_cons_self ..))];exact M.lock
  ·exact M.link.frame λe he=>by
    show (G.S.mk' b 3).V e.h=_;rw [hv,if_neg (hold _ (List.mem_cons_of_mem _ (List.mem_append_left _ (List.mem_append_left _ (List.mem_map.2 ⟨e,he,rfl⟩)))))]
  ·intro h hh;show ∃p q r,(G.S.mk' b 3).V h=_;by_cases e:h=G.S.made+1
   ·rw [hv,if_pos e];exact ⟨0,0,0,rfl⟩
   ·rw [hv,if_neg e];refine M.len h ?_;simp only [List.cons_append,List.mem_cons] at hh;exact hh.resolve_left e
  ·show ((G.S.mk' b 3).regs.map Reg.h).Perm _;rw [ekeys];refine (List.perm_append_comm.trans ((M.perm.cons (G.S.made+1)).trans ?_));show ((G.S.made+1)::c.h::_).Perm _;refine (List.Perm.swap _ _ _).trans (List.Perm.cons _ ?_);simp only [List.append_assoc,List.cons_append];exact List.perm_middle.symm
  ·show ∀h∈(G.S.mk' b 3).regs.map Reg.h,1<=h/\h<=(G.S.mk' b 3).made;rw [ekeys,emade];intro h hh
   have:=M.made
   rcases List.mem_append.1 hh with hh|hh
   ·have:=M.rng h hh;omega
   ·simp only [List.mem_singleton] at hh;omega
  ·show ((G.S.mk' b 3).regs.map Reg.h).Nodup;rw [ekeys];exact List.nodup_append.2 ⟨M.nd,by simp,λa ha b hb e=>by simp only [List.mem_singleton] at hb;exact hne a ha (e.trans hb)⟩
  ·show 0<=(G.S.mk' b 3).made/\(G.S.mk' b 3).made<_;rw [emade];have:=M.made;omega
  ·show (G.S.mk' b 3).room+_=c.cap;rw [eroom]
   have:=M.room
   simp only [List.length_cons];show G.S.room - 3+3*((l.length:Int)+((x.length+1:Nat):Int)+G.q.length)=c.cap;omega
  ·show 0<=(G.S.mk' b 3).room;rw [eroom];omega
  ·rw [hv,if_pos rfl];rfl
  ·show (G.S.mk' b 3).V h=_;rw [hv,if_neg hh]
end
section
variable {c:Lc} {cap:Cx} {G:Gr} {l la:List El} {x:List Int} {cnt:Wd} {I:Gr->Gr->Prop} {m0:Int} {P:Qr->Gr->List El->Prop} {n:Nat} {had:Bool} {q:Qr}
theorem val_same {S S':Sm}{a:Int}(h:S'.V a=S.V a):val S' a=val S a:=by unfold val;rw [h]
theorem keepV {S S':Sm}{a:Int}(h:S'.V a=S.V a)(hn:S'.V a≠none):S.V a≠none/\val S' a=val S a:=⟨by rw [<-h];exact hn,val_same h⟩
theorem V_keys {S:Sm}{a:Int}:S.V a≠none↔a∈S.regs.map Reg.h:=by
 unfold Sm.V;rw [ne_eq,Option.map_eq_none_iff];exact ⟨λh=>Classical.byContradiction λk=>h (find_none_iff.2 k),λh k=>find_none_iff.1 k h⟩
theorem keepA {S:Sm}{a h i:Int}{f:Wd->Wd}(hn:(S.acc h i true f).2.V a≠none):S.V a≠none:=by
 rw [V_keys,acc_keys] at hn;exact V_keys.2 hn
def Qr.res (q:Qr):Int×List Wd×Wd×Int:=(q.no,q.rv,q.rk,q.el)
def findK (la:List El)(k:Wd):Option El:=la.find? λe=>e.k==k
def rm (la:List El)(k:Wd):List El:=la.filter λe=>e.k !=k
def nearF (q:Qr)(b:Option Wd)(e:El):Option Wd:=
 if (q.fl=1∨q.ky.toNat<e.k.toNat)/\(match b with|none=>true|some w=>decide (e.k.toNat<w.toNat))=true then some e.k else b
def nearRes (q:Qr)(la:List El):Int×List Wd×Wd×Int:=match la.foldl (nearF q) none with|some k=>(0,[],k,0)|none=>(2,[],0,0)
def Eff (c:Lc)(m0:Int)(G:Gr)(q:Qr)(G':Gr)(la la':List El):Prop:=
 if q.vb.isSome then la'=la/\q.res=(0,[],0,0)/\q.keys=srt (la.map El.k) else
 if q.kd=4 then la'=la/\q.res=nearRes q la else
 match findK la q.ky with
 |some e=>
  if q.kd=2 then (if q.fl=1 then q.res=(3,[],0,0)/\la'=la else q.res=(0,[],0,0)/\la'=e::rm la q.ky/\val G'.S e.h=q.val)
  else if q.kd=1 then q.res=(0,[val G'.S e.h],0,e.h)/\la'=e::rm la q.ky/\G'.S.V e.h≠none
  else if q.kd=5 then q.res=(0,[val G'.S e.h],0,0)/\la'=rm la q.ky/\G'.S.V e.h≠none
  else q.res=(0,[],0,0)/\la'=rm la q.ky
 |none=>
  if q.kd≠2∨q.fl=2 then q.res=(2,[],0,0)/\la'=la
  else (q.res=(5,[],0,0)/\la'=la/\G.S.room<3)∨
   (q.res=(0,[],0,0)/\∃h,m0<h/\h<=G'.S.made/\h≠c.h/\la'=⟨h,q.ky⟩::(if (la.length:Int)<c.d1 then la else la.dropLast)/\val G'.S h=q.val)
structure Tr (c:Lc)(m0:Int)(had:Bool)(G:Gr)(q':Qr)(G':Gr)(la la':List El):Prop where
 no:q'.eff=false->la'=la
 yes:q'.eff=true->had=false/\Eff c m0 G q' G' la la'
 vals:∀h,(h<=m0∨had=true)->h≠c.h->G'.S.V h≠none->G.S.V h≠none/\((q'.eff=true/\q'.kd=2/\q'.fl≠1/\q'.vb=none/\∃e∈la,e.h=h/\e.k=q'.ky)∨val G'.S h=val G.S h)
 wait:had=false->q'.eff=false->G'.q=G.q
def Nz (c:Lc):Nx->Prop
 |.store h i _ _=>h≠c.h∨i≠0
 |.enter _ _=>False
 |_=>True
def Run (c:Lc)(cap:Cx)(I:Gr->Gr->Prop)(m0:Int)(P:Qr->Gr->List El->Prop):Nat->Bool->Qr->Gr->List El->Prop
 |0,_,_,_,_=>False
 |n+1,had,q,G,la=>q.dn=false/\q.nx≠.none/\Nz c q.nx/\(∃l x cnt,Mem c cap G l x cnt)/\∀G1,I G G1->G1.S.fresh/\G1.q.length<10000/\∀b,∃la',Tr c m0 had G1 (q.step c G1 b).1 (q.step c G1 b).2 la la'/\
   ((q.step c G1 b).1.dn=true->(had||(q.step c G1 b).1.eff)=true/\P (q.step c G1 b).1 (q.step c G1 b).2 la')/\
   ((q.step c G1 b).1.dn=false->Run c cap I m0 P n (had||(q.step c G1 b).1.eff) (q.step c G1 b).1 (q.step c G1 b).2 la')
theorem Run.mono:∀{n m:Nat}{had:Bool}{q:Qr}{G:Gr}{la:List El},Run c cap I m0 P n had q G la->n<=m->Run c cap I m0 P m had q G la
 |0,_,_,_,_,_,h,_=>h.elim
 |n+1,0,_,_,_,_,h,hm=>by omega
 |n+1,m+1,had,q,G,la,⟨h1,h2,hz,hM,h3⟩,hm=>⟨h1,h2,hz,hM,λG1 hi=>by
   have⟨h4,h5,h6⟩:=h3 G1 hi
   refine ⟨h4,h5,λb=>?_⟩
   have⟨la',t,h7,h8⟩:=h6 b
   exact ⟨la',t,h7,λhd=>(h8 hd).mono (by omega)⟩⟩
structure Rely (c:Lc)(cap:Cx)(m0:Int)(I:Gr->Gr->Prop):Prop where
 mem:∀{G G1:Gr}{l:List El}{x:List Int}{cnt:Wd},I G G1->Mem c cap G l x cnt->Mem c cap G1 l x cnt
 made:∀{G G1:Gr},I G G1->G1.S.made=G.S.made
 words:∀{G G1:Gr}{l:List El}{x:List Int}{cnt:Wd}{h:Int}{p v r:Wd},I G G1->Mem c cap G l x cnt->h∈l.map El.h++x->G.S.V h=some [p,v,r]->∃v',G1.S.V h=some [p,v',r]/\(m0<h->v'=v)
variable (hr:Rely c cap m0 I)
include hr
theorem Run.intro (M:Mem c cap G l x cnt){nx0:Nx}(hd:q.dn=false)(hn:q.nx=nx0)(hne:nx0≠.none)(hz:Nz c nx0)
  (h:∀G1,I G G1->Mem c cap G1 l x cnt->G1.S.made=G.S.made->∀b,∃la',Tr c m0 had G1 (doNx c nx0 {q with eff:=false} G1 b).1 (doNx c nx0 {q with eff:=false} G1 b).2 la la'/\
   ((doNx c nx0 {q with eff:=false} G1 b).1.dn=true->(had||(doNx c nx0 {q with eff:=false} G1 b).1.eff)=true/\P (doNx c nx0 {q with eff:=false} G1 b).1 (doNx c nx0 {q with eff:=false} G1 b).2 la')/\
   ((doNx c nx0 {q with eff:=false} G1 b).1.dn=false->Run c cap I m0 P n (had||(doNx c nx0 {q with eff:=false} G1 b).1.eff) (doNx c nx0 {q with eff:=false} G1 b).1 (doNx c nx0 {q with eff:=false} G1 b).2 la')):Run c cap I m0 P (n+1) had q G la:=by
 refine ⟨hd,by rw [hn];exact hne,by rw [hn];exact hz,⟨_,_,_,M⟩,λG1 hi=>?_⟩;have M1:=hr.mem hi M;refine ⟨M1.fresh,M1.qlen,λb=>?_⟩
 have:=h G1 hi M1 (hr.made hi) b
 have e:q.step c G1 b=doNx c nx0 {q with eff:=false} G1 b:=by
  unfold Qr.step;rw [if_neg (by rw [hd];exact Bool.false_ne_true),hn]
 rw [e];exact this
def After (c:Lc)(cap:Cx)(I:Gr->Gr->Prop)(m0:Int)(P:Qr->Gr->List El->Prop)(n:Nat)(had:Bool)(q':Qr)(G':Gr)(la:List El):Prop:=
 (q'.dn=true->had=true/\P q' G' la)/\(q'.dn=false->Run c cap I m0 P n had q' G' la)
omit hr in
theorem After.run {q':Qr}{G':Gr}(hd:q'.dn=false)(h:Run c cap I m0 P n had q' G' la):After c cap I m0 P n had q' G' la:=⟨(λh2=>by rw [hd] at h2;cases h2),λ_=>h⟩
omit hr in
theorem After.mono {k:Nat}{q':Qr}{G':Gr}(h:After c cap I m0 P n had q' G' la)(hk:n<=k):After c cap I m0 P k had q' G' la:=⟨h.1,λhd=>(h.2 hd).mono hk⟩
theorem Run.quiet (M:Mem c cap G l x cnt){nx0:Nx}(hd:q.dn=false)(hn:q.nx=nx0)(hne:nx0≠.none)(hz:Nz c nx0)
  (h:∀G1,I G G1->Mem c cap G1 l x cnt->G1.S.made=G.S.made->∀b,∃q' G',doNx c nx0 {q with eff:=false} G1 b=(q',G')/\q'.eff=false/\
   (∀a,(a<=m0∨had=true)->a≠c.h->G'.S.V a≠none->G1.S.V a≠none/\val G'.S a=val G1.S a)/\(had=true∨G'.q=G1.q)/\After c cap I m0 P n had q' G' la):Run c cap I m0 P (n+1) had q G la:=by
 refine Run.intro hr M hd hn hne hz λG1 hi M1 em b=>?_
 have⟨q',G',e,h1,h3,h5,h4⟩:=h G1 hi M1 em b;rw [e];refine ⟨la,⟨λ_=>rfl,(λh=>by rw [h1] at h;cases h),λa ha hc hv=>⟨(h3 a ha hc hv).1,.inr (h3 a ha hc hv).2⟩,λhh _=>h5.resolve_left (by rw [hh];exact Bool.false_ne_true)⟩,?_⟩;show (q'.dn=true->(had||q'.eff)=true/\P q' G' la)/\(q'.dn=false->Run c cap I m0 P n (had||q'.eff) q' G' la);rw [h1,Bool.or_false];exact h4
theorem Run.effect (M:Mem c cap G l x cnt){nx0:Nx}(hd:q.dn=false)(hn:q.nx=nx0)(hne:nx0≠.none)(hz:Nz c nx0)
  (h:∀G1,I G G1->Mem c cap G1 l x cnt->G1.S.made=G.S.made->∀b,∃q' G' la',doNx c nx0 {q with eff:=false} G1 b=(q',G')/\q'.eff=true/\Eff c m0 G1 q' G' la la'/\
   (∀a,a<=m0->a≠c.h->G'.S.V a≠none->G1.S.V a≠none/\((q'.kd=2/\q'.fl≠1/\q'.vb=none/\∃e∈la,e.h=a/\e.k=q'.ky)∨val G'.S a=val G1.S a))/\After c cap I m0 P n true q' G' la'):Run c cap I m0 P (n+1) false q G la:=by
 refine Run.intro hr M hd hn hne hz λG1 hi M1 em b=>?_
 have⟨q',G',la',e,h1,h5,h3,h4⟩:=h G1 hi M1 em b;rw [e];refine ⟨la',⟨(λh=>by rw [h1] at h;cases h),λ_=>⟨rfl,h5⟩,λa ha hc hv=>have ha:=ha.resolve_right (λh=>by cases h);⟨(h3 a ha hc hv).1,(h3 a ha hc hv).2.imp (λ⟨x,y⟩=>⟨h1,x,y⟩) id⟩,(λ_ h=>by rw [h1] at h;cases h)⟩,?_⟩;show (q'.dn=true->(false||q'.eff)=true/\P q' G' la')/\(q'.dn=false->Run c cap I m0 P n (false||q'.eff) q' G' la');rw [h1];exact h4
omit hr in
theorem addF_eq (w a:Wd):addF w a=a+w:=by
 unfold addF fetchF ones;rw [under_all];show (a&&&BitVec.allOnes 64)+(w&&&BitVec.allOnes 64)=a+w;rw [BitVec.and_allOnes,BitVec.and_allOnes]
omit hr in
theorem val_of {S:Sm}{a:Int}{p v r:Wd}(h:S.V a=some [p,v,r]):val S a=v:=by unfold val;rw [h];rfl
def lenW (l:List El):Wd:=BitVec.ofNat 64 l.length
def PM (c:Lc)(cap:Cx)(q:Qr)(G:Gr)(la:List El):Prop:=Mem c (if q.st then cap else cap.next) G la [] (lenW la)
abbrev RunM (c:Lc)(cap:Cx)(I:Gr->Gr->Prop)(m0:Int):=Run c cap I m0 (PM c cap)
abbrev AfM (c:Lc)(cap:Cx)(I:Gr->Gr->Prop)(m0:Int):=After c cap I m0 (PM c cap)
def Qr.ob (q:Qr):Int×Wd×Int×Wd×Option Nat×List Wd×Int×List Wd×Wd×Int:=(q.kd,q.ky,q.fl,q.val,q.vb,q.keys,q.no,q.rv,q.rk,q.el)
omit hr in
theorem Eff.ob {q':Qr}{G':Gr}{la':List El}(h:q'.ob=q.ob)(he:Eff c m0 G q G' la la'):Eff c m0 G q' G' la la':=by
 simp only [Qr.ob,Prod.mk.injEq] at h;have⟨h1,h2,h3,h4,h5,h6,h7,h8,h9,h10⟩:=h;have er:q'.res=q.res:=by unfold Qr.res;rw [h7,h8,h9,h10]
 have en:nearRes q' la=nearRes q la:=by
  have:nearF q'=nearF q:=by funext b e;unfold nearF;rw [h2,h3]
  unfold nearRes;rw [this]
 unfold Eff at he⊢;rw [h1,h2,h3,h4,h5,h6,er,en];exact he
omit hr in
theorem away_ob:q.away.ob=q.ob/\q.away.eff=q.eff/\q.away.st=q.st:=by unfold Qr.away;split<;>exact ⟨rfl,rfl,rfl⟩
omit hr in
theorem away_kd:q.away.kd=q.kd/\q.away.ky=q.ky/\q.away.fl=q.fl/\q.away.vb=q.vb:=by unfold Qr.away;split<;>exact ⟨rfl,rfl,rfl,rfl⟩
theorem Run.dropM (M:Mem c cap G la [] (lenW la))(hd:q.dn=false)(hs:q.st=false)(hn:q.nx=.drop):RunM c cap I m0 1 true q G la:=by
 refine Run.intro hr M hd hn (λh=>by cases h) trivial λG1 hi M1 em b=>?_
 have⟨M2,same⟩:=M1.served (addF 1) (by rw [addF_eq]);refine ⟨la,⟨λ_=>rfl,(λh=>by cases h),λa ha hc hv=>?_,(λh=>by cases h)⟩,λ_=>⟨rfl,?_⟩,(λh=>by cases h)⟩
 ·have⟨x1,x2⟩:=keepV (same a hc) hv;exact ⟨x1,.inr x2⟩
 ·unfold PM;rw [if_neg (show ¬((doNx c .drop {q with eff:=false} G1 b).1.st=true) from by show ¬q.st=true;rw [hs];exact Bool.false_ne_true)];exact M2
theorem After.away (M:Mem c cap G la [] (lenW la))(hd:q.dn=false):AfM c cap I m0 1 true q.away G la:=by
 by_cases hs:q.st=true
 ·have e:q.away={q with dn:=true}:=if_pos hs;rw [e];refine ⟨λ_=>⟨rfl,?_⟩,(λh=>by cases h)⟩;unfold PM;rw [if_pos (show ({q with dn:=true}:Qr).st=true from hs)];exact M
 ·have e:q.away={q with nx:=.drop}:=if_neg hs;rw [e];exact After.run hd (Run.dropM hr M hd (show q.st=false by simpa using hs) rfl)
theorem After.awayN (M:Mem c cap G la [] (lenW la))(hd:q.dn=false):AfM c cap I m0 (n+1) true q.away G la:=After.mono (After.away hr M hd) (Nat.le_add_left 1 n)
theorem Run.moreM {w:Wd}(M:Mem c cap G la [] cnt)(hw:cnt+w=lenW la)(hd:q.dn=false)(hn:q.nx=.more w):RunM c cap I m0 2 true q G la:=by
 refine Run.quiet hr M hd hn (λh=>by cases h) trivial λG1 hi M1 em b=>?_
 have⟨e1,M2,same⟩:=M1.accC (addF w);rw [addF_eq,hw] at M2;exact ⟨({q with eff:=false}:Qr).away,_,rfl,away_ob.2.1,λa ha hc hv=>keepV (same a hc) hv,.inl rfl,After.away hr M2 hd⟩
end
section
variable {c:Lc} {cap:Cx} {G:Gr} {l l1 m:List El} {e:El} {I:Gr->Gr->Prop} {m0:Int} {q:Qr}
variable (hr:Rely c cap m0 I)
include hr
theorem Run.headAway {h:Int}{k v:Wd}(M:Mem c cap G l [h] (lenW (⟨h,k⟩::l)))(hv:G.S.V h=some [k,v,first l])(hd:q.dn=false)(hn:q.nx=.store c.h 2 (BitVec.ofInt 64 h) .away) :
  RunM c cap I m0 2 true q G (⟨h,k⟩::l):=by
 refine Run.quiet hr M hd hn (λh=>by cases h) (by first|trivial|exact .inr (by decide)) λG1 hi M1 em b=>?_
 have⟨v',hv1,_⟩:=hr.words hi M (by simp) hv;have⟨_,M2,same⟩:=M1.attach hv1;exact ⟨({q with eff:=false}:Qr).away,_,rfl,away_ob.2.1,λa ha hc hn=>keepV (same a hc) hn,.inl rfl,After.away hr M2 hd⟩
theorem Run.stAway {h:Int}{k v r:Wd}(M:Mem c cap G l [h] (lenW (⟨h,k⟩::l)))(hv:G.S.V h=some [k,v,r])(hd:q.dn=false)(hn:q.nx=.store h 2 (first l) (.head h .away)) :
  RunM c cap I m0 3 true q G (⟨h,k⟩::l):=by
 refine Run.quiet hr M hd hn (λh=>by cases h) (by first|trivial|exact .inr (by decide)) λG1 hi M1 em b=>?_
 have⟨v',hv1,_⟩:=hr.words hi M (by simp) hv;have⟨_,M2,V2⟩:=M1.stX (i:=2) hv1 (by simp) (by simp) (first l);refine ⟨{q with eff:=false,nx:=.store c.h 2 (BitVec.ofInt 64 h) .away},G1.mem (G1.S.acc h (2:Nat) true λ_=>first l).2,rfl,rfl,λa ha hc hn=>⟨keepA hn,?_⟩,.inl rfl,?_⟩
 ·show val (G1.S.acc h (2:Nat) true λ_=>first l).2 a=_;unfold val;rw [V2];by_cases e:a=h
  ·subst e;rw [if_pos rfl,hv1];rfl
  ·rw [if_neg e]
 ·refine After.run hd (Run.headAway hr (v:=v') M2 ?_ hd rfl);show (G1.S.acc h (2:Nat) true λ_=>first l).2.V h=_;rw [V2,if_pos rfl];rfl
theorem Run.youngAway {h:Int}{k v r:Wd}(M:Mem c cap G l [h] (lenW (⟨h,k⟩::l)))(hv:G.S.V h=some [k,v,r])(hd:q.dn=false)(hn:q.nx=.load c.h 2 (.young h .away)) :
  RunM c cap I m0 4 true q G (⟨h,k⟩::l):=by
 refine Run.quiet hr M hd hn (λh=>by cases h) (by first|trivial|exact .inr (by decide)) λG1 hi M1 em b=>?_
 have⟨v',hv1,_⟩:=hr.words hi M (by simp) hv;have⟨dr,sv,hc⟩:=M1.lock;have⟨e1,M2,same⟩:=M1.load (i:=2) hc (by simp);have e1:(G1.S.acc c.h 2 true id).1.1=first l:=e1
 refine ⟨{q with eff:=false,nx:=.store h 2 (first l) (.head h .away)},G1.mem (G1.S.acc c.h (2:Nat) true id).2,by rw [<-e1];rfl,rfl,λa ha hc hn=>keepV (same a) hn,.inl rfl,?_⟩;exact After.run hd (Run.stAway hr (v:=v') (r:=r) M2 (by rw [<-hv1];exact same h) hd rfl)
theorem Run.unlUsed (M:Mem c cap G (l1++e::m) [] (lenW (l1++e::m)))(ha:q.ah=spot c l1)(hi':q.ai=2)(hc:q.cur=e.h)(hd:q.dn=false)(hn:q.nx=.store q.ah q.ai (first m) .used) :
  RunM c cap I m0 5 true q G (e::(l1++m)):=by
 rw [ha,hi'] at hn;refine Run.quiet hr M hd hn (λh=>by cases h) (by first|trivial|exact .inr (by decide)) λG1 hi M1 em b=>?_
 have⟨p,v,r,hv⟩:=M1.alive (h:=e.h) (List.mem_append_left _ (List.mem_append_left _ (by simp)));have⟨v0,hv0⟩:=M1.link.at';have⟨_,M2,vs,ve⟩:=M1.unlink;refine ⟨{q with eff:=false,nx:=.load c.h 2 (.young e.h .away)},G1.mem (G1.S.acc (spot c l1) 2 true λ_=>first m).2,by rw [<-hc];rfl,rfl,λa ha hcc hn=>⟨keepA hn,(vs a).resolve_right hcc⟩,.inl rfl,?_⟩;have el:lenW (l1++e::m)=lenW (⟨e.h,e.k⟩::(l1++m)):=congrArg (BitVec.ofNat 64) (by rw [List.length_cons,List.length_append,List.length_append,List.length_cons];rfl);rw [el] at M2;exact After.run hd (Run.youngAway hr (v:=v0) (r:=first m) M2 (by rw [<-hv0];exact ve) hd rfl)
theorem Run.ldUsed (M:Mem c cap G (l1++e::m) [] (lenW (l1++e::m)))(ha:q.ah=spot c l1)(hi':q.ai=2)(hc:q.cur=e.h)(hd:q.dn=false)(hn:q.nx=.load e.h 2 (.unl .used)) :
  RunM c cap I m0 6 true q G (e::(l1++m)):=by
 refine Run.quiet hr M hd hn (λh=>by cases h) (by first|trivial|exact .inr (by decide)) λG1 hi M1 em b=>?_
 have⟨v0,hv0⟩:=M1.link.at';have⟨e1,M2,same⟩:=M1.load (i:=2) hv0 (by simp);have e1:(G1.S.acc e.h 2 true id).1.1=first m:=e1
 refine ⟨{q with eff:=false,nx:=.store q.ah q.ai (first m) .used},G1.mem (G1.S.acc e.h (2:Nat) true id).2,by rw [<-e1];rfl,rfl,λa ha hc hn=>keepV (same a) hn,.inl rfl,?_⟩;exact After.run hd (Run.unlUsed hr M2 ha hi' hc hd rfl)
omit hr in
theorem used_ob:(q.used c).ob=q.ob/\(q.used c).eff=q.eff/\(q.used c).kd=q.kd/\(q.used c).ky=q.ky/\(q.used c).fl=q.fl/\(q.used c).vb=q.vb:=by
 unfold Qr.used;split
 ·exact ⟨away_ob.1,away_ob.2.1,away_kd.1,away_kd.2.1,away_kd.2.2.1,away_kd.2.2.2⟩
 ·exact ⟨rfl,rfl,rfl,rfl,rfl,rfl⟩
theorem Run.used (M:Mem c cap G (l1++e::m) [] (lenW (l1++e::m)))(ha:q.ah=spot c l1)(hi':q.ai=2)(hc:q.cur=e.h)(hd:q.dn=false) :
  AfM c cap I m0 6 true (q.used c) G (e::(l1++m)):=by
 by_cases hl:l1=[]
 ·subst hl;have e1:q.used c=q.away:=by
   unfold Qr.used;rw [if_pos ⟨ha,hi'⟩]
  rw [e1];exact After.awayN hr M hd
 ·have hne:spot c l1≠c.h:=by
   unfold spot;cases hg:l1.getLast? with
   |none=>rw [List.getLast?_eq_none_iff] at hg;exact absurd hg hl
   |some a=>exact M.ne_c (List.mem_append_left _ (List.mem_append_left _ (List.mem_map.2 ⟨a,List.mem_append_left _ (List.mem_of_getLast? hg),rfl⟩)))
  have e1:q.used c={q with nx:=.load q.cur 2 (.unl .used)}:=by
   unfold Qr.used;rw [if_neg (λh=>hne (by rw [<-ha];exact h.1))];rfl
  rw [e1];exact After.run hd (Run.ldUsed hr M ha hi' hc hd (by rw [<-hc]))
omit hr in
theorem lenW_less:lenW (l1++e::m)+ones=lenW (l1++m):=by
 have e1:(l1++e::m).length=(l1++m).length+1:=by rw [List.length_append,List.length_append,List.length_cons];rfl
 unfold lenW ones;rw [e1,BitVec.ofNat_add,BitVec.add_assoc]
 have:(BitVec.ofNat 64 1+BitVec.allOnes 64)=0#64:=by decide
 rw [this,BitVec.add_zero]
theorem Run.unlTake (M:Mem c cap G (l1++e::m) [] (lenW (l1++e::m)))(ha:q.ah=spot c l1)(hi':q.ai=2)(hc:q.cur=e.h)(hd:q.dn=false)(hn:q.nx=.store q.ah q.ai (first m) .takeEnd) :
  RunM c cap I m0 3 true q G (l1++m):=by
 rw [ha,hi'] at hn;refine Run.quiet hr M hd hn (λh=>by cases h) (by first|trivial|exact .inr (by decide)) λG1 hi M1 em b=>?_
 have⟨_,M2,vs,ve⟩:=M1.unlink;have⟨M3,f3,_,_⟩:=M2.defer b;refine ⟨{q with eff:=false,nx:=.more ones},((G1.mem (G1.S.acc (spot c l1) 2 true λ_=>first m).2).defer e.h b).2,by rw [<-hc];rfl,rfl,λa ha hcc hn=>?_,.inl rfl,?_⟩
 ·have⟨x1,x2⟩:=keepV (f3 a hn) hn;exact ⟨keepA x1,x2.trans ((vs a).resolve_right hcc)⟩
 ·exact After.run hd (Run.moreM hr M3 lenW_less hd rfl)
theorem Run.ldTake2 (M:Mem c cap G (l1++e::m) [] (lenW (l1++e::m)))(ha:q.ah=spot c l1)(hi':q.ai=2)(hc:q.cur=e.h)(hd:q.dn=false)(hn:q.nx=.load e.h 2 (.unl .takeEnd)) :
  RunM c cap I m0 4 true q G (l1++m):=by
 refine Run.quiet hr M hd hn (λh=>by cases h) (by first|trivial|exact .inr (by decide)) λG1 hi M1 em b=>?_
 have⟨v0,hv0⟩:=M1.link.at';have⟨e1,M2,same⟩:=M1.load (i:=2) hv0 (by simp);have e1:(G1.S.acc e.h 2 true id).1.1=first m:=e1
 refine ⟨{q with eff:=false,nx:=.store q.ah q.ai (first m) .takeEnd},G1.mem (G1.S.acc e.h (2:Nat) true id).2,by rw [<-e1];rfl,rfl,λa ha hc hn=>keepV (same a) hn,.inl rfl,?_⟩;exact After.run hd (Run.unlTake hr M2 ha hi' hc hd rfl)
omit hr in
theorem findK_at {k:Wd}(h1:∀y∈l1,y.k≠k)(he:e.k=k):findK (l1++e::m) k=some e:=by
 unfold findK;rw [List.find?_append]
 have:l1.find? (λe=>e.k==k)=none:=List.find?_eq_none.2 λy hy=>by simpa using h1 y hy
 rw [this,List.find?_cons_of_pos (by simpa using he)];rfl
omit hr in
theorem rm_at {k:Wd}(h1:∀y∈l1,y.k≠k)(he:e.k=k)(h2:∀y∈m,y.k≠k):rm (l1++e::m) k=l1++m:=by
 unfold rm;rw [List.filter_append,List.filter_cons_of_neg (by simpa using he)];rw [List.filter_eq_self.2 λy hy=>by simpa using h1 y hy,List.filter_eq_self.2 λy hy=>by simpa using h2 y hy]
structure At (c:Lc)(q:Qr)(l1:List El)(e:El)(m:List El):Prop where
 ah:q.ah=spot c l1
 ai:q.ai=2
 cur:q.cur=e.h
 dn:q.dn=false
 vb:q.vb=none
 k1:∀y∈l1,y.k≠q.ky
 ke:e.k=q.ky
 k2:∀y∈m,y.k≠q.ky
omit hr in
theorem Eff.at (hA:At c q l1 e m){q':Qr}{G':Gr}{la':List El}(hk4:q'.kd≠4)(hv:q'.vb=none)(hy:q'.ky=q.ky)
  (h:if q'.kd=2 then (if q'.fl=1 then q'.res=(3,[],0,0)/\la'=l1++e::m else q'.res=(0,[],0,0)/\la'=e::(l1++m)/\val G'.S e.h=q'.val)
   else if q'.kd=1 then q'.res=(0,[val G'.S e.h],0,e.h)/\la'=e::(l1++m)/\G'.S.V e.h≠none
   else if q'.kd=5 then q'.res=(0,[val G'.S e.h],0,0)/\la'=l1++m/\G'.S.V e.h≠none
   else q'.res=(0,[],0,0)/\la'=l1++m):Eff c m0 G q' G' (l1++e::m) la':=by
 unfold Eff;rw [hv,hy,if_neg (by simp),if_neg hk4,findK_at hA.k1 hA.ke,rm_at hA.k1 hA.ke hA.k2];exact h
theorem Run.look (M:Mem c cap G (l1++e::m) [] (lenW (l1++e::m)))(hA:At c q l1 e m)(hk:q.kd=1)(hn:q.nx=.load e.h 1 .look) :
  RunM c cap I m0 7 false q G (l1++e::m):=by
 refine Run.effect hr M hA.dn hn (λh=>by cases h) trivial λG1 hi M1 em b=>?_
 have⟨v0,hv0⟩:=M1.link.at';have⟨e1,M2,same⟩:=M1.load (i:=1) hv0 (by simp);have e1:(G1.S.acc e.h 1 true id).1.1=v0:=e1;refine ⟨(({q with eff:=false}:Qr).give 0 [v0] 0 q.cur).used c,G1.mem (G1.S.acc e.h (1:Nat) true id).2,e::(l1++m),by rw [<-e1];rfl,used_ob.2.1,?_,λa ha hc hn=>⟨(keepV (same a) hn).1,.inr (val_same (same a))⟩,Run.used hr M2 hA.ah hA.ai hA.cur hA.dn⟩;refine Eff.ob used_ob.1 (Eff.at hA (show q.kd≠4 by rw [hk];decide) hA.vb rfl ?_);show if q.kd=2 then _ else _;rw [if_neg (by rw [hk];decide)];show if q.kd=1 then _ else _;rw [if_pos hk];refine ⟨?_,rfl,by rw [show (G1.mem (G1.S.acc e.h (1:Nat) true id).2).S.V e.h=_ from (same e.h).trans hv0];simp⟩;show ((0:Int),[v0],(0:Wd),q.cur)=_
 have:val (G1.S.acc e.h (1:Nat) true id).2 e.h=v0:=val_of (by rw [same];exact hv0)
 rw [hA.cur];show _=((0:Int),[val (G1.S.acc e.h (1:Nat) true id).2 e.h],(0:Wd),e.h);rw [this]
theorem Run.upd (M:Mem c cap G (l1++e::m) [] (lenW (l1++e::m)))(hA:At c q l1 e m)(hk:q.kd=2)(hf:q.fl≠1)(hn:q.nx=.store e.h 1 q.val .upd) :
  RunM c cap I m0 7 false q G (l1++e::m):=by
 refine Run.effect hr M hA.dn hn (λh=>by cases h) (.inr (by decide)) λG1 hi M1 em b=>?_
 have⟨v0,hv0⟩:=M1.link.at';have⟨e1,M2,V2⟩:=M1.stVal hv0 (List.mem_append_left _ (List.mem_append_left _ (by simp))) q.val;refine ⟨(({q with eff:=false}:Qr).give 0 [] 0 0).used c,G1.mem (G1.S.acc e.h 1 true λ_=>q.val).2,e::(l1++m),rfl,used_ob.2.1,?_,λa ha hc hn=>⟨keepA hn,?_⟩,Run.used hr M2 hA.ah hA.ai hA.cur hA.dn⟩
 ·refine Eff.ob used_ob.1 (Eff.at hA (show q.kd≠4 by rw [hk];decide) hA.vb rfl ?_);show if q.kd=2 then _ else _;rw [if_pos hk];show if q.fl=1 then _ else _;rw [if_neg hf];have hV:(G1.S.acc e.h 1 true λ_=>q.val).2.V e.h=some [e.k,q.val,first m]:=by rw [V2,if_pos rfl]
  exact ⟨rfl,rfl,val_of hV⟩
 ·by_cases ea:a=e.h
  ·left;rw [used_ob.2.2.1,used_ob.2.2.2.1,used_ob.2.2.2.2.1,used_ob.2.2.2.2.2];exact ⟨hk,hf,hA.vb,e,by simp,ea.symm,hA.ke⟩
  ·right;refine val_same ?_;show (G1.S.acc e.h 1 true λ_=>q.val).2.V a=_;rw [V2,if_neg ea]
theorem Run.take (M:Mem c cap G (l1++e::m) [] (lenW (l1++e::m)))(hA:At c q l1 e m)(hk:q.kd=5)(hn:q.nx=.load e.h 1 .take) :
  RunM c cap I m0 5 false q G (l1++e::m):=by
 refine Run.effect hr M hA.dn hn (λh=>by cases h) trivial λG1 hi M1 em b=>?_
 have⟨v0,hv0⟩:=M1.link.at';have⟨e1,M2,same⟩:=M1.load (i:=1) hv0 (by simp);have e1:(G1.S.acc e.h 1 true id).1.1=v0:=e1;refine ⟨(({q with eff:=false}:Qr).give 0 [v0] 0 0).unlink .takeEnd,G1.mem (G1.S.acc e.h (1:Nat) true id).2,l1++m,by rw [<-e1];rfl,rfl,?_,λa ha hc hn=>⟨(keepV (same a) hn).1,.inr (val_same (same a))⟩,?_⟩
 ·refine Eff.at hA (show q.kd≠4 by rw [hk];decide) hA.vb rfl ?_;show if q.kd=2 then _ else _;rw [if_neg (by rw [hk];decide)];show if q.kd=1 then _ else _;rw [if_neg (by rw [hk];decide)];show if q.kd=5 then _ else _;rw [if_pos hk];refine ⟨?_,rfl,by rw [show (G1.mem (G1.S.acc e.h (1:Nat) true id).2).S.V e.h=_ from (same e.h).trans hv0];simp⟩
  have:val (G1.S.acc e.h (1:Nat) true id).2 e.h=v0:=val_of (by rw [same];exact hv0)
  show ((0:Int),[v0],(0:Wd),(0:Int))=((0:Int),[val (G1.S.acc e.h (1:Nat) true id).2 e.h],(0:Wd),(0:Int));rw [this]
 ·refine After.run hA.dn (Run.ldTake2 hr M2 hA.ah hA.ai hA.cur hA.dn ?_);show Nx.load q.cur 2 _=_;rw [hA.cur]
theorem Run.unlDel (M:Mem c cap G (l1++e::m) [] (lenW (l1++e::m)))(hA:At c q l1 e m)(hk:q.kd≠1/\q.kd≠2/\q.kd≠4/\q.kd≠5)(hn:q.nx=.store q.ah q.ai (first m) .delEnd) :
  RunM c cap I m0 3 false q G (l1++e::m):=by
 rw [hA.ah,hA.ai] at hn;refine Run.effect hr M hA.dn hn (λh=>by cases h) (.inr (by decide)) λG1 hi M1 em b=>?_
 have⟨_,M2,vs,ve⟩:=M1.unlink;have⟨M3,f3,_,_⟩:=M2.defer b;refine ⟨(({q with eff:=false}:Qr).give 0 [] 0 0).more ones,((G1.mem (G1.S.acc (spot c l1) 2 true λ_=>first m).2).defer e.h b).2,l1++m,by rw [<-hA.cur];rfl,rfl,?_,λa ha hcc hn=>?_,?_⟩
 ·refine Eff.at hA hk.2.2.1 hA.vb rfl ?_;show if q.kd=2 then _ else _;rw [if_neg hk.2.1];show if q.kd=1 then _ else _;rw [if_neg hk.1];show if q.kd=5 then _ else _;rw [if_neg hk.2.2.2];exact ⟨rfl,rfl⟩
 ·have⟨x1,x2⟩:=keepV (f3 a hn) hn;exact ⟨keepA x1,.inr (x2.trans ((vs a).resolve_right hcc))⟩
 ·exact After.run hA.dn (Run.moreM hr M3 lenW_less hA.dn rfl)
theorem Run.ldDel (M:Mem c cap G (l1++e::m) [] (lenW (l1++e::m)))(hA:At c q l1 e m)(hk:q.kd≠1/\q.kd≠2/\q.kd≠4/\q.kd≠5)(hn:q.nx=.load e.h 2 (.unl .delEnd)) :
  RunM c cap I m0 4 false q G (l1++e::m):=by
 refine Run.quiet hr M hA.dn hn (λh=>by cases h) trivial λG1 hi M1 em b=>?_
 have⟨v0,hv0⟩:=M1.link.at';have⟨e1,M2,same⟩:=M1.load (i:=2) hv0 (by simp);have e1:(G1.S.acc e.h 2 true id).1.1=first m:=e1
 refine ⟨{q with eff:=false,nx:=.store q.ah q.ai (first m) .delEnd},G1.mem (G1.S.acc e.h (2:Nat) true id).2,by rw [<-e1];rfl,rfl,λa ha hc hn=>keepV (same a) hn,.inr rfl,?_⟩;exact After.run hA.dn (Run.unlDel hr M2 ⟨hA.ah,hA.ai,hA.cur,hA.dn,hA.vb,hA.k1,hA.ke,hA.k2⟩ hk rfl)
end
section
variable {c:Lc} {cap:Cx} {G:Gr} {l la l1 m:List El} {e:El} {x:List Int} {cnt:Wd} {I:Gr->Gr->Prop} {m0:Int} {q:Qr}
variable (hr:Rely c cap m0 I)
include hr
inductive Lay (c:Lc)(l:List El):KS->List Int->List El->Wd->Prop where
 |one (h:(l.length:Int)<c.d1):Lay c l .abs1 [] l (lenW l)
 |last {a:El}(h:¬((l++[a]).length:Int)<c.d1):Lay c l (.absDef a.h) [a.h] (l++[a]) (lenW (l++[a]))
omit hr in
theorem Eff.new {q':Qr}{G':Gr}{la':List El}(hk:q'.kd=2/\q'.fl≠2/\q'.vb=none)(hno:∀y∈la,y.k≠q'.ky)
  (h:(q'.res=(5,[],0,0)/\la'=la/\G.S.room<3)∨
   (q'.res=(0,[],0,0)/\∃h,m0<h/\h<=G'.S.made/\h≠c.h/\la'=⟨h,q'.ky⟩::(if (la.length:Int)<c.d1 then la else la.dropLast)/\val G'.S h=q'.val)):Eff c m0 G q' G' la la':=by
 have hnone:findK la q'.ky=none:=List.find?_eq_none.2 λy hy=>by simpa using hno y hy
 unfold Eff;rw [hk.2.2,hk.1,if_neg (by simp),if_neg (by decide),hnone];show if (2:Int)≠2∨q'.fl=2 then _ else _;rw [if_neg (by simp only [ne_eq,not_true_eq_false,false_or];exact hk.2.1)];exact h
theorem Run.layHead {h:Int}{k:KS}(hl:Lay c l k x la cnt)(M:Mem c cap G l (h::x) cnt)(hh:m0<h)(hv:G.S.V h=some [q.ky,q.val,first l])(hd:q.dn=false)
  (hk:q.kd=2/\q.fl≠2/\q.vb=none)(hno:∀y∈la,y.k≠q.ky)(hne:∀y∈la,y.h≠h)(hn:q.nx=.store c.h 2 (BitVec.ofInt 64 h) (.layGive k)):RunM c cap I m0 3 false q G la:=by
 refine Run.effect hr M hd hn (λh=>by cases h) (.inr (by decide)) λG1 hi M1 em b=>?_
 have⟨v',hv1,hvv⟩:=hr.words hi M (by simp) hv;have hvv:=hvv hh;subst hvv;have⟨_,M2,same⟩:=M1.attach hv1;have hhc:h≠c.h:=M.ne_c (List.mem_append_left _ (List.mem_append_right _ (by simp)));have hval:val (G1.S.acc c.h 2 true λ_=>BitVec.ofInt 64 h).2 h=q.val:=val_of (by rw [same h hhc];exact hv1);cases hl with
 |one hlt=>
  refine ⟨(({q with eff:=false}:Qr).give 0 [] 0 0).more 1,G1.mem (G1.S.acc c.h 2 true λ_=>BitVec.ofInt 64 h).2,⟨h,q.ky⟩::l,rfl,rfl,?_,λa ha hc hn=>⟨(keepV (same a hc) hn).1,.inr (val_same (same a hc))⟩,?_⟩
  ·refine Eff.new hk hno (.inr ⟨rfl,h,hh,?_,hhc,by rw [if_pos hlt];rfl,hval⟩);exact (M2.bd (h:=h) (by simp)).2
  ·refine After.run hd (Run.moreM hr M2 ?_ hd rfl);unfold lenW;rw [List.length_cons,BitVec.ofNat_add];rfl
 |@last a hge=>
  have⟨M3,f3,_,_⟩:=M2.defer b;refine ⟨(({q with eff:=false}:Qr).give 0 [] 0 0).away,((G1.mem (G1.S.acc c.h 2 true λ_=>BitVec.ofInt 64 h).2).defer a.h b).2,⟨h,q.ky⟩::l,rfl,away_ob.2.1,?_,λy hy hc hn=>?_,?_⟩
  ·refine Eff.ob away_ob.1 (Eff.new (q':=({q with eff:=false}:Qr).give 0 [] 0 0) hk hno (.inr ⟨rfl,h,hh,?_,hhc,by rw [if_neg hge,List.dropLast_concat];rfl,?_⟩))
   ·exact (M3.bd (h:=h) (by simp)).2
   ·have:((G1.mem (G1.S.acc c.h 2 true λ_=>BitVec.ofInt 64 h).2).defer a.h b).2.S.V h≠none:=by
     have⟨p,r,s,e⟩:=M3.alive (h:=h) (by simp);rw [e];simp
    rw [val_same (f3 h this)];exact hval
  ·have⟨x1,x2⟩:=keepV (f3 y hn) hn;exact ⟨keepA x1,.inr (x2.trans (val_same (same y hc)))⟩
  ·have el:lenW (l++[a])=lenW (⟨h,q.ky⟩::l):=congrArg (BitVec.ofNat 64) (by rw [List.length_append,List.length_cons];rfl);rw [el] at M3;exact After.mono (k:=2) (After.away hr M3 hd) (by decide)
theorem Run.laySt {h:Int}{k:KS}{r:Wd}(hl:Lay c l k x la cnt)(M:Mem c cap G l (h::x) cnt)(hh:m0<h)(hv:G.S.V h=some [q.ky,q.val,r])(hd:q.dn=false)
  (hk:q.kd=2/\q.fl≠2/\q.vb=none)(hno:∀y∈la,y.k≠q.ky)(hne:∀y∈la,y.h≠h)(hn:q.nx=.store h 2 (first l) (.head h (.layGive k))):RunM c cap I m0 4 false q G la:=by
 refine Run.quiet hr M hd hn (λh=>by cases h) (by first|trivial|exact .inr (by decide)) λG1 hi M1 em b=>?_
 have⟨v',hv1,hvv⟩:=hr.words hi M (by simp) hv;have hvv:=hvv hh;subst hvv;have⟨_,M2,V2⟩:=M1.stX (i:=2) hv1 (by simp) (by simp) (first l);refine ⟨{q with eff:=false,nx:=.store c.h 2 (BitVec.ofInt 64 h) (.layGive k)},G1.mem (G1.S.acc h (2:Nat) true λ_=>first l).2,rfl,rfl,λa ha hc hn=>⟨keepA hn,?_⟩,.inr rfl,?_⟩
 ·have ha:a<=m0:=ha.resolve_right (λh=>by cases h);refine val_same ?_;show (G1.S.acc h (2:Nat) true λ_=>first l).2.V a=_;rw [V2,if_neg (by omega)]
 ·refine After.run hd (Run.layHead (q:={q with eff:=false,nx:=.store c.h 2 (BitVec.ofInt 64 h) (.layGive k)}) hr hl M2 hh ?_ hd hk hno hne rfl);show (G1.S.acc h (2:Nat) true λ_=>first l).2.V h=_;rw [V2,if_pos rfl];rfl
theorem Run.layLd {h:Int}{k:KS}{r:Wd}(hl:Lay c l k x la cnt)(M:Mem c cap G l (h::x) cnt)(hh:m0<h)(hv:G.S.V h=some [q.ky,q.val,r])(hd:q.dn=false)
  (hk:q.kd=2/\q.fl≠2/\q.vb=none)(hno:∀y∈la,y.k≠q.ky)(hne:∀y∈la,y.h≠h)(hn:q.nx=.load c.h 2 (.young h (.layGive k))):RunM c cap I m0 5 false q G la:=by
 refine Run.quiet hr M hd hn (λh=>by cases h) (by first|trivial|exact .inr (by decide)) λG1 hi M1 em b=>?_
 have⟨v',hv1,hvv⟩:=hr.words hi M (by simp) hv;have hvv:=hvv hh;subst hvv;have⟨dr,sv,hc⟩:=M1.lock;have⟨e1,M2,same⟩:=M1.load (i:=2) hc (by simp);have e1:(G1.S.acc c.h 2 true id).1.1=first l:=e1
 refine ⟨{q with eff:=false,nx:=.store h 2 (first l) (.head h (.layGive k))},G1.mem (G1.S.acc c.h (2:Nat) true id).2,by rw [<-e1];rfl,rfl,λa ha hc hn=>keepV (same a) hn,.inr rfl,?_⟩;exact After.run hd (Run.laySt (q:={q with eff:=false,nx:=.store h 2 (first l) (.head h (.layGive k))}) (r:=r) hr hl M2 hh (by rw [<-hv1];exact same h) hd hk hno hne rfl)
theorem Run.layVal {h:Int}{k:KS}{p r:Wd}(hl:Lay c l k x la cnt)(M:Mem c cap G l (h::x) cnt)(hh:m0<h)(hv:G.S.V h=some [q.ky,p,r])(hd:q.dn=false)(hm:q.made=h)
  (hk:q.kd=2/\q.fl≠2/\q.vb=none)(hno:∀y∈la,y.k≠q.ky)(hne:∀y∈la,y.h≠h)(hn:q.nx=.store h 1 q.val (.layYoung k)):RunM c cap I m0 6 false q G la:=by
 refine Run.quiet hr M hd hn (λh=>by cases h) (by first|trivial|exact .inr (by decide)) λG1 hi M1 em b=>?_
 have⟨v',hv1,hvv⟩:=hr.words hi M (by simp) hv;have⟨_,M2,V2⟩:=M1.stX (i:=1) hv1 (by simp) (by simp) q.val;refine ⟨{q with eff:=false,nx:=.load c.h 2 (.young h (.layGive k))},G1.mem (G1.S.acc h (1:Nat) true λ_=>q.val).2,by rw [<-hm];rfl,rfl,λa ha hc hn=>⟨keepA hn,?_⟩,.inr rfl,?_⟩
 ·have ha:a<=m0:=ha.resolve_right (λh=>by cases h);refine val_same ?_;show (G1.S.acc h (1:Nat) true λ_=>q.val).2.V a=_;rw [V2,if_neg (by omega)]
 ·refine After.run hd (Run.layLd (q:={q with eff:=false,nx:=.load c.h 2 (.young h (.layGive k))}) (r:=r) hr hl M2 hh ?_ hd hk hno hne rfl);show (G1.S.acc h (1:Nat) true λ_=>q.val).2.V h=_;rw [V2,if_pos rfl];rfl
theorem Run.layKey {h:Int}{k:KS}{o p r:Wd}(hl:Lay c l k x la cnt)(M:Mem c cap G l (h::x) cnt)(hh:m0<h)(hv:G.S.V h=some [o,p,r])(hd:q.dn=false)(hm:q.made=h)
  (hk:q.kd=2/\q.fl≠2/\q.vb=none)(hno:∀y∈la,y.k≠q.ky)(hne:∀y∈la,y.h≠h)(hn:q.nx=.store h 0 q.ky (.layVal k)):RunM c cap I m0 7 false q G la:=by
 refine Run.quiet hr M hd hn (λh=>by cases h) (.inl (M.ne_c (List.mem_append_left _ (List.mem_append_right _ (by simp))))) λG1 hi M1 em b=>?_
 have⟨v',hv1,hvv⟩:=hr.words hi M (by simp) hv;have⟨_,M2,V2⟩:=M1.stX (i:=0) hv1 (by simp) (by simp) q.ky;refine ⟨{q with eff:=false,nx:=.store h 1 q.val (.layYoung k)},G1.mem (G1.S.acc h (0:Nat) true λ_=>q.ky).2,by rw [<-hm];rfl,rfl,λa ha hc hn=>⟨keepA hn,?_⟩,.inr rfl,?_⟩
 ·have ha:a<=m0:=ha.resolve_right (λh=>by cases h);refine val_same ?_;show (G1.S.acc h (0:Nat) true λ_=>q.ky).2.V a=_;rw [V2,if_neg (by omega)]
 ·refine After.run hd (Run.layVal (q:={q with eff:=false,nx:=.store h 1 q.val (.layYoung k)}) (p:=v') (r:=r) hr hl M2 hh ?_ hd hm hk hno hne rfl);show (G1.S.acc h (0:Nat) true λ_=>q.ky).2.V h=_;rw [V2,if_pos rfl];rfl
theorem Run.cut {h:Int}{a:El}{o p r:Wd}(hge:¬((l++[a]).length:Int)<c.d1)(M:Mem c cap G (l++[a]) [h] (lenW (l++[a])))(hh:m0<h)(hv:G.S.V h=some [o,p,r])(hd:q.dn=false)(hm:q.made=h)
  (hk:q.kd=2/\q.fl≠2/\q.vb=none)(hno:∀y∈l++[a],y.k≠q.ky)(hne:∀y∈l++[a],y.h≠h)(hn:q.nx=.store (spot c l) 2 0 (.absLay a.h)):RunM c cap I m0 8 false q G (l++[a]):=by
 refine Run.quiet hr M hd hn (λh=>by cases h) (by first|trivial|exact .inr (by decide)) λG1 hi M1 em b=>?_
 have⟨v',hv1,hvv⟩:=hr.words hi M (by simp) hv;have⟨_,M2,vs,ve⟩:=M1.unlink (l1:=l) (e:=a) (m:=[]);have e0:(λ_:Wd=>first [])=λ_=>(0:Wd):=rfl
 rw [e0,List.append_nil] at M2;have hs2:h≠spot c l:=λe=>by
  by_cases hl:l=[]
  ·subst hl;exact M.ne_c (h:=h) (by simp) e
  ·unfold spot at e;cases hg:l.getLast? with
   |none=>rw [List.getLast?_eq_none_iff] at hg;exact hl hg
   |some y=>rw [hg] at e;exact hne y (List.mem_append_left _ (List.mem_of_getLast? hg)) e.symm
 have hV:(G1.S.acc (spot c l) 2 true λ_=>(0:Wd)).2.V h=some [o,v',r]:=by
  have hal:∃ws,G1.S.V (spot c l)=some ws/\2<ws.length:=by
   by_cases hl:l=[]
   ·subst hl;have⟨dr,sv,hc⟩:=M1.lock;exact ⟨_,hc,by simp⟩
   ·unfold spot;cases hg:l.getLast? with
    |none=>rw [List.getLast?_eq_none_iff] at hg;exact absurd hg hl
    |some y=>
     have⟨p,q,r,e⟩:=M1.alive (h:=y.h) (List.mem_append_left _ (List.mem_append_left _ (List.mem_map.2 ⟨y,List.mem_append_left _ (List.mem_of_getLast? hg),rfl⟩)));exact ⟨_,e,by simp⟩
  have⟨ws,hw,hlw⟩:=hal;rw [(V_acc2 hw hlw _).2.1,if_neg hs2];exact hv1
 refine ⟨{q with eff:=false,nx:=.store h 0 q.ky (.layVal (.absDef a.h))},G1.mem (G1.S.acc (spot c l) 2 true λ_=>(0:Wd)).2,by rw [<-hm];rfl,rfl,λy hy hc hn=>⟨keepA hn,(vs y).resolve_right hc⟩,.inr rfl,?_⟩;have M3:Mem c cap (G1.mem (G1.S.acc (spot c l) 2 true λ_=>(0:Wd)).2) l (h::[a.h]) (lenW (l++[a])):=by
  refine ⟨M2.ok,M2.lock,M2.link,λy hy=>M2.len y (by simpa [or_comm,or_left_comm] using hy),M2.perm.trans ?_,M2.rng,M2.nd,M2.made,M2.room,M2.room0,M2.capb,M2.bads⟩;refine List.Perm.cons _ (List.Perm.append_right _ (List.Perm.append_left _ (List.Perm.swap _ _ _)))
 exact After.run hd (Run.layKey (q:={q with eff:=false,nx:=.store h 0 q.ky (.layVal (.absDef a.h))}) hr (.last hge) M3 hh hV hd hm hk hno hne rfl)
end
section
variable {c:Lc} {cap:Cx} {G:Gr} {l la l1 m:List El} {e:El} {x:List Int} {cnt:Wd} {I:Gr->Gr->Prop} {m0:Int} {n:Nat} {had:Bool} {q:Qr}
theorem hw_nat {h:Int}(h1:1<=h)(h2:h<2305843009213693952):((BitVec.ofInt 64 h).toNat:Int)=h:=by
 rw [BitVec.toNat_ofInt];omega
theorem hw_cur {h:Int}(h1:1<=h)(h2:h<2305843009213693952):IntKind.i64.wrap ((BitVec.ofInt 64 h).toNat:Int)=h:=by
 rw [hw_nat h1 h2,wrap_i64 (by omega)]
theorem hw_ne {h:Int}(h1:1<=h)(h2:h<2305843009213693952):BitVec.ofInt 64 h≠0:=λe=>by
 have:=hw_nat h1 h2
 rw [e] at this
 have e0:((0:Wd).toNat:Int)=0:=rfl
 omega
theorem lenW_nat (h:(l.length:Int)<=64):(lenW l).toNat=l.length:=by
 unfold lenW;rw [BitVec.toNat_ofNat];omega
theorem spot_snoc:spot c (l1++[e])=e.h:=by unfold spot;rw [List.getLast?_concat]
theorem tri_quiet {s:Qr×Gr}{G1 G':Gr}{q':Qr}(e:s=(q',G'))(h1:q'.eff=false)
  (h3:∀a,(a<=m0∨had=true)->a≠c.h->G'.S.V a≠none->G1.S.V a≠none/\val G'.S a=val G1.S a)(h5:had=true∨G'.q=G1.q)(h4:AfM c cap I m0 n had q' G' la) :
  ∃la',Tr c m0 had G1 s.1 s.2 la la'/\(s.1.dn=true->(had||s.1.eff)=true/\PM c cap s.1 s.2 la')/\(s.1.dn=false->RunM c cap I m0 n (had||s.1.eff) s.1 s.2 la'):=by
 rw [e];refine ⟨la,⟨λ_=>rfl,(λh=>by rw [h1] at h;cases h),λa ha hc hv=>⟨(h3 a ha hc hv).1,.inr (h3 a ha hc hv).2⟩,λhh _=>h5.resolve_left (by rw [hh];exact Bool.false_ne_true)⟩,?_⟩;show (q'.dn=true->(had||q'.eff)=true/\PM c cap q' G' la)/\(q'.dn=false->RunM c cap I m0 n (had||q'.eff) q' G' la);rw [h1,Bool.or_false];exact h4
theorem tri_effect {s:Qr×Gr}{G1 G':Gr}{q':Qr}{la':List El}(e:s=(q',G'))(h1:q'.eff=true)(h5:Eff c m0 G1 q' G' la la')
  (h3:∀a,a<=m0->a≠c.h->G'.S.V a≠none->G1.S.V a≠none/\((q'.kd=2/\q'.fl≠1/\q'.vb=none/\∃e∈la,e.h=a/\e.k=q'.ky)∨val G'.S a=val G1.S a))(h4:AfM c cap I m0 n true q' G' la') :
  ∃la',Tr c m0 false G1 s.1 s.2 la la'/\(s.1.dn=true->(false||s.1.eff)=true/\PM c cap s.1 s.2 la')/\(s.1.dn=false->RunM c cap I m0 n (false||s.1.eff) s.1 s.2 la'):=by
 rw [e];refine ⟨la',⟨(λh=>by rw [h1] at h;cases h),λ_=>⟨rfl,h5⟩,λa ha hc hv=>have ha:=ha.resolve_right (λh=>by cases h);⟨(h3 a ha hc hv).1,(h3 a ha hc hv).2.imp (λ⟨x,y⟩=>⟨h1,x,y⟩) id⟩,(λ_ h=>by rw [h1] at h;cases h)⟩,?_⟩;show (q'.dn=true->(false||q'.eff)=true/\PM c cap q' G' la')/\(q'.dn=false->RunM c cap I m0 n (false||q'.eff) q' G' la');rw [h1];exact h4
variable (hr:Rely c cap m0 I)
include hr
structure Wn (c:Lc)(m0:Int)(G:Gr)(la:List El):Prop where
 made:G.S.made=m0
 m0:m0<2305843009213693951
 d1:1<=c.d1/\c.d1<=64
 le:(la.length:Int)<=c.d1
 keys:(la.map El.k).Nodup
theorem Run.count (M:Mem c cap G la [] (lenW la))(hw:Wn c m0 G la)(hd:q.dn=false)(hk:q.kd=2/\q.fl≠2/\q.vb=none)(hno:∀y∈la,y.k≠q.ky)
  (ha:q.ah=spot c la)(hb:∀l0 a,la=l0++[a]->q.bh=spot c l0/\q.bi=2)(hn:q.nx=.load c.h 3 .count):RunM c cap I m0 9 false q G la:=by
 refine Run.intro hr M hd hn (λh=>by cases h) trivial λG1 hi M1 em b=>?_
 have⟨dr,sv,hc⟩:=M1.lock;have⟨e1,M2,same⟩:=M1.load (i:=3) hc (by simp);have e1:(G1.S.acc c.h 3 true id).1.1=lenW la:=e1;have em2:(G1.S.acc c.h (3:Nat) true id).2.made=m0:=by rw [acc_made,em];exact hw.made
 have e5:(G1.S.acc c.h (3:Nat) true id).2.room=G1.S.room:=(V_acc (i:=3) hc (by simp) id).2.2.2.1;rcases M2.make (by rw [em2];exact hw.m0) b with ⟨hroom,hmk⟩|⟨hroom,hmk,M3,hv3,same3,em3⟩
 ·have hmk:(G1.S.acc c.h 3 true id).2.make b 3=((0,5),(G1.S.acc c.h 3 true id).2):=hmk;have ec:doNx c (.load c.h 3 .count) {q with eff:=false} G1 b=((({q with eff:=false}:Qr).give 5 [] 0 0).away,G1.mem (G1.S.acc c.h (3:Nat) true id).2):=by
   show (Qr.count c _ _ ((G1.S.acc c.h 3 true id).2.make b 3).1.2 ((G1.S.acc c.h 3 true id).2.make b 3).1.1,(G1.mem ((G1.S.acc c.h 3 true id).2.make b 3).2))=_;rw [hmk];unfold Qr.count;rw [if_pos (by simp)];rfl
  refine tri_effect ec away_ob.2.1 ?_ (λa ha hc hn=>⟨(keepV (same a) hn).1,.inr (val_same (same a))⟩) (After.awayN hr M2 hd);refine Eff.ob away_ob.1 (Eff.new (q':=({q with eff:=false}:Qr).give 5 [] 0 0) hk hno (.inl ⟨rfl,rfl,?_⟩));have hroom:(G1.S.acc c.h (3:Nat) true id).2.room<3:=hroom;rw [<-e5];exact hroom
 ·rw [show (G1.mem (G1.S.acc c.h (3:Nat) true id).2).S.made=m0 from em2] at hmk M3 hv3 same3;have hmk:((G1.S.acc c.h 3 true id).2.make b 3).1=(m0+1,0):=hmk;have hne:∀y∈la,y.h≠m0+1:=λy hy e=>by
   have:=(M.bd (h:=y.h) (List.mem_append_left _ (List.mem_append_left _ (List.mem_map.2 ⟨y,hy,rfl⟩)))).2
   rw [hw.made] at this;omega
  have hval:∀a,a<=m0->((G1.mem (G1.S.acc c.h (3:Nat) true id).2).S.make b 3).2.V a≠none->G1.S.V a≠none/\val ((G1.mem (G1.S.acc c.h (3:Nat) true id).2).S.make b 3).2 a=val G1.S a:=λa ha hn=>by
   have⟨x1,x2⟩:=keepV (same3 a (by omega)) hn;have⟨x3,x4⟩:=keepV (same a) x1;exact ⟨x3,x2.trans x4⟩
  have hlen:=lenW_nat (l:=la) (by have:=hw.le;have:=hw.d1;omega);have hd1:((BitVec.ofInt 64 c.d1).toNat:Int)=c.d1:=hw_nat hw.d1.1 (by have:=hw.d1;omega);by_cases hlt:(la.length:Int)<c.d1
  ·have ec:doNx c (.load c.h 3 .count) {q with eff:=false} G1 b=({q with eff:=false,made:=m0+1,nx:=.store (m0+1) 0 q.ky (.layVal .abs1)},(G1.mem (G1.S.acc c.h (3:Nat) true id).2).mem ((G1.mem (G1.S.acc c.h (3:Nat) true id).2).S.make b 3).2):=by
    show (Qr.count c _ (G1.S.acc c.h 3 true id).1.1 ((G1.S.acc c.h 3 true id).2.make b 3).1.2 ((G1.S.acc c.h 3 true id).2.make b 3).1.1,(G1.mem ((G1.S.acc c.h 3 true id).2.make b 3).2))=_;rw [hmk,e1];unfold Qr.count;rw [if_neg (by simp),if_pos (by omega)];rfl
   refine tri_quiet ec rfl (λa ha hc hn=>hval a (ha.resolve_right (λh=>by cases h)) hn) (.inr rfl) ?_;exact After.run hd (Run.mono (n:=7) (m:=8) (Run.layKey (q:={q with eff:=false,made:=m0+1,nx:=.store (m0+1) 0 q.ky (.layVal .abs1)}) hr (.one hlt) M3 (by omega) hv3 hd rfl hk hno hne rfl) (by decide))
  ·obtain ⟨l0,a,rfl⟩:∃l0 a,la=l0++[a]:=by
    rcases List.eq_nil_or_concat la with h|⟨l0,a,h⟩
    ·subst h;have:=hw.d1.1;simp at hlt;omega
    ·exact ⟨l0,a,by rw [h,List.concat_eq_append]⟩
   have⟨hb1,hb2⟩:=hb l0 a rfl;rw [spot_snoc] at ha;have ec:doNx c (.load c.h 3 .count) {q with eff:=false} G1 b=({q with eff:=false,made:=m0+1,nx:=.store (spot c l0) 2 0 (.absLay a.h)},(G1.mem (G1.S.acc c.h (3:Nat) true id).2).mem ((G1.mem (G1.S.acc c.h (3:Nat) true id).2).S.make b 3).2):=by
    show (Qr.count c _ (G1.S.acc c.h 3 true id).1.1 ((G1.S.acc c.h 3 true id).2.make b 3).1.2 ((G1.S.acc c.h 3 true id).2.make b 3).1.1,(G1.mem ((G1.S.acc c.h 3 true id).2.make b 3).2))=_;rw [hmk,e1];unfold Qr.count;rw [if_neg (by simp),if_neg (by omega),<-hb1,<-hb2,<-ha];rfl
   refine tri_quiet ec rfl (λa ha hc hn=>hval a (ha.resolve_right (λh=>by cases h)) hn) (.inr rfl) ?_;exact After.run hd (Run.cut (q:={q with eff:=false,made:=m0+1,nx:=.store (spot c l0) 2 0 (.absLay a.h)}) hr hlt M3 (by omega) hv3 hd rfl hk hno hne rfl)
omit hr in
theorem at_spot (M:Mem c cap G (l1++m) x cnt):∃ws,G.S.V (spot c l1)=some ws/\2<ws.length/\ws.getD 2 0=first m:=by
 rcases List.eq_nil_or_concat l1 with h|⟨l0,a,h⟩
 ·subst h;have⟨dr,sv,hc⟩:=M.lock;exact ⟨_,hc,by simp,rfl⟩
 ·rw [List.concat_eq_append] at h;subst h;have hl:=M.link;rw [List.append_assoc] at hl;have⟨v,hv⟩:=hl.at';exact ⟨_,by rw [spot_snoc];exact hv,by simp,rfl⟩
structure Wat (c:Lc)(q:Qr)(l1:List El):Prop where
 ah:q.ah=spot c l1
 ai:q.ai=2
 bh:∀l0 a,l1=l0++[a]->q.bh=spot c l0/\q.bi=2
 dn:q.dn=false
 vb:q.vb=none
 k1:∀y∈l1,y.k≠q.ky
 k4:q.kd≠4
omit hr in
theorem Wn.next {G2:Gr}(hw:Wn c m0 G la)(e:G2.S.made=G.S.made):Wn c m0 G2 la:=⟨e.trans hw.made,hw.m0,hw.d1,hw.le,hw.keys⟩
theorem Run.walk:∀{m l1:List El}{q:Qr}{G:Gr},Mem c cap G (l1++m) [] (lenW (l1++m))->Wn c m0 G (l1++m)->Wat c q l1->q.nx=.load (spot c l1) 2 (.walkAt .key)->RunM c cap I m0 (2*m.length+10) false q G (l1++m)
 |[],l1,q,G,M,hw,hW,hn=>by
  refine Run.intro hr M hW.dn hn (λh=>by cases h) trivial λG1 hi M1 em b=>?_
  rw [List.append_nil] at M M1 hw⊢;have M1':Mem c cap G1 (l1++[]) [] (lenW l1):=by rw [List.append_nil];exact M1
  have⟨ws,hws,hlw,hz⟩:=at_spot M1';have⟨e1,M2,same⟩:=M1.load (i:=2) hws hlw;have e1:(G1.S.acc (spot c l1) 2 true id).1.1=0:=by rw [show (0:Wd)=first [] from rfl,<-hz];exact e1
  have hnone:findK l1 q.ky=none:=List.find?_eq_none.2 λy hy=>by simpa using hW.k1 y hy
  by_cases hab:q.kd≠2∨q.fl=2
  ·have ec:doNx c (.load (spot c l1) 2 (.walkAt .key)) {q with eff:=false} G1 b=(({q with eff:=false,cur:=IntKind.i64.wrap ((0:Wd).toNat:Int)}:Qr).fail 2,G1.mem (G1.S.acc (spot c l1) (2:Nat) true id).2):=by
    show (if (G1.S.acc (spot c l1) 2 true id).1.1=0 then Qr.stop c _ .key else _,_)=_;rw [e1,if_pos rfl];show (Qr.absent c _,_)=_;unfold Qr.absent;rw [if_pos hab];rfl
   refine tri_effect ec away_ob.2.1 ?_ (λa ha hc hn=>⟨(keepV (same a) hn).1,.inr (val_same (same a))⟩) (After.awayN hr M2 hW.dn);refine Eff.ob away_ob.1 ?_;unfold Eff;rw [show (({q with eff:=false,cur:=IntKind.i64.wrap ((0:Wd).toNat:Int)}:Qr).give 2 [] 0 0).vb=none from hW.vb];rw [if_neg (by simp)];show if q.kd=4 then _ else match findK l1 q.ky with|some e=>_|none=>_
   rw [if_neg hW.k4,hnone];show if q.kd≠2∨q.fl=2 then _ else _;rw [if_pos hab];exact ⟨rfl,rfl⟩
  ·have ec:doNx c (.load (spot c l1) 2 (.walkAt .key)) {q with eff:=false} G1 b=({q with eff:=false,cur:=IntKind.i64.wrap ((0:Wd).toNat:Int),nx:=.load c.h 3 .count},G1.mem (G1.S.acc (spot c l1) (2:Nat) true id).2):=by
    show (if (G1.S.acc (spot c l1) 2 true id).1.1=0 then Qr.stop c _ .key else _,_)=_;rw [e1,if_pos rfl];show (Qr.absent c _,_)=_;unfold Qr.absent;rw [if_neg hab];rfl
   refine tri_quiet ec rfl (λa ha hc hn=>keepV (same a) hn) (.inr rfl) ?_;have hab:q.kd=2/\q.fl≠2/\q.vb=none:=by
    simp only [not_or,ne_eq,Decidable.not_not] at hab;exact ⟨hab.1,hab.2,hW.vb⟩
   exact After.run hW.dn (Run.count (q:={q with eff:=false,cur:=IntKind.i64.wrap ((0:Wd).toNat:Int),nx:=.load c.h 3 .count}) hr M2 (hw.next (by rw [<-em];exact acc_made ..)) hW.dn hab hW.k1 hW.ah hW.bh rfl)
 |e::m,l1,q,G,M,hw,hW,hn=>by
  have heb:=M.bd (h:=e.h) (List.mem_append_left _ (List.mem_append_left _ (by simp)));have he1:1<=e.h:=heb.1;have he2:e.h<2305843009213693952:=by have:=M.made;omega
  show RunM c cap I m0 ((2*m.length+10)+1+1) false q G (l1++e::m);refine Run.quiet hr M hW.dn hn (λh=>by cases h) trivial λG1 hi M1 em b=>?_
  have⟨ws,hws,hlw,hz⟩:=at_spot M1;have⟨e1,M2,same⟩:=M1.load (i:=2) hws hlw;have e1:(G1.S.acc (spot c l1) 2 true id).1.1=BitVec.ofInt 64 e.h:=by rw [show BitVec.ofInt 64 e.h=first (e::m) from rfl,<-hz];exact e1
  have hw2:Wn c m0 (G1.mem (G1.S.acc (spot c l1) (2:Nat) true id).2) (l1++e::m):=hw.next (by rw [<-em];exact acc_made ..);refine ⟨{q with eff:=false,cur:=e.h,nx:=.load e.h 0 (.walkKey .key)},G1.mem (G1.S.acc (spot c l1) (2:Nat) true id).2,?_,rfl,λa ha hc hn=>keepV (same a) hn,.inr rfl,After.run hW.dn ?_⟩
  ·show (if (G1.S.acc (spot c l1) 2 true id).1.1=0 then _ else Qr.load _ (IntKind.i64.wrap ((G1.S.acc (spot c l1) 2 true id).1.1.toNat:Int)) 0 (.walkKey .key),_)=_;rw [e1,if_neg (hw_ne he1 he2),hw_cur he1 he2];rfl
  generalize G1.mem (G1.S.acc (spot c l1) (2:Nat) true id).2=G2 at M2 hw2;refine Run.intro hr M2 hW.dn rfl (λh=>by cases h) trivial λG3 hi3 M3 em3 b=>?_
  have⟨v0,hv0⟩:=M3.link.at';have⟨e4,M4,same4⟩:=M3.load (i:=0) hv0 (by simp);have e4:(G3.S.acc e.h 0 true id).1.1=e.k:=e4;have nd:=hw.keys;rw [List.map_append,List.map_cons] at nd;by_cases hk:e.k=q.ky
  ·have ec:doNx c (.load e.h 0 (.walkKey .key)) {q with eff:=false,cur:=e.h,nx:=.load e.h 0 (.walkKey .key)} G3 b=(({q with eff:=false,cur:=e.h,nx:=.load e.h 0 (.walkKey .key)}:Qr).found,G3.mem (G3.S.acc e.h (0:Nat) true id).2):=by
    show (if (G3.S.acc e.h 0 true id).1.1=q.ky then _ else _,_)=_;rw [e4,if_pos hk];rfl
   have k2:∀y∈m,y.k≠q.ky:=λy hy h=>by
    have:=(List.nodup_cons.1 (List.nodup_append.1 nd).2.1).1
    exact this (by rw [hk,<-h];exact List.mem_map.2 ⟨y,hy,rfl⟩)
   have hAt:∀nx,At c {q with eff:=false,cur:=e.h,nx:=nx} l1 e m:=λnx=>⟨hW.ah,hW.ai,rfl,hW.dn,hW.vb,hW.k1,hk,k2⟩
   unfold Qr.found at ec;by_cases d2:q.kd=2
   ·by_cases f1:q.fl=1
    ·rw [if_pos d2,if_pos f1] at ec;refine tri_effect ec away_ob.2.1 ?_ (λa ha hc hn=>⟨(keepV (same4 a) hn).1,.inr (val_same (same4 a))⟩) (After.awayN hr M4 hW.dn);refine Eff.ob away_ob.1 (Eff.at (hAt (.load e.h 0 (.walkKey .key))) hW.k4 hW.vb rfl ?_);show if q.kd=2 then _ else _;rw [if_pos d2];show if q.fl=1 then _ else _;rw [if_pos f1];exact ⟨rfl,rfl⟩
    ·rw [if_pos d2,if_neg f1] at ec;exact tri_quiet ec rfl (λa ha hc hn=>keepV (same4 a) hn) (.inr rfl) (After.run hW.dn (Run.mono (n:=7) (m:=2*m.length+10) (Run.upd hr M4 (hAt _) d2 f1 rfl) (by omega)))
   ·rw [if_neg d2] at ec;by_cases d1:q.kd=1
    ·rw [if_pos d1] at ec;exact tri_quiet ec rfl (λa ha hc hn=>keepV (same4 a) hn) (.inr rfl) (After.run hW.dn (Run.mono (n:=7) (m:=2*m.length+10) (Run.look hr M4 (hAt _) d1 rfl) (by omega)))
    ·rw [if_neg d1] at ec;by_cases d5:q.kd=5
     ·rw [if_pos d5] at ec;exact tri_quiet ec rfl (λa ha hc hn=>keepV (same4 a) hn) (.inr rfl) (After.run hW.dn (Run.mono (n:=5) (m:=2*m.length+10) (Run.take hr M4 (hAt _) d5 rfl) (by omega)))
     ·rw [if_neg d5] at ec;exact tri_quiet ec rfl (λa ha hc hn=>keepV (same4 a) hn) (.inr rfl) (After.run hW.dn (Run.mono (n:=4) (m:=2*m.length+10) (Run.ldDel hr M4 (hAt _) ⟨d1,d2,hW.k4,d5⟩ rfl) (by omega)))
  ·have ec:doNx c (.load e.h 0 (.walkKey .key)) {q with eff:=false,cur:=e.h,nx:=.load e.h 0 (.walkKey .key)} G3 b=({q with eff:=false,cur:=e.h,bh:=q.ah,bi:=q.ai,ah:=e.h,ai:=2,nx:=.load e.h 2 (.walkAt .key)},G3.mem (G3.S.acc e.h (0:Nat) true id).2):=by
    show (if (G3.S.acc e.h 0 true id).1.1=q.ky then _ else _,_)=_;rw [e4,if_neg hk];rfl
   refine tri_quiet ec rfl (λa ha hc hn=>keepV (same4 a) hn) (.inr rfl) (After.run hW.dn ?_);have ea:l1++e::m=(l1++[e])++m:=by simp
   have hw4:Wn c m0 (G3.mem (G3.S.acc e.h (0:Nat) true id).2) (l1++e::m):=hw2.next (by rw [<-em3];exact acc_made ..);rw [ea] at M4 hw4⊢;refine Run.walk M4 hw4 ⟨spot_snoc.symm,rfl,λl0 a h=>?_,hW.dn,hW.vb,λy hy=>?_,hW.k4⟩ (by rw [spot_snoc])
   ·have:=List.append_inj_left' h rfl
    subst this;exact ⟨hW.ah,hW.ai⟩
   ·rcases List.mem_append.1 hy with hy|hy
    ·exact hW.k1 y hy
    ·simp only [List.mem_singleton] at hy;subst hy;exact hk
def Qr.bo (q:Qr):Option Wd:=if q.any then some q.best else none
omit hr in
theorem nearer_bo {e:El}:(q.nearer e.k).bo=nearF q q.bo e/\(q.nearer e.k).fl=q.fl/\(q.nearer e.k).ky=q.ky/\(q.nearer e.k).kd=q.kd/\(q.nearer e.k).vb=q.vb/\(q.nearer e.k).dn=q.dn/\(q.nearer e.k).eff=q.eff/\(q.nearer e.k).cur=q.cur:=by
 unfold Qr.nearer;by_cases h:(q.fl=1∨q.ky.toNat<e.k.toNat)/\(q.any=false∨e.k.toNat<q.best.toNat)
 ·rw [if_pos h];refine ⟨?_,rfl,rfl,rfl,rfl,rfl,rfl,rfl⟩;have hb:(match q.bo with|none=>true|some w=>decide (e.k.toNat<w.toNat))=true:=by
   unfold Qr.bo;by_cases ha:q.any=true
   ·rw [if_pos ha];simp only [decide_eq_true_eq];exact h.2.resolve_left (by rw [ha];simp)
   ·rw [if_neg ha]
  unfold nearF;rw [if_pos ⟨h.1,hb⟩];rfl
 ·rw [if_neg h];refine ⟨?_,rfl,rfl,rfl,rfl,rfl,rfl,rfl⟩;unfold nearF;rw [if_neg];rintro ⟨h1,h2⟩;refine h ⟨h1,?_⟩;unfold Qr.bo at h2;cases ha:q.any with
  |false=>exact .inl rfl
  |true=>rw [ha] at h2;simp only [if_true,decide_eq_true_eq] at h2;exact .inr h2
structure Nat' (c:Lc)(q:Qr)(l1:List El):Prop where
 ah:q.ah=spot c l1
 ai:q.ai=2
 bo:q.bo=l1.foldl (nearF q) none
 dn:q.dn=false
 vb:q.vb=none
 k4:q.kd=4
omit hr in
theorem nearF_eq {q q':Qr}(h1:q'.fl=q.fl)(h2:q'.ky=q.ky):nearF q'=nearF q:=by funext b e;unfold nearF;rw [h1,h2]
theorem Run.near:∀{m l1:List El}{q:Qr}{G:Gr},Mem c cap G (l1++m) [] (lenW (l1++m))->Nat' c q l1->q.nx=.load (spot c l1) 2 (.walkAt .near)->RunM c cap I m0 (2*m.length+2) false q G (l1++m)
 |[],l1,q,G,M,hW,hn=>by
  refine Run.intro hr M hW.dn hn (λh=>by cases h) trivial λG1 hi M1 em b=>?_
  rw [List.append_nil] at M M1⊢;have M1':Mem c cap G1 (l1++[]) [] (lenW l1):=by rw [List.append_nil];exact M1
  have⟨ws,hws,hlw,hz⟩:=at_spot M1';have⟨e1,M2,same⟩:=M1.load (i:=2) hws hlw;have e1:(G1.S.acc (spot c l1) 2 true id).1.1=0:=by rw [show (0:Wd)=first [] from rfl,<-hz];exact e1
  have hres:∀q1:Qr,q1.kd=4->q1.vb=none->q1.fl=q.fl->q1.ky=q.ky->q1.res=(match q.bo with|some k=>(0,[],k,0)|none=>(2,[],0,0))->∀G',Eff c m0 G1 q1 G' l1 l1:=λq1 h1 h2 h3 h4 h5 G'=>by
   unfold Eff;rw [h2,if_neg (by simp),if_pos h1];refine ⟨rfl,?_⟩;unfold nearRes;rw [nearF_eq h3 h4,<-hW.bo];exact h5
  by_cases ha:q.any=true
  ·have ec:doNx c (.load (spot c l1) 2 (.walkAt .near)) {q with eff:=false} G1 b=((({q with eff:=false,cur:=IntKind.i64.wrap ((0:Wd).toNat:Int)}:Qr).give 0 [] q.best 0).away,G1.mem (G1.S.acc (spot c l1) (2:Nat) true id).2):=by
    show (if (G1.S.acc (spot c l1) 2 true id).1.1=0 then Qr.stop c _ .near else _,_)=_;rw [e1,if_pos rfl];show (Qr.nearest _,_)=_;unfold Qr.nearest;rw [if_pos ha];rfl
   refine tri_effect ec away_ob.2.1 (Eff.ob away_ob.1 (hres (({q with eff:=false,cur:=IntKind.i64.wrap ((0:Wd).toNat:Int)}:Qr).give 0 [] q.best 0) hW.k4 hW.vb rfl rfl ?_ _)) (λa ha hc hn=>⟨(keepV (same a) hn).1,.inr (val_same (same a))⟩) (After.awayN hr M2 hW.dn);unfold Qr.bo;rw [if_pos ha];rfl
  ·have ec:doNx c (.load (spot c l1) 2 (.walkAt .near)) {q with eff:=false} G1 b=(({q with eff:=false,cur:=IntKind.i64.wrap ((0:Wd).toNat:Int)}:Qr).fail 2,G1.mem (G1.S.acc (spot c l1) (2:Nat) true id).2):=by
    show (if (G1.S.acc (spot c l1) 2 true id).1.1=0 then Qr.stop c _ .near else _,_)=_;rw [e1,if_pos rfl];show (Qr.nearest _,_)=_;unfold Qr.nearest;rw [if_neg ha];rfl
   refine tri_effect ec away_ob.2.1 (Eff.ob away_ob.1 (hres (({q with eff:=false,cur:=IntKind.i64.wrap ((0:Wd).toNat:Int)}:Qr).give 2 [] 0 0) hW.k4 hW.vb rfl rfl ?_ _)) (λa ha hc hn=>⟨(keepV (same a) hn).1,.inr (val_same (same a))⟩) (After.awayN hr M2 hW.dn);unfold Qr.bo;rw [if_neg ha];rfl
 |e::m,l1,q,G,M,hW,hn=>by
  have heb:=M.bd (h:=e.h) (List.mem_append_left _ (List.mem_append_left _ (by simp)));have he1:1<=e.h:=heb.1;have he2:e.h<2305843009213693952:=by have:=M.made;omega
  show RunM c cap I m0 ((2*m.length+2)+1+1) false q G (l1++e::m);refine Run.quiet hr M hW.dn hn (λh=>by cases h) trivial λG1 hi M1 em b=>?_
  have⟨ws,hws,hlw,hz⟩:=at_spot M1;have⟨e1,M2,same⟩:=M1.load (i:=2) hws hlw;have e1:(G1.S.acc (spot c l1) 2 true id).1.1=BitVec.ofInt 64 e.h:=by rw [show BitVec.ofInt 64 e.h=first (e::m) from rfl,<-hz];exact e1
  refine ⟨{q with eff:=false,cur:=e.h,nx:=.load e.h 0 (.walkKey .near)},G1.mem (G1.S.acc (spot c l1) (2:Nat) true id).2,?_,rfl,λa ha hc hn=>keepV (same a) hn,.inr rfl,After.run hW.dn ?_⟩
  ·show (if (G1.S.acc (spot c l1) 2 true id).1.1=0 then _ else Qr.load _ (IntKind.i64.wrap ((G1.S.acc (spot c l1) 2 true id).1.1.toNat:Int)) 0 (.walkKey .near),_)=_;rw [e1,if_neg (hw_ne he1 he2),hw_cur he1 he2];rfl
  generalize G1.mem (G1.S.acc (spot c l1) (2:Nat) true id).2=G2 at M2;refine Run.quiet hr M2 hW.dn rfl (λh=>by cases h) trivial λG3 hi3 M3 em3 b=>?_
  have⟨v0,hv0⟩:=M3.link.at';have⟨e4,M4,same4⟩:=M3.load (i:=0) hv0 (by simp);have e4:(G3.S.acc e.h 0 true id).1.1=e.k:=e4;have hb:=nearer_bo (q:={q with eff:=false,cur:=e.h,nx:=.load e.h 0 (.walkKey .near)}) (e:=e);refine ⟨(({q with eff:=false,cur:=e.h,nx:=.load e.h 0 (.walkKey .near)}:Qr).nearer e.k).go .near,G3.mem (G3.S.acc e.h (0:Nat) true id).2,?_,hb.2.2.2.2.2.2.1,λa ha hc hn=>keepV (same4 a) hn,.inr rfl,After.run (hb.2.2.2.2.2.1.trans hW.dn) ?_⟩
  ·show ((Qr.nearer _ (G3.S.acc e.h 0 true id).1.1).go .near,_)=_;rw [e4];rfl
  have ea:l1++e::m=(l1++[e])++m:=by simp
  rw [ea] at M4⊢;refine Run.near M4 ⟨?_,rfl,?_,hb.2.2.2.2.2.1.trans hW.dn,hb.2.2.2.2.1.trans hW.vb,hb.2.2.2.1.trans hW.k4⟩ ?_
  ·rw [spot_snoc];exact hb.2.2.2.2.2.2.2
  ·show (Qr.nearer _ e.k).bo=_;rw [hb.1,List.foldl_append,nearF_eq (q:=q) (q':=(({q with eff:=false,cur:=e.h,nx:=.load e.h 0 (.walkKey .near)}:Qr).nearer e.k).go .near) hb.2.1 hb.2.2.1,<-hW.bo];exact congrFun (congrFun (nearF_eq rfl rfl) _) _
  ·rw [spot_snoc];show Nx.load _ 2 _=_;rw [hb.2.2.2.2.2.2.2]
def PV (c:Lc)(cap:Cx)(q:Qr)(G:Gr)(la:List El):Prop:=Mem c cap G la [] (lenW la)
abbrev RunV (c:Lc)(cap:Cx)(I:Gr->Gr->Prop)(m0:Int):=Run c cap I m0 (PV c cap)
structure Vat (c:Lc)(q:Qr)(l1:List El):Prop where
 ah:q.ah=spot c l1
 ai:q.ai=2
 keys:q.keys=l1.map El.k
 dn:q.dn=false
 vb:q.vb.isSome=true
theorem Run.room:∀{m l1:List El}{q:Qr}{G:Gr},Mem c cap G (l1++m) [] (lenW (l1++m))->Vat c q l1->q.nx=.load (spot c l1) 2 (.walkAt .room)->RunV c cap I m0 (2*m.length+1) false q G (l1++m)
 |[],l1,q,G,M,hW,hn=>by
  refine Run.effect hr M hW.dn hn (λh=>by cases h) trivial λG1 hi M1 em b=>?_
  rw [List.append_nil] at M M1⊢;have M1':Mem c cap G1 (l1++[]) [] (lenW l1):=by rw [List.append_nil];exact M1
  have⟨ws,hws,hlw,hz⟩:=at_spot M1';have⟨e1,M2,same⟩:=M1.load (i:=2) hws hlw;have e1:(G1.S.acc (spot c l1) 2 true id).1.1=0:=by rw [show (0:Wd)=first [] from rfl,<-hz];exact e1
  refine ⟨{({q with eff:=false,cur:=IntKind.i64.wrap ((0:Wd).toNat:Int)}:Qr).give 0 [] 0 0 with dn:=true,keys:=srt q.keys},G1.mem (G1.S.acc (spot c l1) (2:Nat) true id).2,l1,?_,rfl,?_,λa ha hc hn=>⟨(keepV (same a) hn).1,.inr (val_same (same a))⟩,⟨λ_=>⟨rfl,M2⟩,λh=>by cases h⟩⟩
  ·show (if (G1.S.acc (spot c l1) 2 true id).1.1=0 then Qr.stop c _ .room else _,_)=_;rw [e1,if_pos rfl];rfl
  ·unfold Eff;show if q.vb.isSome=true then _ else _;rw [if_pos hW.vb];refine ⟨rfl,rfl,?_⟩;show srt q.keys=_;rw [hW.keys]
 |e::m,l1,q,G,M,hW,hn=>by
  have heb:=M.bd (h:=e.h) (List.mem_append_left _ (List.mem_append_left _ (by simp)));have he1:1<=e.h:=heb.1;have he2:e.h<2305843009213693952:=by have:=M.made;omega
  show RunV c cap I m0 ((2*m.length+1)+1+1) false q G (l1++e::m);refine Run.quiet hr M hW.dn hn (λh=>by cases h) trivial λG1 hi M1 em b=>?_
  have⟨ws,hws,hlw,hz⟩:=at_spot M1;have⟨e1,M2,same⟩:=M1.load (i:=2) hws hlw;have e1:(G1.S.acc (spot c l1) 2 true id).1.1=BitVec.ofInt 64 e.h:=by rw [show BitVec.ofInt 64 e.h=first (e::m) from rfl,<-hz];exact e1
  refine ⟨{q with eff:=false,cur:=e.h,nx:=.load e.h 0 (.walkKey .room)},G1.mem (G1.S.acc (spot c l1) (2:Nat) true id).2,?_,rfl,λa ha hc hn=>keepV (same a) hn,.inr rfl,After.run hW.dn ?_⟩
  ·show (if (G1.S.acc (spot c l1) 2 true id).1.1=0 then _ else Qr.load _ (IntKind.i64.wrap ((G1.S.acc (spot c l1) 2 true id).1.1.toNat:Int)) 0 (.walkKey .room),_)=_;rw [e1,if_neg (hw_ne he1 he2),hw_cur he1 he2];rfl
  generalize G1.mem (G1.S.acc (spot c l1) (2:Nat) true id).2=G2 at M2;refine Run.quiet hr M2 hW.dn rfl (λh=>by cases h) trivial λG3 hi3 M3 em3 b=>?_
  have⟨v0,hv0⟩:=M3.link.at';have⟨e4,M4,same4⟩:=M3.load (i:=0) hv0 (by simp);have e4:(G3.S.acc e.h 0 true id).1.1=e.k:=e4;refine ⟨({q with eff:=false,cur:=e.h,nx:=.load e.h 0 (.walkKey .room),keys:=q.keys++[e.k]}:Qr).go .room,G3.mem (G3.S.acc e.h (0:Nat) true id).2,?_,rfl,λa ha hc hn=>keepV (same4 a) hn,.inr rfl,After.run hW.dn ?_⟩
  ·show (Qr.go {({q with eff:=false,cur:=e.h,nx:=.load e.h 0 (.walkKey .room)}:Qr) with keys:=q.keys++[(G3.S.acc e.h 0 true id).1.1]} .room,_)=_;rw [e4];rfl
  have ea:l1++e::m=(l1++[e])++m:=by simp
  rw [ea] at M4⊢;refine Run.room M4 ⟨by rw [spot_snoc];rfl,rfl,?_,hW.dn,hW.vb⟩ (by rw [spot_snoc];rfl);show q.keys++[e.k]=_;rw [hW.keys,List.map_append];rfl
end
section
variable {c:Lc} {cap:Cx} {G G':Gr} {l:List El} {x:List Int} {cnt d:Wd} {m0:Int} {n:Nat} {q:Qr} {S:Sm} {h a:Int}
def Gq (G G':Gr):Prop:=G'.ins=G.ins/\G'.n=G.n/\(G'.S.made=G.S.made∨G'.S.made=wr (G.S.made+1))/\(G'.S.count=G.S.count∨G'.S.count=wr (G.S.count+1))
theorem acc_count {h i:Int}{may:Bool}{f:Wd->Wd}:(S.acc h i may f).2.count=wr (S.count+1):=by
 unfold Sm.acc;split
 ·split<;>rfl
 ·rfl
theorem frees_count:∀(hs:List Int)(S:Sm),(frees S hs).count=S.count
 |[],S=>rfl
 |a::hs,S=>by show (frees (S.free a).2 hs).count=_;rw [frees_count hs];rfl
theorem Gq.defer (G:Gr)(h:Int)(b:Nat):(G.defer h b).2.ins=G.ins/\(G.defer h b).2.n=G.n/\(G.defer h b).2.S.made=G.S.made/\(G.defer h b).2.S.count=G.S.count:=by
 unfold Gr.defer;split
 ·exact ⟨rfl,rfl,rfl,rfl⟩
 ·exact ⟨rfl,rfl,frees_made _ _,frees_count _ _⟩
theorem doKS_G:∀(k:KS)(q:Qr)(G:Gr)(b:Nat),(doKS c k q G b).2.ins=G.ins/\(doKS c k q G b).2.n=G.n/\(doKS c k q G b).2.S.made=G.S.made/\(doKS c k q G b).2.S.count=G.S.count
 |.upd,q,G,b=>⟨rfl,rfl,rfl,rfl⟩
 |.takeEnd,q,G,b=>Gq.defer ..
 |.delEnd,q,G,b=>Gq.defer ..
 |.used,q,G,b=>⟨rfl,rfl,rfl,rfl⟩
 |.layVal k,q,G,b=>⟨rfl,rfl,rfl,rfl⟩
 |.layYoung k,q,G,b=>⟨rfl,rfl,rfl,rfl⟩
 |.layGive k,q,G,b=>doKS_G k _ G b
 |.abs1,q,G,b=>⟨rfl,rfl,rfl,rfl⟩
 |.absLay _,q,G,b=>⟨rfl,rfl,rfl,rfl⟩
 |.absDef _,q,G,b=>Gq.defer ..
 |.head _ _,q,G,b=>⟨rfl,rfl,rfl,rfl⟩
 |.away,q,G,b=>⟨rfl,rfl,rfl,rfl⟩
 |.begin,q,G,b=>⟨rfl,rfl,rfl,rfl⟩
 |.room,q,G,b=>⟨rfl,rfl,rfl,rfl⟩
theorem make_made (S:Sm)(b:Nat)(n:Int):((S.make b n).2.made=S.made∨(S.make b n).2.made=wr (S.made+1))/\(S.make b n).2.count=S.count:=by
 unfold Sm.make;split
 ·exact ⟨.inl rfl,rfl⟩
 ·split
  ·exact ⟨.inl rfl,rfl⟩
  ·exact ⟨.inr rfl,rfl⟩
theorem doKL_G (k:KL)(w:Wd)(q:Qr)(G:Gr)(b:Nat):(doKL c k w q G b).2.ins=G.ins/\(doKL c k w q G b).2.n=G.n/\((doKL c k w q G b).2.S.made=G.S.made∨(doKL c k w q G b).2.S.made=wr (G.S.made+1))/\(doKL c k w q G b).2.S.count=G.S.count:=by
 cases k with
 |walkAt a=>exact ⟨rfl,rfl,.inl rfl,rfl⟩
 |walkKey a=>cases a<;>exact ⟨rfl,rfl,.inl rfl,rfl⟩
 |look=>exact ⟨rfl,rfl,.inl rfl,rfl⟩
 |take=>exact ⟨rfl,rfl,.inl rfl,rfl⟩
 |count=>exact ⟨rfl,rfl,(make_made _ _ _).1,(make_made _ _ _).2⟩
 |unl k=>exact ⟨rfl,rfl,.inl rfl,rfl⟩
 |young h k=>exact ⟨rfl,rfl,.inl rfl,rfl⟩
theorem tk_made {t:Tk}{S:Sm}:(t.step c S).2.2.made=S.made/\((t.step c S).2.2.count=S.count∨(t.step c S).2.2.count=wr (S.count+1)):=by
 unfold Tk.step;split
 ·exact ⟨acc_made ..,.inr acc_count⟩
 ·split
  ·split<;>exact ⟨acc_made ..,.inr acc_count⟩
  ·exact ⟨rfl,.inl rfl⟩
theorem doNx_G (nx:Nx)(q:Qr)(G:Gr)(b:Nat):Gq G (doNx c nx q G b).2:=by
 cases nx with
 |none=>exact ⟨rfl,rfl,.inl rfl,.inl rfl⟩
 |enter t k=>
  show Gq G (if _ then _ else _:Qr×Gr).2;split
  ·have⟨h1,h2,h3,h4⟩:=doKS_G (c:=c) k {q with nx:=.enter (t.step c G.S).2.1 k} (G.mem (t.step c G.S).2.2) b;refine ⟨h1,h2,.inl (h3.trans tk_made.1),?_⟩;rw [h4];exact tk_made.2
  ·exact ⟨rfl,rfl,.inl tk_made.1,tk_made.2⟩
 |load a i k=>
  have⟨h1,h2,h3,h4⟩:=doKL_G (c:=c) k (G.S.acc a i true id).1.1 q (G.mem (G.S.acc a i true id).2) b;have e:(G.mem (G.S.acc a i true id).2).S.made=G.S.made:=acc_made ..;rw [e] at h3;exact ⟨h1,h2,h3,.inr (h4.trans acc_count)⟩
 |store a i w k=>
  have⟨h1,h2,h3,h4⟩:=doKS_G (c:=c) k q (G.mem (G.S.acc a i true λ_=>w).2) b;exact ⟨h1,h2,.inl (h3.trans (acc_made ..)),.inr (h4.trans acc_count)⟩
 |more w=>exact ⟨rfl,rfl,.inl (acc_made ..),.inr acc_count⟩
 |drop=>exact ⟨rfl,rfl,.inl (acc_made ..),.inr acc_count⟩
theorem step_nx {q:Qr}(hd:q.dn=false)(G:Gr)(b:Nat):q.step c G b=doNx c q.nx {q with eff:=false} G b:=by
 unfold Qr.step;rw [if_neg (by rw [hd];exact Bool.false_ne_true)]
theorem step_G {q:Qr}(hd:q.dn=false)(G:Gr)(b:Nat):Gq G (q.step c G b).2:=by rw [step_nx hd];exact doNx_G ..
def Qr.op (q:Qr):Int×Wd×Int×Wd×Option Nat×Bool:=(q.kd,q.ky,q.fl,q.val,q.vb,q.st)
def Kp (q q':Qr):Prop:=q'.op=q.op/\((q'.eff=q.eff/\q'.res=q.res)∨q'.eff=true)
theorem Kp.refl (q:Qr):Kp q q:=⟨rfl,.inl ⟨rfl,rfl⟩⟩
theorem Kp.trans {a b d:Qr}(h:Kp a b)(k:Kp b d):Kp a d:=by
 refine ⟨k.1.trans h.1,?_⟩;rcases k.2 with ⟨k1,k2⟩|k1
 ·rcases h.2 with ⟨h1,h2⟩|h1
  ·exact .inl ⟨k1.trans h1,k2.trans h2⟩
  ·exact .inr (k1.trans h1)
 ·exact .inr k1
theorem Kp.give (q:Qr)(a:Int)(b:List Wd)(d:Wd)(e:Int):Kp q (q.give a b d e):=⟨rfl,.inr rfl⟩
theorem Kp.same {q q':Qr}(h1:(q'.op,q'.eff,q'.res)=(q.op,q.eff,q.res)):Kp q q':=by
 simp only [Prod.mk.injEq] at h1;exact ⟨h1.1,.inl ⟨h1.2.1,h1.2.2⟩⟩
theorem Kp.away (q:Qr):Kp q q.away:=by unfold Qr.away;split<;>exact Kp.same rfl
theorem Kp.fail (q:Qr)(e:Int):Kp q (q.fail e):=(Kp.give q ..).trans (Kp.away _)
theorem Kp.begin (q:Qr):Kp q (q.begin c):=by unfold Qr.begin;split<;>exact Kp.same rfl
theorem Kp.used (q:Qr):Kp q (q.used c):=by
 unfold Qr.used;split
 ·exact Kp.away q
 ·exact Kp.same rfl
theorem Kp.found (q:Qr):Kp q q.found:=by
 unfold Qr.found;split
 ·split
  ·exact Kp.fail ..
  ·exact Kp.same rfl
 ·split
  ·exact Kp.same rfl
  ·split<;>exact Kp.same rfl
theorem Kp.absent (q:Qr):Kp q (q.absent c):=by
 unfold Qr.absent;split
 ·exact Kp.fail ..
 ·exact Kp.same rfl
theorem Kp.nearer (q:Qr)(k:Wd):Kp q (q.nearer k):=by unfold Qr.nearer;split<;>exact Kp.same rfl
theorem Kp.nearest (q:Qr):Kp q q.nearest:=by
 unfold Qr.nearest;split
 ·exact (Kp.give q ..).trans (Kp.away _)
 ·exact Kp.fail ..
theorem Kp.doKS:∀(k:KS)(q:Qr)(G:Gr)(b:Nat),Kp q (doKS c k q G b).1
 |.upd,q,G,b=>(Kp.give q ..).trans (Kp.used _)
 |.takeEnd,q,G,b=>Kp.same rfl
 |.delEnd,q,G,b=>(Kp.give q ..).trans (Kp.same rfl)
 |.used,q,G,b=>Kp.same rfl
 |.layVal k,q,G,b=>Kp.same rfl
 |.layYoung k,q,G,b=>Kp.same rfl
 |.layGive k,q,G,b=>(Kp.give q 0 [] 0 0).trans (Kp.doKS k _ G b)
 |.abs1,q,G,b=>Kp.same rfl
 |.absLay _,q,G,b=>Kp.same rfl
 |.absDef _,q,G,b=>Kp.away q
 |.head _ _,q,G,b=>Kp.same rfl
 |.away,q,G,b=>Kp.away q
 |.begin,q,G,b=>Kp.begin q
 |.room,q,G,b=>Kp.same rfl
theorem Kp.stop (q:Qr)(a:Ask):Kp q (q.stop c a):=by
 cases a
 ·exact Kp.absent q
 ·exact Kp.nearest q
 ·exact (Kp.give q 0 [] 0 0).trans (Kp.same rfl)
theorem Kp.count (q:Qr)(w:Wd)(e h:Int):Kp q (q.count c w e h):=by
 unfold Qr.count;split
 ·exact Kp.fail ..
 ·split<;>exact Kp.same rfl
theorem Kp.doKL (k:KL)(w:Wd)(q:Qr)(G:Gr)(b:Nat):Kp q (doKL c k w q G b).1:=by
 cases k with
 |walkAt a=>
  show Kp q (if w=0 then _ else _);split
  ·exact (Kp.same rfl:Kp q {q with cur:=IntKind.i64.wrap w.toNat}).trans (Kp.stop _ _)
  ·exact Kp.same rfl
 |walkKey a=>
  cases a with
  |key=>
   show Kp q (if w=q.ky then _ else _);split
   ·exact Kp.found q
   ·exact Kp.same rfl
  |near=>exact (Kp.nearer q w).trans (Kp.same rfl)
  |room=>exact Kp.same rfl
 |look=>exact (Kp.give q ..).trans (Kp.used _)
 |take=>exact (Kp.give q ..).trans (Kp.same rfl)
 |count=>exact Kp.count ..
 |unl k=>exact Kp.same rfl
 |young h k=>exact Kp.same rfl
theorem Kp.doNx (nx:Nx)(q:Qr)(G:Gr)(b:Nat):Kp q (doNx c nx q G b).1:=by
 cases nx with
 |none=>exact Kp.refl q
 |enter t k=>
  show Kp q (if _ then _ else _:Qr×Gr).1;split
  ·exact (Kp.same rfl:Kp q {q with nx:=.enter (t.step c G.S).2.1 k}).trans (Kp.doKS ..)
  ·exact Kp.same rfl
 |load a i k=>exact Kp.doKL ..
 |store a i w k=>exact Kp.doKS ..
 |more w=>exact Kp.away q
 |drop=>exact Kp.same rfl
theorem step_kp {q:Qr}(hd:q.dn=false)(G:Gr)(b:Nat):(q.step c G b).1.op=q.op/\((q.step c G b).1.eff=true∨(q.step c G b).1.res=q.res):=by
 rw [step_nx hd];have h:=Kp.doNx (c:=c) q.nx {q with eff:=false} G b;exact ⟨h.1,h.2.symm.imp id λh=>h.2⟩
def Dr (c:Lc)(S:Sm)(d:Wd):Prop:=∃a b e,S.V c.h=some [d,a,b,e]
theorem Dr.acc {i:Int}{f:Wd->Wd}(hz:h≠c.h∨i≠0∨∀w,f w=w)(hv:Dr c S d):Dr c (S.acc h i true f).2 d:=by
 have⟨a,b,e,hv⟩:=hv;cases hf:S.find h with
 |none=>
  have e1:S.acc h i true f=((0,false),{S.cnt with bads:=wr (S.bads+1)}):=by unfold Sm.acc;rw [hf]
  rw [e1];exact ⟨a,b,e,hv⟩
 |some r=>
  by_cases hc:(true:Bool)=true/\0<=i/\i<r.ws.length
  ·have⟨_,h2,h3⟩:=hc;obtain ⟨k,rfl⟩:∃k:Nat,i=(k:Int):=⟨i.toNat,by omega⟩;have hr:S.V h=some r.ws:=by unfold Sm.V;rw [hf];rfl
   have hva:=(V_acc (i:=k) hr (by omega) f).2.1 c.h;by_cases e1:c.h=h
   ·rw [if_pos e1] at hva;rw [<-e1,hv] at hr;simp only [Option.some.injEq] at hr;rw [<-hr] at hva h3;have hk:k<4:=by
     have:((k:Int)<4):=by simpa using h3
     omega
    unfold Dr;rw [hva]
    match k,hk with
    |0,_=>
     have:f d=d:=by
      rcases hz with hz|hz|hz
      ·exact absurd e1.symm hz
      ·exact absurd rfl hz
      ·exact hz d
     refine ⟨a,b,e,?_⟩;show some [f d,a,b,e]=_;rw [this]
    |1,_=>exact ⟨_,_,_,rfl⟩
    |2,_=>exact ⟨_,_,_,rfl⟩
    |3,_=>exact ⟨_,_,_,rfl⟩
   ·rw [if_neg e1,hv] at hva;exact ⟨a,b,e,hva⟩
  ·have e1:S.acc h i true f=((0,false),{S.cnt with bads:=wr (S.bads+1)}):=by unfold Sm.acc;rw [hf];exact if_neg hc
   rw [e1];exact ⟨a,b,e,hv⟩
theorem Dr.frees {hs:List Int}(hv:Dr c S d)(hn:(frees S hs).V c.h≠none):Dr c (frees S hs) d:=by
 have⟨a,b,e,hv⟩:=hv;have h1:=V_frees hs S c.h;by_cases hc:c.h∈hs
 ·rw [if_pos hc] at h1;exact absurd h1 hn
 ·rw [if_neg hc,hv] at h1;exact ⟨a,b,e,h1⟩
theorem Dr.defer {b:Nat}(hv:Dr c G.S d)(hn:(G.defer h b).2.S.V c.h≠none):Dr c (G.defer h b).2.S d:=by
 unfold Gr.defer at hn⊢;split at hn
 ·rename_i hc;rw [if_pos hc];exact hv
 ·rename_i hc;rw [if_neg hc];exact Dr.frees hv hn
theorem Dr.doKS:∀(k:KS)(q:Qr)(G:Gr)(b:Nat),Dr c G.S d->(doKS c k q G b).2.S.V c.h≠none->Dr c (doKS c k q G b).2.S d
 |.upd,q,G,b,h,_=>h
 |.takeEnd,q,G,b,h,hn=>h.defer hn
 |.delEnd,q,G,b,h,hn=>h.defer hn
 |.used,q,G,b,h,_=>h
 |.layVal _,q,G,b,h,_=>h
 |.layYoung _,q,G,b,h,_=>h
 |.layGive k,q,G,b,h,hn=>Dr.doKS k _ G b h hn
 |.abs1,q,G,b,h,_=>h
 |.absLay _,q,G,b,h,_=>h
 |.absDef _,q,G,b,h,hn=>h.defer hn
 |.head _ _,q,G,b,h,_=>h
 |.away,q,G,b,h,_=>h
 |.begin,q,G,b,h,_=>h
 |.room,q,G,b,h,_=>h
theorem Dr.make (hf:S.fresh)(b:Nat)(h:Dr c S d):Dr c (S.make b 3).2 d:=by
 unfold Sm.make;split
 ·exact h
 ·split
  ·exact h
  ·have⟨a,b',e,hv⟩:=h;refine ⟨a,b',e,?_⟩;show (S.mk' b 3).V c.h=_;rw [V_mk b 3 hf,if_neg,hv];intro e2;rw [e2] at hv;unfold Sm.V at hv;rw [show S.find (wr (S.made+1))=none from hf] at hv;cases hv
theorem Dr.step (hd:q.dn=false)(hz:Nz c q.nx)(hf:G.S.fresh)(b:Nat)(h:Dr c G.S d)(hn:(q.step c G b).2.S.V c.h≠none):Dr c (q.step c G b).2.S d:=by
 rw [step_nx hd] at hn⊢;generalize q.nx=nx at hz hn⊢;cases nx with
 |none=>exact h
 |enter t k=>exact hz.elim
 |load a i k=>
  have h1:Dr c (G.mem (G.S.acc a i true id).2).S d:=h.acc (.inr (.inr λw=>rfl));have hf1:(G.mem (G.S.acc a i true id).2).S.fresh:=acc_fresh _ _ _ _ hf;show Dr c (doKL c k _ _ _ b).2.S d;cases k with
  |walkAt a=>exact h1
  |walkKey a=>cases a<;>exact h1
  |look=>exact h1
  |take=>exact h1
  |count=>exact Dr.make hf1 b h1
  |unl k=>exact h1
  |young h k=>exact h1
 |store a i w k=>
  refine Dr.doKS k _ _ b (h.acc ?_) hn;rcases hz with hz|hz
  ·exact .inl hz
  ·exact .inr (.inl hz)
 |more w=>exact h.acc (.inr (.inl (by decide)))
 |drop=>exact h.acc (.inr (.inl (by decide)))
structure Kept (h a:Int)(G:Gr):Prop where
 ins:a∈G.ins
 reg:h∈G.S.regs.map Reg.h
 ws:∀w∈G.q,w.h=h->a∈w.ws
theorem frees_has {hs:List Int}{S:Sm}{h:Int}(h1:h∈S.regs.map Reg.h)(h2:h∉hs):h∈(frees S hs).regs.map Reg.h:=by
 rw [frees_keys];exact List.mem_filter.2 ⟨h1,by simpa using h2⟩
theorem Kept.swept (k:Kept h a G):Kept h a G.swept:=by
 refine ⟨k.ins,frees_has k.reg λhg=>?_,λw hw e=>k.ws w (List.mem_filter.1 hw).1 e⟩;have⟨w,hw,e1,e2⟩:=gone_mem.1 hg
 have:=k.ws w hw e2
 rw [e1] at this;simp at this
theorem Kept.defer (k:Kept h a G)(x:Int)(b:Nat):Kept h a (G.defer x b).2:=by
 unfold Gr.defer;split
 ·exact k
 ·refine Kept.swept ⟨k.ins,k.reg,λw hw e=>?_⟩;rcases List.mem_append.1 hw with hw|hw
  ·exact k.ws w hw e
  ·simp only [List.mem_singleton] at hw;subst hw;exact k.ins
theorem Kept.mem {S:Sm}(k:Kept h a G)(hk:∀x∈G.S.regs.map Reg.h,x∈S.regs.map Reg.h):Kept h a (G.mem S):=⟨k.ins,hk _ k.reg,k.ws⟩
theorem Kept.acc {b i:Int}{may:Bool}{f:Wd->Wd}(k:Kept h a G):Kept h a (G.mem (G.S.acc b i may f).2):=k.mem λx hx=>by rw [acc_keys];exact hx
theorem Kept.make (k:Kept h a G)(b:Nat)(n:Int):Kept h a (G.mem (G.S.make b n).2):=k.mem λx hx=>by
 unfold Sm.make;split
 ·exact hx
 ·split
  ·exact hx
  ·show x∈(G.S.regs++[_]).map Reg.h
   rw [List.map_append];exact List.mem_append_left _ hx
theorem Kept.enter (k:Kept h a G)(b:Int):Kept h a (G.enter b).2:=by
 unfold Gr.enter;split
 ·exact k
 ·exact ⟨List.mem_append_left _ k.ins,k.reg,k.ws⟩
theorem Kept.leave {b:Int}(hn:a≠b)(k:Kept h a G):Kept h a (G.leave b).2:=by
 unfold Gr.leave;split
 ·refine Kept.swept ⟨(List.mem_erase_of_ne hn).2 k.ins,k.reg,λw hw e=>?_⟩;obtain ⟨w',hw',rfl⟩:=List.mem_map.1 hw;exact (List.mem_erase_of_ne hn).2 (k.ws w' hw' e)
 ·exact k
theorem doKS_kept:∀(k:KS)(q:Qr)(G:Gr)(b:Nat),Kept h a G->Kept h a (doKS c k q G b).2
 |.upd,q,G,b,k=>k
 |.takeEnd,q,G,b,k=>k.defer ..
 |.delEnd,q,G,b,k=>k.defer ..
 |.used,q,G,b,k=>k
 |.layVal _,q,G,b,k=>k
 |.layYoung _,q,G,b,k=>k
 |.layGive kk,q,G,b,k=>doKS_kept kk _ G b k
 |.abs1,q,G,b,k=>k
 |.absLay _,q,G,b,k=>k
 |.absDef _,q,G,b,k=>k.defer ..
 |.head _ _,q,G,b,k=>k
 |.away,q,G,b,k=>k
 |.begin,q,G,b,k=>k
 |.room,q,G,b,k=>k
theorem doKL_kept (kk:KL)(w:Wd)(q:Qr)(G:Gr)(b:Nat)(k:Kept h a G):Kept h a (doKL c kk w q G b).2:=by
 cases kk with
 |walkAt a=>exact k
 |walkKey a=>cases a<;>exact k
 |look=>exact k
 |take=>exact k
 |count=>exact k.make b 3
 |unl _=>exact k
 |young _ _=>exact k
theorem doNx_kept (nx:Nx)(q:Qr)(G:Gr)(b:Nat)(k:Kept h a G):Kept h a (doNx c nx q G b).2:=by
 cases nx with
 |none=>exact k
 |enter t kk=>
  have k1:Kept h a (G.mem (t.step c G.S).2.2):=by
   unfold Tk.step;split
   ·exact k.acc
   ·split
    ·split<;>exact k.acc
    ·exact k
  show Kept h a (if _ then _ else _:Qr×Gr).2;split
  ·exact doKS_kept kk _ _ b k1
  ·exact k1
 |load x i kk=>exact doKL_kept kk _ _ _ b k.acc
 |store x i w kk=>exact doKS_kept kk _ _ b k.acc
 |more w=>exact k.acc
 |drop=>exact k.acc
theorem step_kept {q:Qr}(G:Gr)(b:Nat)(hd:q.dn=false)(k:Kept h a G):Kept h a (q.step c G b).2:=by
 rw [step_nx hd];exact doNx_kept _ _ _ _ k
structure RI (c:Lc)(cap:Cx)(m0:Int)(G G1:Gr):Prop where
 mem:∀{l:List El}{x:List Int}{cnt:Wd},Mem c cap G l x cnt->Mem c cap G1 l x cnt
 made:G1.S.made=G.S.made
 words:∀{l:List El}{x:List Int}{cnt:Wd}{h:Int}{p v r:Wd},Mem c cap G l x cnt->h∈l.map El.h++x->G.S.V h=some [p,v,r]->∃v',G1.S.V h=some [p,v',r]/\(m0<h->v'=v)
theorem RI.rely:Rely c cap m0 (RI c cap m0):=⟨λh M=>h.mem M,λh=>h.made,λh M hh hv=>h.words M hh hv⟩
theorem RI.refl (G:Gr):RI c cap m0 G G:=⟨λM=>M,rfl,λ_ _ hv=>⟨_,hv,λ_=>rfl⟩⟩
theorem RI.trans {G1 G2:Gr}(h1:RI c cap m0 G G1)(h2:RI c cap m0 G1 G2):RI c cap m0 G G2:=by
 refine ⟨λM=>h2.mem (h1.mem M),h2.made.trans h1.made,λM hh hv=>?_⟩;have⟨v1,e1,k1⟩:=h1.words M hh hv;have⟨v2,e2,k2⟩:=h2.words (h1.mem M) hh e1;exact ⟨v2,e2,λhm=>(k2 hm).trans (k1 hm)⟩
abbrev cxT (sv:Wd):Cx:=⟨λ_=>True,sv⟩
variable {sv:Wd}
theorem Mem.lx (M:Mem c cap G l x cnt)(hm:h∈l.map El.h++x):h≠c.h:=M.ne_c (List.mem_append_left _ hm)
theorem RI.draw:RI c (cxT sv) m0 G (G.mem (G.S.acc c.h 0 true (addF 1)).2):=by
 refine ⟨λM=>?_,acc_made ..,λM hh hv=>?_⟩
 ·have⟨d,_,_,_,M2,_⟩:=M.draw (dq':=λ_=>True) (addF 1) (λ_ _=>trivial);exact M2
 ·have⟨d,_,_,_,_,_,same⟩:=M.draw (dq':=λ_=>True) (addF 1) (λ_ _=>trivial);exact ⟨_,(same _ (M.lx hh)).trans hv,λ_=>rfl⟩
theorem RI.look:RI c cap m0 G (G.mem (G.S.acc c.h 1 true id).2):=by
 refine ⟨λM=>?_,acc_made ..,λM hh hv=>?_⟩
 ·have⟨dr,_,hc⟩:=M.lock;exact (M.load (i:=1) hc (by simp)).2.1
 ·have⟨dr,_,hc⟩:=M.lock;exact ⟨_,((M.load (i:=1) hc (by simp)).2.2 _).trans hv,λ_=>rfl⟩
theorem Mem.of_reg (M:Mem c cap G l x cnt)(hm:h∈G.S.regs.map Reg.h)(hc:h≠c.h):h∈l.map El.h++x++G.q.map Wt.h:=by
 have:=M.perm.mem_iff.1 hm
 rcases List.mem_cons.1 this with e|e
 ·exact absurd e hc
 ·exact e
theorem RI.cell (hm:h∈G.S.regs.map Reg.h)(hc:h≠c.h)(hh:h<=m0)(w:Wd):RI c cap m0 G (G.mem (G.S.acc h 1 true λ_=>w).2):=by
 refine ⟨λM=>?_,acc_made ..,λ{l x cnt a p v r} M ha hv=>?_⟩
 ·have⟨p,v,r,hv⟩:=M.alive (M.of_reg hm hc);exact (M.stVal hv (M.of_reg hm hc) w).2.1
 ·have⟨p',v',r',hv'⟩:=M.alive (M.of_reg hm hc);have e:=(M.stVal hv' (M.of_reg hm hc) w).2.2 a;by_cases e1:a=h
  ·subst e1;rw [if_pos rfl] at e;rw [hv] at hv';simp only [Option.some.injEq,List.cons.injEq,and_true] at hv';obtain ⟨rfl,rfl,rfl⟩:=hv';exact ⟨w,e,λh2=>by omega⟩
  ·rw [if_neg e1] at e;exact ⟨v,e.trans hv,λ_=>rfl⟩
theorem RI.cellLd (hm:h∈G.S.regs.map Reg.h)(hc:h≠c.h):RI c cap m0 G (G.mem (G.S.acc h 1 true id).2):=by
 refine ⟨λM=>?_,acc_made ..,λ{l x cnt a p v r} M ha hv=>?_⟩
 ·have⟨p,v,r,hv⟩:=M.alive (M.of_reg hm hc);exact (M.load (i:=1) hv (by simp)).2.1
 ·have⟨p',v',r',hv'⟩:=M.alive (M.of_reg hm hc);exact ⟨v,((M.load (i:=1) hv' (by simp)).2.2 a).trans hv,λ_=>rfl⟩
theorem leave_made {a:Int}:(G.leave a).2.S.made=G.S.made:=by
 unfold Gr.leave;split
 ·exact frees_made _ _
 ·rfl
theorem leave_count {a:Int}:(G.leave a).2.S.count=G.S.count:=by
 unfold Gr.leave;split
 ·exact frees_count _ _
 ·rfl
theorem enter_S {a:Int}:(G.enter a).2.S=G.S/\(G.enter a).2.q=G.q:=by unfold Gr.enter;split<;>exact ⟨rfl,rfl⟩
theorem RI.enter (a:Int):RI c cap m0 G (G.enter a).2:=by
 refine ⟨λM=>(M.enter a).1,by rw [enter_S.1],λM hh hv=>⟨_,by rw [enter_S.1];exact hv,λ_=>rfl⟩⟩
theorem RI.leave (a:Int):RI c cap m0 G (G.leave a).2:=by
 refine ⟨λM=>(M.leave a).1,leave_made,λ{l x cnt b p v r} M hh hv=>?_⟩;have⟨M2,f⟩:=M.leave a;have⟨p',v',r',h2⟩:=M2.alive (h:=b) (List.mem_append_left _ hh);exact ⟨v,(f b (by rw [h2];simp)).trans hv,λ_=>rfl⟩
end
section
variable {c:Lc} {G G':Gr} {la la':List El} {m0:Int} {q:Qr} {S S':Sm} {hs:List Int}
structure Dq where
 L:List (Wd×Nat)
 ws:List Wd
variable {D:Dq}
def Dq.find (D:Dq)(k:Wd):Option (Wd×Nat):=D.L.find? λp=>p.1==k
def Dq.less (D:Dq)(k:Wd):List (Wd×Nat):=D.L.filter λp=>p.1 !=k
def Dq.keys (D:Dq):List Wd:=srt (D.L.map (·.1))
abbrev Rs:=Int×List Wd×Wd×Nat
def meant (ky:Wd)(fl:Int)(k:Wd):Bool:=fl==1||decide (ky.toNat<k.toNat)
def Dq.next (D:Dq)(ky:Wd)(fl:Int):Rs:=match D.keys.find? (meant ky fl) with|some k=>(0,[],k,0)|none=>(2,[],0,0)
def Dq.do (E kd:Int)(ky:Wd)(fl:Int)(v:Wd)(D:Dq):Rs×Dq:=
 if kd=4 then (D.next ky fl,D) else
 match D.find ky with
 |some p=>
  if kd=2 then (if fl=1 then ((3,[],0,0),D) else ((0,[],0,0),⟨D.less ky++[p],D.ws.set (p.2 - 1) v⟩))
  else if kd=1 then ((0,[D.ws.getD (p.2 - 1) 0],0,p.2),⟨D.less ky++[p],D.ws⟩)
  else if kd=5 then ((0,[D.ws.getD (p.2 - 1) 0],0,0),⟨D.less ky,D.ws⟩)
  else ((0,[],0,0),⟨D.less ky,D.ws⟩)
 |none=>
  if kd≠2∨fl=2 then ((2,[],0,0),D)
  else ((0,[],0,0),⟨(if (D.L.length:Int)<E then D.L else D.L.drop 1)++[(ky,D.ws.length+1)],D.ws++[v]⟩)
def elO (hs:List Int)(p:Wd×Nat):El:=⟨hs.getD (p.2 - 1) 0,p.1⟩
structure Cor (hs:List Int)(D:Dq)(la:List El):Prop where
 map:la=(D.L.map (elO hs)).reverse
 rng:∀p∈D.L,1<=p.2/\p.2<=hs.length
 len:D.ws.length=hs.length
def VR (S:Sm)(hs:List Int)(ws:List Wd):Prop:=∀(i:Nat)(h:Int)(w:Wd),hs[i]? =some h->ws[i]? =some w->S.V h≠none->val S h=w
theorem srt_perm (l:List Wd):(srt l).Perm l:=List.mergeSort_perm ..
theorem srt_sorted (l:List Wd):(srt l).Pairwise λa b=>a.toNat<=b.toNat:=by
 have:=List.pairwise_mergeSort (le:=λa b:Wd=>decide (a.toNat<=b.toNat)) (λa b c h1 h2=>by simp only [decide_eq_true_eq] at *;omega) (λa b=>by simp only [Bool.or_eq_true,decide_eq_true_eq];omega) l
 exact this.imp λh=>by simpa using h
theorem srt_unique {l l':List Wd}(hp:l.Perm l')(h1:l.Pairwise λa b=>a.toNat<=b.toNat)(h2:l'.Pairwise λa b=>a.toNat<=b.toNat):l=l':=
 hp.eq_of_pairwise (λa b _ _ h3 h4=>BitVec.eq_of_toNat_eq (by omega)) h1 h2
theorem srt_of_perm {l l':List Wd}(hp:l.Perm l'):srt l=srt l':=
 srt_unique ((srt_perm l).trans (hp.trans (srt_perm l').symm)) (srt_sorted l) (srt_sorted l')
theorem Cor.keysP (C:Cor hs D la):(la.map El.k).Perm (D.L.map (·.1)):=by
 rw [C.map,List.map_reverse,List.map_map];exact List.reverse_perm _
theorem Cor.keys (C:Cor hs D la):srt (la.map El.k)=D.keys:=srt_of_perm C.keysP
theorem Cor.length (C:Cor hs D la):la.length=D.L.length:=by rw [C.map];simp
theorem find_map_rev {α β:Type}(f:α->β)(p:β->Bool)(pa:α->Bool)(hpa:∀x,p (f x)=pa x):∀(l:List α),(∀x∈l,∀y∈l,pa x=true->pa y=true->x=y)->(l.map f).reverse.find? p=(l.find? pa).map f
 |[],_=>rfl
 |a::l,h=>by
  rw [List.map_cons,List.reverse_cons,List.find?_append,find_map_rev f p pa hpa l λx hx y hy=>h x (by simp [hx]) y (by simp [hy])]
  cases hp:pa a with
  |true=>
   rw [List.find?_cons_of_pos hp]
   cases hf:l.find? pa with
   |none=>simp [hpa,hp]
   |some b=>
    have:=h b (List.mem_cons_of_mem _ (List.mem_of_find?_eq_some hf)) a (by simp) (List.find?_some hf) hp
    subst this;rfl
  |false=>
   rw [List.find?_cons_of_neg (p:=pa) (a:=a) (by simp [hp])]
   cases hf:l.find? pa with
   |none=>simp [hpa,hp]
   |some b=>rfl
theorem eq_of_key {l:List (Wd×Nat)}(nd:(l.map (·.1)).Nodup){x y:Wd×Nat}(hx:x∈l)(hy:y∈l)(e:x.1=y.1):x=y:=by
 induction l with
 |nil=>simp at hx
 |cons a l ih=>
  rw [List.map_cons,List.nodup_cons] at nd;rcases List.mem_cons.1 hx with hx|hx
  ·rcases List.mem_cons.1 hy with hy|hy
   ·rw [hx,hy]
   ·exact (nd.1 (List.mem_map.2 ⟨y,hy,by rw [<-e,hx]⟩)).elim
  ·rcases List.mem_cons.1 hy with hy|hy
   ·exact (nd.1 (List.mem_map.2 ⟨x,hx,by rw [e,hy]⟩)).elim
   ·exact ih nd.2 hx hy
theorem Cor.find (C:Cor hs D la)(nd:(la.map El.k).Nodup)(k:Wd):findK la k=(D.find k).map (elO hs):=by
 have nd2:(D.L.map (·.1)).Nodup:=C.keysP.nodup_iff.1 nd;unfold findK Dq.find;rw [C.map];refine find_map_rev _ _ _ (λx=>rfl) _ λx hx y hy h1 h2=>eq_of_key nd2 hx hy ?_
 simp only [beq_iff_eq] at h1 h2;exact h1.trans h2.symm
theorem Cor.less (C:Cor hs D la)(k:Wd):rm la k=((D.less k).map (elO hs)).reverse:=by
 unfold rm Dq.less;rw [C.map,List.filter_reverse,List.filter_map];rfl
theorem elO_ext {hs hs':List Int}{p:Wd×Nat}(h1:1<=p.2/\p.2<=hs.length):elO (hs++hs') p=elO hs p:=by
 unfold elO;rw [List.getD_eq_getElem?_getD,List.getElem?_append_left (by omega),<-List.getD_eq_getElem?_getD]
theorem near_fold (fl:Int)(ky:Wd):∀(l:List El)(b:Option Wd),(∀q:Qr,q.fl=fl->q.ky=ky->∀w,(l.foldl (nearF q) b=some w↔(b=some w∨(∃e∈l,e.k=w/\meant ky fl w=true))/\(∀e∈l,meant ky fl e.k=true->w.toNat<=e.k.toNat)/\∀x,b=some x->w.toNat<=x.toNat)):=by
 intro l
 induction l with
 |nil=>
  intro b q _ _ w;simp only [List.foldl_nil,List.not_mem_nil,false_and,exists_false,or_false,false_implies,implies_true,true_and];constructor
  ·intro h;exact ⟨h,λx hx=>by rw [h] at hx;injection hx with hx;subst hx;exact Nat.le_refl _⟩
  ·exact λh=>h.1
 |cons e l ih=>
  intro b q h1 h2 w;rw [List.foldl_cons,ih _ q h1 h2 w];have hm:(q.fl=1∨q.ky.toNat<e.k.toNat)↔meant ky fl e.k=true:=by
   unfold meant;rw [h1,h2];simp
  by_cases hc:meant ky fl e.k=true
  ·cases b with
   |none=>
    have en:nearF q none e=some e.k:=by unfold nearF;rw [if_pos ⟨hm.2 hc,rfl⟩]
    rw [en];constructor
    ·rintro ⟨h3,h4,h5⟩;refine ⟨.inr ?_,λy hy hy2=>?_,λx hx=>by cases hx⟩
     ·rcases h3 with h3|⟨y,hy,e1,e2⟩
      ·injection h3 with h3;exact ⟨e,by simp,h3,by rw [<-h3];exact hc⟩
      ·exact ⟨y,by simp [hy],e1,e2⟩
     ·rcases List.mem_cons.1 hy with rfl|hy
      ·exact h5 _ rfl
      ·exact h4 y hy hy2
    ·rintro ⟨h3,h4,h5⟩;refine ⟨?_,λy hy=>h4 y (by simp [hy]),λx hx=>by injection hx with hx;subst hx;exact h4 e (by simp) hc⟩;rcases h3 with h3|⟨y,hy,e1,e2⟩
     ·cases h3
     ·rcases List.mem_cons.1 hy with rfl|hy
      ·exact .inl (by rw [e1])
      ·exact .inr ⟨y,hy,e1,e2⟩
   |some x=>
    by_cases hx:e.k.toNat<x.toNat
    ·have en:nearF q (some x) e=some e.k:=by unfold nearF;rw [if_pos ⟨hm.2 hc,by simpa using hx⟩]
     rw [en];constructor
     ·rintro ⟨h3,h4,h5⟩;have h6:=h5 _ rfl;refine ⟨?_,λy hy hy2=>?_,λz hz=>by injection hz with hz;subst hz;omega⟩
      ·rcases h3 with h3|⟨y,hy,e1,e2⟩
       ·injection h3 with h3;exact .inr ⟨e,by simp,h3,by rw [<-h3];exact hc⟩
       ·exact .inr ⟨y,by simp [hy],e1,e2⟩
      ·rcases List.mem_cons.1 hy with rfl|hy
       ·exact h6
       ·exact h4 y hy hy2
     ·rintro ⟨h3,h4,h5⟩;have h6:=h4 e (by simp) hc;refine ⟨?_,λy hy=>h4 y (by simp [hy]),λz hz=>by injection hz with hz;subst hz;exact h6⟩;rcases h3 with h3|⟨y,hy,e1,e2⟩
      ·injection h3 with h3;subst h3;omega
      ·rcases List.mem_cons.1 hy with rfl|hy
       ·exact .inl (by rw [e1])
       ·exact .inr ⟨y,hy,e1,e2⟩
    ·have en:nearF q (some x) e=some x:=by unfold nearF;rw [if_neg (λh=>hx (by simpa using h.2))]
     rw [en];constructor
     ·rintro ⟨h3,h4,h5⟩;have h6:=h5 _ rfl;refine ⟨h3.imp id λ⟨y,hy,e1,e2⟩=>⟨y,by simp [hy],e1,e2⟩,λy hy hy2=>?_,h5⟩;rcases List.mem_cons.1 hy with rfl|hy
      ·omega
      ·exact h4 y hy hy2
     ·rintro ⟨h3,h4,h5⟩;have h6:=h5 _ rfl;refine ⟨?_,λy hy=>h4 y (by simp [hy]),h5⟩;rcases h3 with h3|⟨y,hy,e1,e2⟩
      ·exact .inl h3
      ·rcases List.mem_cons.1 hy with rfl|hy
       ·left
        have:x=w:=BitVec.eq_of_toNat_eq (by subst e1;omega)
        rw [this]
       ·exact .inr ⟨y,hy,e1,e2⟩
  ·have en:nearF q b e=b:=by unfold nearF;rw [if_neg (λh=>hc (hm.1 h.1))]
   rw [en];constructor
   ·rintro ⟨h3,h4,h5⟩;refine ⟨h3.imp id λ⟨y,hy,e1,e2⟩=>⟨y,by simp [hy],e1,e2⟩,λy hy hy2=>?_,h5⟩;rcases List.mem_cons.1 hy with rfl|hy
    ·exact absurd hy2 hc
    ·exact h4 y hy hy2
   ·rintro ⟨h3,h4,h5⟩;refine ⟨h3.imp id λ⟨y,hy,e1,e2⟩=>?_,λy hy=>h4 y (by simp [hy]),h5⟩;rcases List.mem_cons.1 hy with rfl|hy
    ·rw [e1] at hc;exact absurd e2 hc
    ·exact ⟨y,hy,e1,e2⟩
theorem find_sorted {p:Wd->Bool}:∀{l:List Wd},(l.Pairwise λa b=>a.toNat<=b.toNat)->∀{w:Wd},l.find? p=some w->p w=true/\w∈l/\∀x∈l,p x=true->w.toNat<=x.toNat
 |[],_,w,h=>by simp at h
 |a::l,hs,w,h=>by
  rw [List.pairwise_cons] at hs
  cases hp:p a with
  |true=>
   rw [List.find?_cons_of_pos hp] at h
   injection h with h;subst h
   refine ⟨hp,by simp,λx hx _=>?_⟩
   rcases List.mem_cons.1 hx with rfl|hx
   ·exact Nat.le_refl _
   ·exact hs.1 x hx
  |false=>
   rw [List.find?_cons_of_neg (by simp [hp])] at h
   have⟨h1,h2,h3⟩:=find_sorted hs.2 h
   refine ⟨h1,by simp [h2],λx hx hx2=>?_⟩
   rcases List.mem_cons.1 hx with rfl|hx
   ·rw [hp] at hx2;cases hx2
   ·exact h3 x hx hx2
theorem Cor.next (C:Cor hs D la):nearRes q la=((D.next q.ky q.fl).1,(D.next q.ky q.fl).2.1,(D.next q.ky q.fl).2.2.1,((D.next q.ky q.fl).2.2.2:Int)):=by
 have hmem:∀w,w∈D.keys↔∃e∈la,e.k=w:=λw=>by
  rw [<-C.keys,(srt_perm _).mem_iff,List.mem_map]
 have hf:=near_fold q.fl q.ky la none q rfl rfl;unfold nearRes Dq.next;cases h:D.keys.find? (meant q.ky q.fl) with
 |some w=>
  have⟨h1,h2,h3⟩:=find_sorted (srt_sorted _) h;have⟨e,he,e1⟩:=(hmem w).1 h2
  have:=(hf w).2 ⟨.inr ⟨e,he,e1,h1⟩,λy hy hy2=>h3 y.k ((hmem _).2 ⟨y,hy,rfl⟩) hy2,λx hx=>by cases hx⟩
  rw [this];rfl
 |none=>
  have hn:=List.find?_eq_none.1 h
  have:la.foldl (nearF q) none=none:=by
   cases hw:la.foldl (nearF q) none with
   |none=>rfl
   |some w=>
    rcases ((hf w).1 hw).1 with h1|⟨e,he,e1,e2⟩
    ·cases h1
    ·exact absurd e2 (hn w ((hmem w).2 ⟨e,he,e1⟩))
  rw [this];rfl
theorem rm_keys {k:Wd}(nd:(la.map El.k).Nodup):((rm la k).map El.k).Nodup/\k∉(rm la k).map El.k:=by
 refine ⟨nd.sublist (List.filter_sublist.map _),λh=>?_⟩;have⟨e,he,e2⟩:=List.mem_map.1 h
 have:=(List.mem_filter.1 he).2
 simp only [bne_iff_ne,ne_eq] at this;exact this e2
theorem rm_len {k:Wd}{e:El}(h:findK la k=some e):(rm la k).length<la.length:=by
 unfold rm;have hm:=List.mem_of_find?_eq_some h;have hk:=List.find?_some h;exact List.length_filter_lt_length_iff_exists.2 ⟨e,hm,by simpa using hk⟩
theorem Eff.keeps {Ga Gb:Gr}(he:Eff c m0 Ga q Gb la la')(nd:(la.map El.k).Nodup)(hle:(la.length:Int)<=c.d1)(hd:1<=c.d1):(la'.map El.k).Nodup/\(la'.length:Int)<=c.d1:=by
 unfold Eff at he;split at he
 ·rw [he.1];exact ⟨nd,hle⟩
 split at he
 ·rw [he.1];exact ⟨nd,hle⟩
 ·split at he
  ·rename_i e hf;have hk:e.k=q.ky:=by simpa using List.find?_some hf
   have h1:=rm_keys (k:=q.ky) nd;have h2:=rm_len hf;have h3:((e::rm la q.ky).map El.k).Nodup:=by
    rw [List.map_cons,List.nodup_cons,hk];exact ⟨h1.2,h1.1⟩
   have h4:((e::rm la q.ky).length:Int)<=c.d1:=by rw [List.length_cons];omega
   split at he
   ·split at he
    ·rw [he.2];exact ⟨nd,hle⟩
    ·rw [he.2.1];exact ⟨h3,h4⟩
   ·split at he
    ·rw [he.2.1];exact ⟨h3,h4⟩
    ·split at he
     ·rw [he.2.1];exact ⟨h1.1,by omega⟩
     ·rw [he.2];exact ⟨h1.1,by omega⟩
  ·rename_i hf;have hno:q.ky∉la.map El.k:=λh=>by
    have⟨e,he,e2⟩:=List.mem_map.1 h
    have:=List.find?_eq_none.1 hf e he
    simp only [beq_iff_eq] at this;exact this e2
   split at he
   ·rw [he.2];exact ⟨nd,hle⟩
   ·rcases he with he|⟨_,h,_,_,_,e1,_⟩
    ·rw [he.2.1];exact ⟨nd,hle⟩
    ·rw [e1];split
     ·refine ⟨?_,by rw [List.length_cons];omega⟩;rw [List.map_cons,List.nodup_cons];exact ⟨hno,nd⟩
     ·refine ⟨?_,by rw [List.length_cons,List.length_dropLast];omega⟩;rw [List.map_cons,List.nodup_cons];exact ⟨λh=>hno (List.map_subset _ (List.dropLast_subset _) h),nd.sublist ((List.dropLast_sublist _).map _)⟩
theorem el_of_k:∀{l:List El},(l.map El.k).Nodup->∀{x y:El},x∈l->y∈l->x.k=y.k->x=y
 |[],_,_,_,h1,_,_=>by simp at h1
 |z::l,nd,x,y,h1,h2,e=>by
  rw [List.map_cons,List.nodup_cons] at nd
  rcases List.mem_cons.1 h1 with h1|h1
  ·rcases List.mem_cons.1 h2 with h2|h2
   ·rw [h1,h2]
   ·exact (nd.1 (List.mem_map.2 ⟨y,h2,by rw [<-e,h1]⟩)).elim
  ·rcases List.mem_cons.1 h2 with h2|h2
   ·exact (nd.1 (List.mem_map.2 ⟨x,h1,by rw [e,h2]⟩)).elim
   ·exact el_of_k nd.2 h1 h2 e
def elOf (hs:List Int)(n:Nat):Int:=if n=0 then 0 else hs.getD (n - 1) 0
structure Told (c:Lc)(m0:Int)(hs:List Int)(D:Dq)(q:Qr)(G':Gr)(la':List El)(hs':List Int)(D':Dq):Prop where
 cor:Cor hs' D' la'
 vals:VR G'.S hs' D'.ws
 hs:hs'=hs∨∃h,hs'=hs++[h]/\m0<h/\h<=G'.S.made/\h≠c.h
theorem VR.keep {ws:List Wd}(h:VR S hs ws)(hk:∀a∈hs,S'.V a≠none->S.V a≠none/\val S' a=val S a):VR S' hs ws:=λi a w h1 h2 h3=>by
 have⟨x1,x2⟩:=hk a (List.mem_of_getElem? h1) h3
 exact x2.trans (h i a w h1 h2 x1)
theorem findK_mem {k:Wd}{e:El}(h:findK la k=some e):e∈la/\e.k=k:=⟨List.mem_of_find?_eq_some h,by simpa using List.find?_some h⟩
theorem Eff.doc (he:Eff c m0 G q G' la la')(hv:q.vb=none)(C:Cor hs D la)(nd:(la.map El.k).Nodup)(hb:∀h∈hs,h<=m0/\h≠c.h)(hnd:hs.Nodup)(V:VR G.S hs D.ws)
  (hvals:∀h,h<=m0->h≠c.h->G'.S.V h≠none->G.S.V h≠none/\((q.kd=2/\q.fl≠1/\q.vb=none/\∃e∈la,e.h=h/\e.k=q.ky)∨val G'.S h=val G.S h)) :
  (q.res=(5,[],0,0)/\la'=la/\G.S.room<3/\q.kd=2/\q.fl≠2/\VR G'.S hs D.ws)∨
  (q.res=((D.do c.d1 q.kd q.ky q.fl q.val).1.1,(D.do c.d1 q.kd q.ky q.fl q.val).1.2.1,(D.do c.d1 q.kd q.ky q.fl q.val).1.2.2.1,elOf hs (D.do c.d1 q.kd q.ky q.fl q.val).1.2.2.2)/\
   (D.do c.d1 q.kd q.ky q.fl q.val).1.2.2.2<=hs.length/\∃hs',Told c m0 hs D q G' la' hs' (D.do c.d1 q.kd q.ky q.fl q.val).2):=by
 unfold Eff at he;rw [hv,if_neg (by simp)] at he;have same:(¬∃e∈la,e.k=q.ky/\q.kd=2/\q.fl≠1)->∀a∈hs,G'.S.V a≠none->G.S.V a≠none/\val G'.S a=val G.S a:=λhne a ha hn=>by
  have⟨x1,x2⟩:=hvals a (hb a ha).1 (hb a ha).2 hn;exact ⟨x1,x2.resolve_left λ⟨y1,y0,_,e,y2,y3,y4⟩=>hne ⟨e,y2,y4,y1,y0⟩⟩
 by_cases h4:q.kd=4
 ·rw [if_pos h4] at he;right;obtain ⟨rfl,hr⟩:=he;have ed:D.do c.d1 q.kd q.ky q.fl q.val=(D.next q.ky q.fl,D):=if_pos h4;have hn0:(D.next q.ky q.fl).2.2.2=0:=by unfold Dq.next;split<;>rfl
  rw [ed];refine ⟨?_,by rw [hn0];exact Nat.zero_le _,hs,C,V.keep (same λ⟨e,_,_,h,_⟩=>by rw [h4] at h;cases h),.inl rfl⟩;rw [hr,C.next]
  have:((D.next q.ky q.fl).2.2.2:Int)=elOf hs (D.next q.ky q.fl).2.2.2:=by rw [hn0];rfl
  rw [this]
 rw [if_neg h4] at he;have hfind:=C.find nd q.ky;cases hd:D.find q.ky with
 |some p=>
  rw [hd] at hfind;rw [hfind] at he;simp only [Option.map_some] at he;have⟨hp,hpk⟩:=findK_mem hfind;have hpm:p∈D.L:=List.mem_of_find?_eq_some hd;have⟨r1,r2⟩:=C.rng p hpm;have⟨h0,hh0⟩:∃h0,hs[p.2 - 1]? =some h0:=⟨_,List.getElem?_eq_getElem (by omega)⟩;have eh0:(elO hs p).h=h0:=by unfold elO;rw [List.getD_eq_getElem?_getD,hh0];rfl
  have hw0:D.ws[p.2 - 1]? =some (D.ws.getD (p.2 - 1) 0):=by
   have:p.2 - 1<D.ws.length:=by rw [C.len];omega
   rw [List.getD_eq_getElem?_getD,List.getElem?_eq_getElem this];rfl
  have cl:∀ws:List Wd,ws.length=D.ws.length->Cor hs ⟨D.less q.ky++[p],ws⟩ (elO hs p::rm la q.ky):=λws hl=>by
   refine ⟨?_,λx hx=>?_,hl.trans C.len⟩
   ·show _=((D.less q.ky++[p]).map (elO hs)).reverse;rw [List.map_append,List.reverse_append,C.less];rfl
   ·rcases List.mem_append.1 hx with hx|hx
    ·exact C.rng x (List.mem_filter.1 hx).1
    ·simp only [List.mem_singleton] at hx;subst hx;exact C.rng x hpm
  have cr:Cor hs ⟨D.less q.ky,D.ws⟩ (rm la q.ky):=⟨C.less _,λx hx=>C.rng x (List.mem_filter.1 hx).1,C.len⟩;right;by_cases k2:q.kd=2
  ·rw [if_pos k2] at he;by_cases f1:q.fl=1
   ·rw [if_pos f1] at he;have ed:D.do c.d1 q.kd q.ky q.fl q.val=((3,[],0,0),D):=by unfold Dq.do;rw [if_neg h4,hd];simp only;rw [if_pos k2,if_pos f1]
    rw [ed];obtain ⟨hr,rfl⟩:=he;exact ⟨hr,Nat.zero_le _,hs,C,V.keep (same λ⟨e,_,_,_,h⟩=>h f1),.inl rfl⟩
   ·rw [if_neg f1] at he;have ed:D.do c.d1 q.kd q.ky q.fl q.val=((0,[],0,0),⟨D.less q.ky++[p],D.ws.set (p.2 - 1) q.val⟩):=by unfold Dq.do;rw [if_neg h4,hd];simp only;rw [if_pos k2,if_neg f1]
    rw [ed];obtain ⟨hr,rfl,hval⟩:=he;refine ⟨hr,Nat.zero_le _,hs,cl _ (by simp),λi a w h1 h2 h3=>?_,.inl rfl⟩;by_cases ei:i=p.2 - 1
    ·subst ei;rw [hh0] at h1;injection h1 with h1;subst h1
     have h2:(D.ws.set (p.2 - 1) q.val)[p.2 - 1]? =some w:=h2;rw [List.getElem?_set_self (by rw [C.len];omega)] at h2;injection h2 with h2;subst h2
     rw [<-eh0];exact hval
    ·have h2:(D.ws.set (p.2 - 1) q.val)[i]? =some w:=h2;rw [List.getElem?_set_ne (Ne.symm ei)] at h2;have ha:=List.mem_of_getElem? h1;have⟨x1,x2⟩:=hvals a (hb a ha).1 (hb a ha).2 h3;have x2:=x2.resolve_left λ⟨_,_,_,e,y2,y3,y4⟩=>by
      rw [el_of_k nd y2 hp (y4.trans hpk.symm),eh0] at y3;exact ei ((List.getElem?_inj (List.getElem?_eq_some_iff.1 h1).1 hnd).1 (by rw [h1,hh0,y3]))
     exact x2.trans (V i a w h1 h2 x1)
  ·rw [if_neg k2] at he;have sm:=V.keep (S':=G'.S) (same λ⟨e,_,_,h,_⟩=>k2 h);have vl:G'.S.V (elO hs p).h≠none->val G'.S (elO hs p).h=D.ws.getD (p.2 - 1) 0:=λhn=>by
    rw [eh0] at hn⊢;exact sm _ _ _ hh0 hw0 hn
   by_cases k1:q.kd=1
   ·rw [if_pos k1] at he;have ed:D.do c.d1 q.kd q.ky q.fl q.val=((0,[D.ws.getD (p.2 - 1) 0],0,p.2),⟨D.less q.ky++[p],D.ws⟩):=by unfold Dq.do;rw [if_neg h4,hd];simp only;rw [if_neg k2,if_pos k1]
    rw [ed];obtain ⟨hr,rfl,hn⟩:=he;refine ⟨?_,r2,hs,cl _ rfl,sm,.inl rfl⟩;rw [hr,vl hn];show _=((0:Int),[D.ws.getD (p.2 - 1) 0],(0:Wd),elOf hs p.2);unfold elOf;rw [if_neg (by omega)];rfl
   ·rw [if_neg k1] at he;by_cases k5:q.kd=5
    ·rw [if_pos k5] at he;have ed:D.do c.d1 q.kd q.ky q.fl q.val=((0,[D.ws.getD (p.2 - 1) 0],0,0),⟨D.less q.ky,D.ws⟩):=by unfold Dq.do;rw [if_neg h4,hd];simp only;rw [if_neg k2,if_neg k1,if_pos k5]
     rw [ed];obtain ⟨hr,rfl,hn⟩:=he;refine ⟨?_,Nat.zero_le _,hs,cr,sm,.inl rfl⟩;rw [hr,vl hn];rfl
    ·rw [if_neg k5] at he;have ed:D.do c.d1 q.kd q.ky q.fl q.val=((0,[],0,0),⟨D.less q.ky,D.ws⟩):=by unfold Dq.do;rw [if_neg h4,hd];simp only;rw [if_neg k2,if_neg k1,if_neg k5]
     rw [ed];obtain ⟨hr,rfl⟩:=he;exact ⟨hr,Nat.zero_le _,hs,cr,sm,.inl rfl⟩
 |none=>
  rw [hd] at hfind;rw [hfind] at he;simp only [Option.map_none] at he;have hne:∀e∈la,e.k≠q.ky:=λe hm=>by simpa using List.find?_eq_none.1 hfind e hm
  have sm:=V.keep (S':=G'.S) (same λ⟨e,hm,h,_⟩=>hne e hm h);by_cases ha:q.kd≠2∨q.fl=2
  ·rw [if_pos ha] at he;have ed:D.do c.d1 q.kd q.ky q.fl q.val=((2,[],0,0),D):=by unfold Dq.do;rw [if_neg h4,hd];simp only;rw [if_pos ha]
   rw [ed];obtain ⟨hr,rfl⟩:=he;exact .inr ⟨hr,Nat.zero_le _,hs,C,sm,.inl rfl⟩
  ·rw [if_neg ha] at he;simp only [not_or,ne_eq,Decidable.not_not] at ha;rcases he with ⟨hr,rfl,hroom⟩|⟨hr,h,hm,hmade,hhc,rfl,hval⟩
   ·exact .inl ⟨hr,rfl,hroom,ha.1,ha.2,sm⟩
   ·right;have ed:D.do c.d1 q.kd q.ky q.fl q.val=((0,[],0,0),⟨(if (D.L.length:Int)<c.d1 then D.L else D.L.drop 1)++[(q.ky,D.ws.length+1)],D.ws++[q.val]⟩):=by
     unfold Dq.do;rw [if_neg h4,hd];simp only;rw [if_neg (by simp only [not_or,ne_eq,Decidable.not_not];exact ha)]
    rw [ed];have hsub:∀x∈(if (D.L.length:Int)<c.d1 then D.L else D.L.drop 1),x∈D.L:=λx hx=>by
     split at hx
     ·exact hx
     ·exact List.mem_of_mem_drop hx
    refine ⟨hr,Nat.zero_le _,hs++[h],⟨?_,λx hx=>?_,by simp [C.len]⟩,λi a w h1 h2 h3=>?_,.inr ⟨h,rfl,hm,hmade,hhc⟩⟩
    ·show _=(((if (D.L.length:Int)<c.d1 then D.L else D.L.drop 1)++[(q.ky,D.ws.length+1)]).map (elO (hs++[h]))).reverse;rw [List.map_append,List.reverse_append];have e1:elO (hs++[h]) (q.ky,D.ws.length+1)=⟨h,q.ky⟩:=by
      unfold elO;simp only [Nat.add_sub_cancel];rw [C.len,List.getD_eq_getElem?_getD,List.getElem?_concat_length];rfl
     have e2:(if (D.L.length:Int)<c.d1 then D.L else D.L.drop 1).map (elO (hs++[h]))=(if (D.L.length:Int)<c.d1 then D.L else D.L.drop 1).map (elO hs):=
      List.map_congr_left λx hx=>elO_ext (C.rng x (hsub x hx))
     rw [e2];show _=elO (hs++[h]) (q.ky,D.ws.length+1)::_;rw [e1,C.length]
     congr 1
     split
     ·exact C.map
     ·rw [C.map,List.dropLast_reverse,List.map_drop,List.drop_one];rfl
    ·rcases List.mem_append.1 hx with hx|hx
     ·have:=C.rng x (hsub x hx)
      simp only [List.length_append,List.length_singleton];omega
     ·simp only [List.mem_singleton] at hx;subst hx
      have:=C.len
      simp only [List.length_append,List.length_singleton];omega
    ·by_cases hi:i<hs.length
     ·rw [List.getElem?_append_left hi] at h1;have h2:(D.ws++[q.val])[i]? =some w:=h2;rw [List.getElem?_append_left (by rw [C.len];exact hi)] at h2;exact sm i a w h1 h2 h3
     ·have hi':i=hs.length:=by
       have:=(List.getElem?_eq_some_iff.1 h1).1
       simp only [List.length_append,List.length_singleton] at this;omega
      subst hi';rw [List.getElem?_concat_length] at h1;injection h1 with h1;subst h1
      have h2:(D.ws++[q.val])[hs.length]? =some w:=h2;rw [<-C.len,List.getElem?_concat_length] at h2;injection h2 with h2;subst h2
      exact hval
end
end Go.Proofs.YtjggeoghlicmdaaGreat
namespace Go.AS
open Go.RowKit
section
variable {H H0:Heap} {L:List Asr}
def old (H0:Heap):Asr:=⟨List.range H0.next,λH=>∀i,i<H0.next->H.get i=H0.get i,λh k i hi=>by rw [h i (List.mem_range.2 hi)];exact k i hi⟩
theorem Sep.start (H0:Heap):Sep H0 [old H0]:=by
 refine ⟨λA hA=>?_,?_,λi hi=>?_⟩
 ·obtain rfl:=List.mem_singleton.1 hA;exact λi _=>rfl
 ·have:feet [old H0]=List.range H0.next:=by simp [feet,old]
  rw [this];exact List.nodup_range
 ·have:feet [old H0]=List.range H0.next:=by simp [feet,old]
  rw [this] at hi;exact List.mem_range.1 hi
theorem old_get {i:Nat}{o:Obj}(h:Sep H L)(hm:old H0∈L)(hi:i<H0.next)(hg:H0.get i=some o):H.get i=some o:=by
 rw [h.all _ hm i hi,hg]
structure OldS (H0:Heap)(a:Option Addr)(n:Nat)(css:List (List Value)):Prop where
 len:n=css.length
 ex:css=[]/\a=none∨∃i,a=some ⟨i,0,none⟩/\i<H0.next/\H0.get i=some (.cells false 0 css.flatten)
theorem OldS.row {a:Option Addr}{n w:Nat}{css:List (List Value)}(o:OldS H0 a n css)(h:Sep H L)(hm:old H0∈L)(hw:∀c∈css,c.length=w){j:Nat}{r:List Value}(hj:css[j]? =some r) :
  ∃i,a=some ⟨i,0,none⟩/\H.cellsAt i (0+j*w) w=some r/\∀k v,r[k]? =some v->H.cell i (0+j*w+k)=some v:=by
 have⟨hl,hg⟩:=List.getElem?_eq_some_iff.1 hj;rcases o.ex with ⟨e,_⟩|⟨i,rfl,h1,h2⟩
 ·rw [e] at hl;simp at hl
 ·have h3:=old_get h hm h1 h2;refine ⟨i,rfl,?_,λk v hk=>?_⟩
  ·rw [cellsAt_of h3,Nat.zero_add,rowsFlat_takeAt hw hl,hg]
  ·have hkl:k<w:=by
    have:=(List.getElem?_eq_some_iff.1 hk).1
    rw [<-hg,hw _ (List.getElem_mem hl)] at this;exact this
   rw [cell_of h3,Nat.zero_add,rowsFlat_cell hw hl hkl,hg,hk]
theorem OldS.cell0 {a:Option Addr}{n w:Nat}{css:List (List Value)}(o:OldS H0 a n css)(h:Sep H L)(hm:old H0∈L)(hw:∀c∈css,c.length=w){j:Nat}{r:List Value}(hj:css[j]? =some r){v:Value}(hv:r[0]? =some v) :
  ∃i,a=some ⟨i,0,none⟩/\H.cell i (0+j*w)=some v:=by
 have⟨i,e,_,h2⟩:=o.row h hm hw hj;exact ⟨i,e,h2 0 v hv⟩
end
end Go.AS
namespace Go.Proofs.YtjggeoghlicmdaaGreat
open Go Go.AS Go.RowKit
section
variable {H H' H0:Heap} {R:Value->Heap->Prop} {L:List Asr} {a b:Option Addr} {ws:List (BitVec 64)}
def RdW (L:List Asr)(a:Option Addr)(ws:List (BitVec 64)):Prop:=
 ∀H',Sep H' L->∀(j:Nat) w,ws[j]? =some w->∃i,a=some ⟨i,0,none⟩/\H'.cell i (0+j*1)=some (W w)
abbrev wds (ws:List (BitVec 64)):List Value:=ws.map W
theorem rdw_gl {q:Option Nat}(hm:gl 1 q (wds ws)∈L)(hq:q=none->ws=[]):RdW L (addr q) ws:=by
 intro H' hs j x hx;cases q with
 |none=>rw [hq rfl] at hx;simp at hx
 |some q=>
  have hg:H'.get q=some (.cells true 1 (wds ws)):=(hs.all _ hm) (bx q (.cells true 1 (wds ws))) (by simp);exact ⟨q,rfl,by rw [cell_of hg,Nat.zero_add,Nat.mul_one,List.getElem?_map,hx];rfl⟩
theorem rdw_old {n:Nat}(o:OldS H0 a n (ws.map λw=>[W w]))(hm:old H0∈L):RdW L a ws:=by
 intro H' hs j x hx;exact o.cell0 hs hm (wmap_len ws) (by rw [List.getElem?_map,hx];rfl) rfl
theorem RdW.tail' {A:Asr}(h:RdW L a ws):RdW (A::L) a ws:=λH' hs=>h H' hs.tail
theorem CopyWords_s {n:Nat}(h:Sep H L)(ra:RdW L a ws)(hn':n=ws.length)(hn:ws.length<1000000000)(hR:∀H' q,(q=none->ws=[])->Sep H' (gl 1 q (wds ws)::L)->R (.slice (addr q) ws.length 0) H'):CA en F.crossbarkit_CopyWords [.slice a n 0] H R:=by
 subst hn';apply vc_crossbarkit_CopyWords;refine use_crossbarkit_CopyWords_0 (λk t3 t3l t4 H=>∃(j:Nat)(q:Option Nat),j<=ws.length/\k=ws.length - j/\t4=(j:Int)/\t3=addr q/\t3l=j/\(q=none->j=0)/\Sep H (gl 1 q (wds (ws.take j))::L)) ws.length ⟨0,none,by omega,rfl,rfl,rfl,rfl,λ_=>rfl,gl_none.2 h⟩ ?_;clear h;rintro k t3 t3l t4 ys H3 ⟨j,q,hj,rfl,rfl,rfl,rfl,hq,hs⟩;refine cond_of (λh1=>?_) λh1=>?_
 ·have hj':t3l<ws.length:=by simp only [decide_eq_true_eq] at h1;omega
  have⟨x,hx⟩:∃x,ws[t3l]? =some x:=⟨_,List.getElem?_eq_getElem hj'⟩;obtain ⟨i,rfl,e1⟩:=ra _ hs.tail t3l x hx;refine ⟨by unfold inB;omega,asRow_in ⟨_,e1,Sep.nw hs λi4 H5 h5=>⟨[W x],rowOf_bx (es:=1) (n:=1) (b:=i4) (Sep.get0 h5) (by decide) rfl,?_⟩⟩⟩;refine apd_gl (b:=q) (len:=t3l) (n:=1) (cs:=wds (ws.take t3l)) (new:=[W x]) (Sep.up1 h5) (λh=>by rw [hq h];rfl) (by decide) (by rw [List.length_map,List.length_take];omega) (by decide) rfl (by omega) λH' q' h'=>⟨ws.length - (t3l+1),by omega,t3l+1,some q',by omega,rfl,by rw [wrap_i64 (by omega)];omega,rfl,rfl,(λh=>by cases h),?_⟩
  rw [List.take_add_one,hx];have e:wds (ws.take t3l++(some x).toList)=wds (ws.take t3l)++[W x]:=by simp
  rw [e];exact Sep.rm1 h'
 ·have e:t3l=ws.length:=by simp only [decide_eq_false_iff_not] at h1;omega
  subst e;rw [List.take_length] at hs;exact asSl_in (hR H3 q (λh=>List.eq_nil_of_length_eq_zero (hq h)) hs)
theorem SpoilWords_s {q:Option Nat}{n:Nat}(hn':n=ws.length)(hl:ws.length<100000)(n1:q=none->ws=[])(hs:Sep H (gl 1 q (wds ws)::L))(hR:∀H',Sep H' L->R undef H'):CA en F.crossbarkit_SpoilWords [.slice (addr q) n 0] H R:=by
 subst hn';apply vc_crossbarkit_SpoilWords;refine use_crossbarkit_SpoilWords_0 (λk t2 H=>∃(j:Nat)(c:List Value),c.length=ws.length/\j<=ws.length/\k=ws.length - j/\t2=(j:Int)/\Sep H (gl 1 q c::L)) ws.length ⟨0,wds ws,by simp,by omega,rfl,rfl,hs⟩ ?_;clear hs;rintro k t2 ys H3 ⟨j,c,hl',hj,rfl,rfl,hs⟩;refine cond_of (λh1=>?_) λh1=>hR H3 hs.tail
 have hj':j<ws.length:=by simp only [decide_eq_true_eq] at h1;omega
 apply vc_crossbarkit_markWords;refine ⟨_,rfl,by unfold inB;omega,?_⟩;cases q with
 |none=>rw [n1 rfl] at hj';simp at hj'
 |some q=>
  refine asRow_in (Sep.st0 (gl_some.1 hs) (by rw [Int.toNat_natCast];simp only [List.length_cons,List.length_nil];omega) λH6 h6=>⟨ws.length - (j+1),by omega,j+1,_,?_,by omega,rfl,by rw [wrap_i64 (by omega)];omega,gl_some.2 h6⟩);rw [setAt_length];exact hl'
theorem SameWords_s {n k:Nat}(h:Sep H L)(ra:RdW L a ws)(rb:RdW L b ws)(hn':n=ws.length)(hk':k=ws.length)(hn:ws.length<1000000000)(hR:∀H',Sep H' L->R (.bool true) H'):CA en F.crossbarkit_SameWords [.slice a n 0,.slice b k 0] H R:=by
 subst hn' hk';apply vc_crossbarkit_SameWords;refine cond_no (by simp) ?_;refine use_crossbarkit_SameWords_0 (λk _ t5 H=>∃j:Nat,j<=ws.length/\k=ws.length - j/\t5=(j:Int)/\Sep H L) ws.length ⟨0,by omega,rfl,rfl,h⟩ ?_;clear h;rintro k t4 t5 ys H3 ⟨j,hj,rfl,rfl,hs⟩;refine cond_of (λh1=>?_) λh1=>asBool_in (hR H3 hs)
 have hj':j<ws.length:=by simp only [decide_eq_true_eq] at h1;omega
 have⟨x,hx⟩:∃x,ws[j]? =some x:=⟨_,List.getElem?_eq_getElem hj'⟩;have hB:=hs.bump 9;obtain ⟨i,rfl,e1⟩:=ra _ hB j x hx;obtain ⟨i',rfl,e2⟩:=rb _ hB j x hx;exact ⟨by unfold inB;omega,asRow_in ⟨_,e1,by unfold inB;omega,asRow_in ⟨_,e2,⟨cond_no (by simp) ⟨ws.length - (j+1),by omega,j+1,by omega,rfl,by rw [wrap_i64 (by omega)];omega,hB⟩,trivial⟩⟩⟩⟩
abbrev opV (kind key flag cpu:Int)(a:Option Addr)(n:Nat):List Value:=[I kind,.int .u64 key,.slice a n 0,I flag,I cpu]
theorem CopyOp_s {kind key flag cpu:Int}{n:Nat}(h:Sep H L)(ra:RdW L a ws)(hn':n=ws.length)(hn:ws.length<1000000000)
  (hR:∀H' q,(q=none->ws=[])->Sep H' (gl 1 q (wds ws)::L)->R (.agg #[I kind,.int .u64 key,.slice (addr q) ws.length 0,I flag,I cpu]) H'):CA en F.crossbarkit_CopyOp [.agg #[I kind,.int .u64 key,.slice a n 0,I flag,I cpu]] H R:=by
 apply vc_crossbarkit_CopyOp;refine Sep.nw h λi1 H2 h2=>Sep.nw h2 λi3 H4 h4=>⟨_,_,Sep.ld1 h4 rfl,?_⟩
 refine CopyWords_s h4 ra.tail'.tail' hn' hn λH8 q hq h8=>⟨_,_,rfl,Sep.st2 h8 (Nat.le_of_ble_eq_true rfl) λH11 h11=>⟨_,_,_,_,_,_,Sep.lds2 h11 rfl,Sep.st1 h11 (Nat.le_of_ble_eq_true rfl) λH18 h18=>⟨_,_,_,_,_,_,Sep.lds1 h18 rfl,hR H18 q hq (Sep.rm1 (Sep.rm1 h18))⟩⟩⟩
theorem CopyRes_s {no key elem:Int}{n:Nat}(h:Sep H L)(ra:RdW L a ws)(hn':n=ws.length)(hn:ws.length<1000000000)
  (hR:∀H' q,(q=none->ws=[])->Sep H' (gl 1 q (wds ws)::L)->R (.agg #[I no,.slice (addr q) ws.length 0,.int .u64 key,I elem]) H'):CA en F.crossbarkit_CopyRes [.agg #[I no,.slice a n 0,.int .u64 key,I elem]] H R:=by
 apply vc_crossbarkit_CopyRes;refine Sep.nw h λi1 H2 h2=>Sep.nw h2 λi3 H4 h4=>⟨_,_,Sep.ld1 h4 rfl,?_⟩
 refine CopyWords_s h4 ra.tail'.tail' hn' hn λH8 q hq h8=>⟨_,_,rfl,Sep.st2 h8 (Nat.le_of_ble_eq_true rfl) λH11 h11=>⟨_,_,_,_,_,Sep.lds2 h11 rfl,Sep.st1 h11 (Nat.le_of_ble_eq_true rfl) λH18 h18=>⟨_,_,_,_,_,Sep.lds1 h18 rfl,hR H18 q hq (Sep.rm1 (Sep.rm1 h18))⟩⟩⟩
theorem SameRes_s {no key elem:Int}{n k:Nat}(h:Sep H L)(ra:RdW L a ws)(rb:RdW L b ws)(hn':n=ws.length)(hk':k=ws.length)(hn:ws.length<1000000000)(hR:∀H',Sep H' L->R (.bool true) H') :
  CA en F.crossbarkit_SameRes [.agg #[I no,.slice a n 0,.int .u64 key,I elem],.agg #[I no,.slice b k 0,.int .u64 key,I elem]] H R:=by
 apply vc_crossbarkit_SameRes;refine Sep.nw h λi1 H2 h2=>Sep.nw h2 λi3 H4 h4=>⟨_,Sep.ld1 h4 rfl,_,Sep.ld0 h4 rfl,cond_yes (by simp) ⟨_,_,_,_,_,Sep.lds1 h4 rfl,_,_,_,_,_,Sep.lds0 h4 rfl,?_⟩⟩
 apply vc_crossbarkit_LikeRes;refine Sep.nw h4 λj1 H5 h5=>Sep.nw h5 λj3 H6 h6=>⟨_,Sep.ld1 h6 rfl,_,Sep.ld0 h6 rfl,cond_yes (by simp) ⟨_,Sep.ld1 h6 rfl,_,Sep.ld0 h6 rfl,cond_yes (by simp) ⟨_,_,Sep.ld1 h6 rfl,_,_,Sep.ld0 h6 rfl,?_⟩⟩⟩
 exact SameWords_s h6 ra.tail'.tail'.tail'.tail' rb.tail'.tail'.tail'.tail' hn' hk' hn λH' h'=>⟨_,rfl,_,rfl,hR H' h'.tail.tail.tail.tail⟩
theorem pick_of {α β:Type}{P:α->β->Prop}:∀(css:List β),(∀c∈css,∃o,P o c)->∃l:List α,l.length=css.length/\∀(j:Nat) o,l[j]? =some o->∃c,css[j]? =some c/\P o c
 |[],_=>⟨[],rfl,by simp⟩
 |c::css,h=>by
  have⟨o,ho⟩:=h c (by simp)
  have⟨l,h1,h2⟩:=pick_of css λc hc=>h c (List.mem_cons_of_mem _ hc)
  refine ⟨o::l,by simp [h1],λj x hx=>?_⟩
  cases j with
  |zero=>simp at hx;subst hx;exact ⟨c,rfl,ho⟩
  |succ j=>exact h2 j x (by simpa using hx)
structure Op where
 kind:Int
 key:BitVec 64
 val:List (BitVec 64)
 flag:Int
 cpu:Int
def OpC (H0:Heap)(o:Op)(c:List Value):Prop:=∃a n,c=opV o.kind o.key.toNat o.flag o.cpu a n/\OldS H0 a n (o.val.map λw=>[W w])
end
section
variable {H H':Heap} {L:List Asr} {a:Option Addr} {vs:List (BitVec 64)}
theorem Sep.nwx' {o:AS.Obj}{K:Nat->Heap->Prop}(h:Sep H L)(k:Sep (H.new o) (bx H.next o::L)->K H.next (H.new o)):nwH H o K:=k (h.new o)
section
variable {i w k j o n:Nat} {ow:Bool} {css:List (List Value)} {row:List Value}
theorem rowld {v:Value}(h:Sep H L)(j:Nat)(hj:L[j]? =some (bx i (.cells ow w (css.set k row).flatten)))(hw:∀c∈css,c.length=w)(hr:row.length=w)(hk:k<css.length)(ho:row[o]? =some v):H.cell i (0+k*w+o)=some v:=by
 have hlt:o<w:=by have:=(List.getElem?_eq_some_iff.1 ho).1;omega
 have hk':k<(css.set k row).length:=by simpa using hk
 rw [cell_of (h.get j hj),Nat.zero_add,rowsFlat_cell (set_rows hw hr) hk' hlt];simpa using ho
theorem rowld0 {v:Value}(h:Sep H L)(j:Nat)(hj:L[j]? =some (bx i (.cells ow w (css.set k row).flatten)))(hw:∀c∈css,c.length=w)(hr:row.length=w)(hk:k<css.length)(ho:row[0]? =some v):H.cell i (0+k*w)=some v:=rowld (o:=0) h j hj hw hr hk ho
theorem takeAt_row {cs:List Value}{vs:List Value}(h:takeAt row o n=some vs):∃p q,row=p++(vs++q)/\p.length=o/\vs.length=n:=by
 unfold takeAt at h;split at h
 ·rename_i hl;obtain rfl:=Option.some.inj h;refine ⟨row.take o,(row.drop o).drop n,?_,by rw [List.length_take];omega,by rw [List.length_take,List.length_drop];omega⟩;rw [List.take_append_drop,List.take_append_drop]
 ·cases h
theorem rowlds {vs:List Value}(h:Sep H L)(j:Nat)(hj:L[j]? =some (bx i (.cells ow w (css.set k row).flatten)))(hw:∀c∈css,c.length=w)(hr:row.length=w)(hk:k<css.length)(ho:takeAt row o n=some vs):H.cellsAt i (0+k*w+o) n=some vs:=by
 have hk':k<(css.set k row).length:=by simpa using hk
 have h1:=rowsFlat_len _ (set_rows (k:=k) hw hr);have hle:k*w+w<=(css.set k row).length*w:=by rw [<-Nat.succ_mul];exact Nat.mul_le_mul_right _ hk'
 rw [cellsAt_of (h.get j hj),Nat.zero_add];unfold takeAt at ho⊢;split at ho
 ·rename_i hl;rw [if_pos (by omega),<-List.drop_drop,rowsFlat_drop _ k (set_rows hw hr),List.drop_eq_getElem_cons hk',List.flatten_cons];have e:(css.set k row)[k]=row:=by simp
  rw [e,List.drop_append_of_le_length (by omega),List.take_append_of_le_length (by rw [List.length_drop];omega)];exact ho
 ·cases ho
theorem setAt_app:∀(vs:List Value)(p m q:List Value),m.length=vs.length->setAt (p++(m++q)) p.length vs=p++(vs++q)
 |[],p,m,q,h=>by
  have:m=[]:=List.eq_nil_of_length_eq_zero h
  subst this;rfl
 |v::vs,p,m,q,h=>by
  cases m with
  |nil=>simp at h
  |cons x m=>
   have e1:(p++(x::m++q)).set p.length v=(p++[v])++(m++q):=by simp
   show setAt ((p++(x::m++q)).set p.length v) (p.length+1) vs=_;have e2:p.length+1=(p++[v]).length:=by simp
   rw [e1,e2,setAt_app vs (p++[v]) m q (by simpa using h)];simp
theorem rowst {vs:List Value}{K:Heap->Prop}(h:Sep H L)(j:Nat)(hj:L[j]? =some (bx i (.cells true w (css.set k row).flatten)))(hw:∀c∈css,c.length=w)(hr:row.length=w)(hk:k<css.length)(ho:o+vs.length<=w)
  (r:∀H',Sep H' (L.set j (bx i (.cells true w (css.set k (setAt row o vs)).flatten)))->K H'):stc H i (0+k*w+o) vs K:=by
 have hk':k<(css.set k row).length:=by simpa using hk
 have hlen:=rowsFlat_len _ (set_rows (k:=k) hw hr);have hle:k*w+w<=(css.set k row).length*w:=by rw [<-Nat.succ_mul];exact Nat.mul_le_mul_right _ hk'
 refine Sep.st h j hj (by omega) λH' h'=>r H' ?_
 have e:setAt (css.set k row).flatten (0+k*w+o) vs=(css.set k (setAt row o vs)).flatten:=by
  have hkc:(css.set k row)[k]? =some row:=by rw [List.getElem?_set_self hk]
  have s1:css.set k row=css.take k++row::css.drop (k+1):=by rw [List.set_eq_take_append_cons_drop,if_pos hk]
  have s2:css.set k (setAt row o vs)=css.take k++setAt row o vs::css.drop (k+1):=by rw [List.set_eq_take_append_cons_drop,if_pos hk]
  have l1:(css.take k).flatten.length=k*w:=by
   rw [rowsFlat_len (w:=w) _ λc hc=>hw c (List.mem_of_mem_take hc),List.length_take,Nat.min_eq_left (by omega)]
  have⟨p,q,ep,lp,lm⟩:=takeAt_row (row:=row) (o:=o) (n:=vs.length) (cs:=row) (vs:=(row.drop o).take vs.length) (by unfold takeAt;rw [if_pos (by omega)]);rw [s1,s2,List.flatten_append,List.flatten_append,List.flatten_cons,List.flatten_cons];generalize hm:(row.drop o).take vs.length=m at *;have e3:setAt row o vs=p++(vs++q):=by
   conv=>lhs;rw [ep]
   rw [<-lp];exact setAt_app vs p m q lm
  rw [e3];have e4:(css.take k).flatten++(row++(css.drop (k+1)).flatten)=((css.take k).flatten++p)++(m++(q++(css.drop (k+1)).flatten)):=by
   conv=>lhs;rw [ep]
   simp
  have e5:0+k*w+o=((css.take k).flatten++p).length:=by rw [List.length_append,l1,lp];omega
  rw [e4,e5,setAt_app vs _ m _ lm];simp
 rw [e] at h';exact h'
theorem rowst0 {vs:List Value}{K:Heap->Prop}(h:Sep H L)(j:Nat)(hj:L[j]? =some (bx i (.cells true w (css.set k row).flatten)))(hw:∀c∈css,c.length=w)(hr:row.length=w)(hk:k<css.length)(ho:vs.length<=w)
  (r:∀H',Sep H' (L.set j (bx i (.cells true w (css.set k (setAt row 0 vs)).flatten)))->K H'):stc H i (0+k*w) vs K:=rowst (o:=0) h j hj hw hr hk (by omega) r
end
theorem setAt1 (cs:List Value)(o:Nat)(v:Value):setAt cs o [v]=cs.set o v:=rfl
theorem sameRes (a k e:Int)(p:Option Addr)(l:Nat):sameN 8 (.agg #[.int .i64 a,.slice p l 0,.int .u64 k,.int .i64 e]) (.agg #[.int .i64 a,.slice p l 0,.int .u64 k,.int .i64 e])=true:=by simp [sameN,sameN.sameL]
theorem sameL_refl:∀(c:List Value),(∀v∈c,sameN 8 v v=true)->sameN.sameL 8 c c=true
 |[],_=>rfl
 |v::c,h=>by
  show (sameN 8 v v&&sameN.sameL 8 c c)=true
  rw [h v (by simp),sameL_refl c λw hw=>h w (by simp [hw])];rfl
theorem sameObj_refl {z:Nat}{c:List Value}(h:∀v∈c,sameN 8 v v=true):sameObj (.cells true z c) (.cells true z c)=true:=by
 show (Nat.beq z z&&sameN.sameL 8 c c)=true;rw [sameL_refl c h,Nat.beq_refl];rfl
theorem mem_reps {v:Value}{z:List Value}:∀{n:Nat},v∈reps n z->v∈z
 |0,h=>by simp [reps] at h
 |n+1,h=>by
  simp only [reps,List.mem_append] at h
  rcases h with h|h
  ·exact h
  ·exact mem_reps h
end
section
variable {H H':Heap} {L M:List Asr} {A B:Asr} {es:Nat} {k a h:Int} {b:Option Nat} {cs vs:List Value}
theorem gl_ld (h:Sep H (gl es b cs::L))(hb:b=none->cs=[]){o:Nat}{v:Value}(hv:cs[o]? =some v){K:Nat->Nat->Prop}(hK:∀i,H.cell i (0+o)=some v->K i 0):asRow (addr b) K:=by
 cases b with
 |none=>rw [hb rfl] at hv;simp at hv
 |some i=>exact asRow_in (hK i (by rw [cell_of (gl_get h),Nat.zero_add];exact hv))
theorem gl_lds (h:Sep H (gl es b cs::L))(hb:b=none->cs=[]){o n:Nat}{c:List Value}(hv:takeAt cs o n=some c)(hn:n≠0){K:Nat->Nat->Prop}(hK:∀i,H.cellsAt i (0+o) n=some c->K i 0):asRow (addr b) K:=by
 cases b with
 |none=>rw [hb rfl] at hv;unfold takeAt at hv;rw [if_neg (by simp;omega)] at hv;cases hv
 |some i=>exact asRow_in (hK i (by rw [cellsAt_of (gl_get h),Nat.zero_add];exact hv))
theorem gl_st' (h:Sep H (gl es b cs::L))(hb:b=none->cs=[]){o:Nat}(hv:o+vs.length<=cs.length)(hne:vs≠[]){K:Nat->Nat->Heap->Prop}(hK:∀i H',Sep H' (gl es b (setAt cs o vs)::L)->K i 0 H'):asRow (addr b) λi p=>stc H i (p+o) vs (K i p):=by
 cases b with
 |none=>
  rw [hb rfl] at hv
  have:vs.length=0:=by
   have hv':o+vs.length<=0:=hv;omega
  exact (hne (List.eq_nil_of_length_eq_zero this)).elim
 |some i=>exact asRow_in (Sep.st0 (gl_some.1 h) (by omega) λH' h'=>hK i H' (gl_some.2 (by rw [Nat.zero_add] at h';exact h')))
theorem mny_out {k:Nat}(hk:M[k]? =some A)(h:Sep H (many M::L)):Sep H (A::many (M.eraseIdx k)::L):=by
 have h1:=Sep.many_iff.1 h;have h2:=h1.perm ((eraseIdx_perm hk).append_right L);exact (Sep.many_iff.2 (h2.perm List.perm_middle.symm)).swap
theorem mny_in {k:Nat}(hk:k<M.length)(h:Sep H (B::many (M.eraseIdx k)::L)):Sep H (many (M.set k B)::L):=by
 have h1:=Sep.many_iff.1 h.swap;have h2:=h1.perm List.perm_middle;exact Sep.many_iff.2 (h2.perm ((set_perm hk).append_right L).symm)
theorem er_ne' {α:Type}{qs:List α}{a j:Nat}{q:α}(hq:qs[j]? =some q)(h:j≠a):(qs.take (j+1)).eraseIdx a=(qs.take j).eraseIdx a++[q]:=by
 have hj:=(List.getElem?_eq_some_iff.1 hq).1;have hl:(qs.take j).length=j:=by rw [List.length_take];omega
 rw [List.take_add_one,hq];show (qs.take j++[q]).eraseIdx a=_;by_cases h1:a<j
 ·rw [List.eraseIdx_append_of_lt_length (by omega)]
 ·rw [List.eraseIdx_of_length_le (by simp;omega),List.eraseIdx_of_length_le (by omega)]
theorem er_eq' {α:Type}{qs:List α}{a:Nat}:(qs.take (a+1)).eraseIdx a=(qs.take a).eraseIdx a:=by
 rw [List.eraseIdx_of_length_le (l:=qs.take a) (by rw [List.length_take];omega)];cases hq:qs[a]? with
 |none=>
  have hl:qs.length<=a:=List.getElem?_eq_none_iff.1 hq;rw [List.take_of_length_le (by omega),List.take_of_length_le (by omega),List.eraseIdx_of_length_le (by omega)]
 |some q=>
  have hj:=(List.getElem?_eq_some_iff.1 hq).1;have hl:(qs.take a).length=a:=by rw [List.length_take];omega
  rw [List.take_add_one,hq];show (qs.take a++[q]).eraseIdx a=_;rw [List.eraseIdx_append_of_length_le (by omega),hl,Nat.sub_self];simp
theorem er_len' {α:Type}{qs:List α}{a j:Nat}(hj:j<=qs.length)(hb:qs.length<=1000):((qs.take j).eraseIdx a).length<=1000:=by
 have:=List.length_eraseIdx_le (qs.take j) a
 have h2:(qs.take j).length=j:=by rw [List.length_take];omega
 omega
end
section
set_option maxRecDepth 100000
set_option maxHeartbeats 2000000
theorem vc_crossbarref16_New (x0_0:Int)(x0_1:Int)(x0_2:Int)(x0_3:Int)(x0_4:Int)(H:Heap)(R:Value->Heap->Prop) :
  (
 nwH H (.cells true 0 [(.int .i64 x0_0),(.int .i64 x0_1),(.int .i64 x0_2),(.int .i64 x0_3),(.int .i64 x0_4)]) λi1 H2=>
 ∃n3,∃n4,∃n5,∃n6,∃n7,H2.cellsAt i1 0 5=some [(.int .i64 n3),(.int .i64 n4),(.int .i64 n5),(.int .i64 n6),(.int .i64 n7)]/\
 nwH H2 (.cells true 0 [(.int .i64 n3),(.int .i64 n4),(.int .i64 n5),(.int .i64 n6),(.int .i64 n7),(.slice none 0 0),(.slice none 0 0)]) λi8 H9=>
 R (.pointer (some ⟨i8,0,none⟩)) H9)->
  CA en F.crossbarref16_New [(.agg #[(.int .i64 x0_0),(.int .i64 x0_1),(.int .i64 x0_2),(.int .i64 x0_3),(.int .i64 x0_4)])] H R:=by
 intro h;refine wpFn_ok (Z:=[]) (fn:=Go.Proofs.Tryz.f105) ?_ ?_ ?_
 ·kernel_rfl
 ·kernel_rfl
 ·apply turnInto h
  kernel_rfl
noncomputable def L_crossbarref16_Map_Keys_0:Code:=loopAt Go.Proofs.Tryz.f166 0
noncomputable def L_crossbarref16_Map_Keys_1:Code:=loopAt Go.Proofs.Tryz.f166 1
theorem vc_crossbarref16_Map_Keys (x0:Option Addr)(H:Heap)(R:Value->Heap->Prop) :
  (
 LA en L_crossbarref16_Map_Keys_0 [(.pointer x0),undef,(.slice none 0 0),(.slice none 0 0),undef,undef,undef,undef,undef,undef,undef,undef,undef,undef,undef,undef,undef,undef,undef,undef,undef,undef,undef,undef,undef,undef,undef,undef,undef,undef,undef,undef,undef,undef,undef,undef,undef,undef,undef,undef,undef,undef,undef,undef,undef,undef,undef,undef,undef,undef,undef,undef,undef,undef,undef,undef,undef,undef,undef,undef,undef] H [(X.exit 0,λ(y1:Fr)(H2:Heap)=>
 asSl (y1.getD 3 undef) λa3 i4=>
 R (.slice a3 i4 0) H2)])->
  CA en F.crossbarref16_Map_Keys [(.pointer x0)] H R:=by
 intro h;refine wpFn_ok (Z:=[[(3,(.slice none 0 0))],[(4,(.int .u64 0))]]) (fn:=Go.Proofs.Tryz.f166) ?_ ?_ ?_
 ·kernel_rfl
 ·kernel_rfl
 ·apply turnInto h
  kernel_rfl
theorem use_crossbarref16_Map_Keys_0 {t0 : Option Addr} {K0 : Fr → Heap → Prop} {t3 : Option Addr} {t3l : Nat} {t4 : Value} {t5 : Value} {t6 : Value} {t7 : Value} {t8 : Value} {t9 : Value} {t10 : Value} {t11 : Value} {t12 : Value} {t13 : Value} {t14 : Value} {t15 : Value} {t16 : Value} {t17 : Value} {t18 : Value} {t19 : Value} {t20 : Value} {t21 : Value} {t22 : Value} {t23 : Value} {t24 : Value} {t25 : Value} {t26 : Value} {t27 : Value} {t28 : Value} {t29 : Value} {t30 : Value} {t31 : Value} {t32 : Value} {t33 : Value} {t34 : Value} {t35 : Value} {t36 : Value} {t37 : Value} {t38 : Value} {t39 : Value} {t40 : Value} {t41 : Value} {t42 : Value} {t43 : Value} {t44 : Value} {t45 : Value} {t46 : Value} {t47 : Value} {t48 : Value} {t49 : Value} {t50 : Value} {t51 : Value} {t52 : Value} {t53 : Value} {t54 : Value} {t55 : Value} {t56 : Value} {t57 : Value} {t58 : Value} {t59 : Value} {H : Heap} (I : Nat → Option Addr → Nat → Heap → Prop) (n : Nat) (h0 : I n t3 t3l H)
    (hstep : ∀ (n : Nat) (t3 : Option Addr) (t3l : Nat) (ys : Fr) (H : Heap), I n t3 t3l H →
    (
 AS.asAddr (.pointer t0) fun i1 i2 =>
 ∃ a3 i4, H.cell i1 (i2 + 5) = some (.slice a3 i4 0) ∧
 bif (decide (((t3l : Nat) : Int) < ((i4 : Nat) : Int))) then (
 LA en L_crossbarref16_Map_Keys_1 [(.pointer t0), undef, (.slice none 0 0), (.slice t3 t3l 0), (.int .u64 0), (.bool false), (.int .i64 0), (ys.getD 7 undef), (.slice t3 t3l 0), (.int .i64 ((t3l : Nat) : Int)), (.pointer t0), (.pointer (some ⟨i1, i2, none⟩)), (.pointer (some ⟨i1, (i2 + 5), none⟩)), (.slice a3 i4 0), (.int .i64 ((i4 : Nat) : Int)), (.bool true), (ys.getD 16 undef), (ys.getD 17 undef), (ys.getD 18 undef), (ys.getD 19 undef), (ys.getD 20 undef), (ys.getD 21 undef), (ys.getD 22 undef), (ys.getD 23 undef), (ys.getD 24 undef), (ys.getD 25 undef), (ys.getD 26 undef), (ys.getD 27 undef), (ys.getD 28 undef), (ys.getD 29 undef), (ys.getD 30 undef), (ys.getD 31 undef), (ys.getD 32 undef), (ys.getD 33 undef), (ys.getD 34 undef), (ys.getD 35 undef), (ys.getD 36 undef), (ys.getD 37 undef), (ys.getD 38 undef), (ys.getD 39 undef), (ys.getD 40 undef), (ys.getD 41 undef), (ys.getD 42 undef), (ys.getD 43 undef), (ys.getD 44 undef), (ys.getD 45 undef), (ys.getD 46 undef), (ys.getD 47 undef), (ys.getD 48 undef), (ys.getD 49 undef), (ys.getD 50 undef), (ys.getD 51 undef), (ys.getD 52 undef), (ys.getD 53 undef), (ys.getD 54 undef), (ys.getD 55 undef), (ys.getD 56 undef), (ys.getD 57 undef), (ys.getD 58 undef), (ys.getD 59 undef), undef] H [(X.exit 2, fun (y5 : Fr) (H6 : Heap) =>
 AS.asInt .u64 (y5.getD 4 undef) fun n7 =>
 nwH H6 (.cells true 1 [(.int .u64 n7)]) fun i8 H9 =>
 ∃ l10, rowOf H9 1 (some ⟨i8, 0, none⟩) 1 = some l10 ∧
 apd H9 8 1 t3 t3l 1 l10 fun a11 i12 H13 =>
 ∃ k14, k14 < n ∧
 I k14 a11 i12 H13)])
 else (
 K0 [(.pointer t0), undef, (.slice none 0 0), (.slice t3 t3l 0), (ys.getD 4 undef), (ys.getD 5 undef), (ys.getD 6 undef), (ys.getD 7 undef), (.slice t3 t3l 0), (.int .i64 ((t3l : Nat) : Int)), (.pointer t0), (.pointer (some ⟨i1, i2, none⟩)), (.pointer (some ⟨i1, (i2 + 5), none⟩)), (.slice a3 i4 0), (.int .i64 ((i4 : Nat) : Int)), (.bool false), (ys.getD 16 undef), (ys.getD 17 undef), (ys.getD 18 undef), (ys.getD 19 undef), (ys.getD 20 undef), (ys.getD 21 undef), (ys.getD 22 undef), (ys.getD 23 undef), (ys.getD 24 undef), (ys.getD 25 undef), (ys.getD 26 undef), (ys.getD 27 undef), (ys.getD 28 undef), (ys.getD 29 undef), (ys.getD 30 undef), (ys.getD 31 undef), (ys.getD 32 undef), (ys.getD 33 undef), (ys.getD 34 undef), (ys.getD 35 undef), (ys.getD 36 undef), (ys.getD 37 undef), (ys.getD 38 undef), (ys.getD 39 undef), (ys.getD 40 undef), (ys.getD 41 undef), (ys.getD 42 undef), (ys.getD 43 undef), (ys.getD 44 undef), (ys.getD 45 undef), (ys.getD 46 undef), (ys.getD 47 undef), (ys.getD 48 undef), (ys.getD 49 undef), (ys.getD 50 undef), (ys.getD 51 undef), (ys.getD 52 undef), (ys.getD 53 undef), (ys.getD 54 undef), (ys.getD 55 undef), (ys.getD 56 undef), (ys.getD 57 undef), (ys.getD 58 undef), (ys.getD 59 undef), undef] H))) :
    LA en L_crossbarref16_Map_Keys_0 [(.pointer t0), undef, (.slice none 0 0), (.slice t3 t3l 0), t4, t5, t6, t7, t8, t9, t10, t11, t12, t13, t14, t15, t16, t17, t18, t19, t20, t21, t22, t23, t24, t25, t26, t27, t28, t29, t30, t31, t32, t33, t34, t35, t36, t37, t38, t39, t40, t41, t42, t43, t44, t45, t46, t47, t48, t49, t50, t51, t52, t53, t54, t55, t56, t57, t58, t59, undef] H [(X.exit 0, K0)] := by
  refine LA_rule (Z := [[(4, (.int .u64 0))]]) (fun m xs H' => asSl (xs.getD 3 undef) fun t3 t3l => I m t3 t3l H') ?_ n H ?_
  · intro n H
    suffices hs : ∀ s8 : Value, ∀ s9 : Value, ∀ s10 : Value, ∀ s11 : Value, ∀ s12 : Value, ∀ s13 : Value, ∀ s14 : Value, ∀ s15 : Value, ∀ s4 : Value, ∀ s5 : Value, ∀ s6 : Value, ∀ s16 : Value, ∀ s17 : Value, ∀ s18 : Value, ∀ s19 : Value, ∀ s20 : Value, ∀ s21 : Value, ∀ s22 : Value, ∀ s25 : Value, ∀ s26 : Value, ∀ s27 : Value, ∀ s28 : Value, ∀ s29 : Value, ∀ s30 : Value, ∀ s31 : Value, ∀ s32 : Value, ∀ s7 : Value, ∀ s33 : Value, ∀ s34 : Value, ∀ s35 : Value, ∀ s36 : Value, ∀ s37 : Value, ∀ s38 : Value, ∀ s39 : Value, ∀ s40 : Value, ∀ s41 : Value, ∀ s42 : Value, ∀ s43 : Value, ∀ s44 : Value, ∀ s45 : Value, ∀ s46 : Value, ∀ s47 : Value, ∀ s48 : Value, ∀ s49 : Value, ∀ s50 : Value, ∀ s51 : Value, ∀ s52 : Value, ∀ s53 : Value, ∀ s54 : Value, ∀ s55 : Value, ∀ s23 : Value, ∀ s24 : Value, ∀ s56 : Value, ∀ s57 : Value, ∀ s58 : Value, ∀ s59 : Value, ∀ s3 : Value, ((asSl s3 fun t3 t3l => I n t3 t3l H) → wpCode en L_crossbarref16_Map_Keys_0 [[(4, (.int .u64 0))]] [(.pointer t0), undef, (.slice none 0 0), s3, s4, s5, s6, s7, s8, s9, s10, s11, s12, s13, s14, s15, s16, s17, s18, s19, s20, s21, s22, s23, s24, s25, s26, s27, s28, s29, s30, s31, s32, s33, s34, s35, s36, s37, s38, s39, s40, s41, s42, s43, s44, s45, s46, s47, s48, s49, s50, s51, s52, s53, s54, s55, s56, s57, s58, s59, undef] H (loopQ (fun m xs H' => asSl (xs.getD 3 undef) fun t3 t3l => I m t3 t3l H') n [(X.exit 0, K0)])) by
      apply turnInto hs
      kernel_rfl
    intro s8 s9 s10 s11 s12 s13 s14 s15 s4 s5 s6 s16 s17 s18 s19 s20 s21 s22 s25 s26 s27 s28 s29 s30 s31 s32 s7 s33 s34 s35 s36 s37 s38 s39 s40 s41 s42 s43 s44 s45 s46 s47 s48 s49 s50 s51 s52 s53 s54 s55 s23 s24 s56 s57 s58 s59 s3 hP
    replace hP := asSl_elim hP
    obtain ⟨t3, t3l, rfl, hP⟩ := hP
    apply turnInto (hstep n t3 t3l [(.pointer t0), undef, (.slice none 0 0), (.slice t3 t3l 0), s4, s5, s6, s7, s8, s9, s10, s11, s12, s13, s14, s15, s16, s17, s18, s19, s20, s21, s22, s23, s24, s25, s26, s27, s28, s29, s30, s31, s32, s33, s34, s35, s36, s37, s38, s39, s40, s41, s42, s43, s44, s45, s46, s47, s48, s49, s50, s51, s52, s53, s54, s55, s56, s57, s58, s59, undef] H hP)
    kernel_rfl
  · apply turnInto h0
    kernel_rfl
theorem use_crossbarref16_Map_Keys_1 {t0:Option Addr}{t3:Option Addr}{t3l:Nat}{t8:Option Addr}{t8l:Nat}{t9:Int}{t10:Option Addr}{t11:Nat}{t11o:Nat}{t12:Nat}{t12o:Nat}{t13:Option Addr}{t13l:Nat}{t14:Int}{t56:Value}{t57:Value}{t58:Value}{t59:Value}{K0:Fr->Heap->Prop}{t4:Int}{t5:Bool}{t6:Int}{t7:Value}{t16:Value}{t17:Value}{t18:Value}{t19:Value}{t20:Value}{t21:Value}{t22:Value}{t23:Value}{t24:Value}{t25:Value}{t26:Value}{t27:Value}{t28:Value}{t29:Value}{t30:Value}{t31:Value}{t32:Value}{t33:Value}{t34:Value}{t35:Value}{t36:Value}{t37:Value}{t38:Value}{t39:Value}{t40:Value}{t41:Value}{t42:Value}{t43:Value}{t44:Value}{t45:Value}{t46:Value}{t47:Value}{t48:Value}{t49:Value}{t50:Value}{t51:Value}{t52:Value}{t53:Value}{t54:Value}{t55:Value}{H:Heap}(I:Nat->Int->Bool->Int->Heap->Prop)(n:Nat)(h0:I n t4 t5 t6 H)
  (hstep:∀(n:Nat)(t4:Int)(t5:Bool)(t6:Int)(ys:Fr)(H:Heap),I n t4 t5 t6 H->
  (
 AS.asAddr (.pointer t0) λi1 i2=>
 ∃a3 i4,H.cell i1 (i2+5)=some (.slice a3 i4 0)/\
 bif (decide (t6<((i4:Nat):Int))) then (
 AS.asAddr (.pointer t0) λi5 i6=>
 ∃a7 i8,H.cell i5 (i6+5)=some (.slice a7 i8 0)/\
 inB t6 i8/\
 asRow a7 λi9 i10=>
 ∃n11,H.cell i9 (i10+(t6.toNat*2))=some (.int .u64 n11)/\
 bif (((t3l:Nat):Int)==0) then (
 bif (!t5) then (
 ∃k12,k12<n/\
 I k12 n11 true (IntKind.i64.wrap (t6+1)) H)
 else (
 bif (decide (n11<t4)) then (
 ∃k13,k13<n/\
 I k13 n11 true (IntKind.i64.wrap (t6+1)) H)
 else (
 ∃k14,k14<n/\
 I k14 t4 t5 (IntKind.i64.wrap (t6+1)) H)))
 else (
 inB (IntKind.i64.wrap (((t3l:Nat):Int) - 1)) t3l/\
 asRow t3 λi15 i16=>
 ∃n17,H.cell i15 (i16+((IntKind.i64.wrap (((t3l:Nat):Int) - 1)).toNat*1))=some (.int .u64 n17)/\
 bif (decide (n11>n17)) then (
 bif (!t5) then (
 ∃k18,k18<n/\
 I k18 n11 true (IntKind.i64.wrap (t6+1)) H)
 else (
 bif (decide (n11<t4)) then (
 ∃k19,k19<n/\
 I k19 n11 true (IntKind.i64.wrap (t6+1)) H)
 else (
 ∃k20,k20<n/\
 I k20 t4 t5 (IntKind.i64.wrap (t6+1)) H)))
 else (
 ∃k21,k21<n/\
 I k21 t4 t5 (IntKind.i64.wrap (t6+1)) H)))
 else (
 K0 [(.pointer t0),undef,(.slice none 0 0),(.slice t3 t3l 0),(.int .u64 t4),(.bool t5),(.int .i64 t6),(ys.getD 7 undef),(.slice t8 t8l 0),(.int .i64 t9),(.pointer t10),(.pointer (some ⟨t11,t11o,none⟩)),(.pointer (some ⟨t12,t12o,none⟩)),(.slice t13 t13l 0),(.int .i64 t14),(.bool true),(.int .i64 t6),(.pointer t0),(.pointer (some ⟨i1,i2,none⟩)),(.pointer (some ⟨i1,(i2+5),none⟩)),(.slice a3 i4 0),(.int .i64 ((i4:Nat):Int)),(.bool false),(ys.getD 23 undef),(ys.getD 24 undef),(ys.getD 25 undef),(ys.getD 26 undef),(ys.getD 27 undef),(ys.getD 28 undef),(ys.getD 29 undef),(ys.getD 30 undef),(ys.getD 31 undef),(ys.getD 32 undef),(ys.getD 33 undef),(ys.getD 34 undef),(ys.getD 35 undef),(ys.getD 36 undef),(ys.getD 37 undef),(ys.getD 38 undef),(ys.getD 39 undef),(ys.getD 40 undef),(ys.getD 41 undef),(ys.getD 42 undef),(ys.getD 43 undef),(ys.getD 44 undef),(ys.getD 45 undef),(ys.getD 46 undef),(ys.getD 47 undef),(ys.getD 48 undef),(ys.getD 49 undef),(ys.getD 50 undef),(ys.getD 51 undef),(ys.getD 52 undef),(ys.getD 53 undef),(ys.getD 54 undef),(ys.getD 55 undef),t56,t57,t58,t59,undef] H))) :
  LA en L_crossbarref16_Map_Keys_1 [(.pointer t0),undef,(.slice none 0 0),(.slice t3 t3l 0),(.int .u64 t4),(.bool t5),(.int .i64 t6),t7,(.slice t8 t8l 0),(.int .i64 t9),(.pointer t10),(.pointer (some ⟨t11,t11o,none⟩)),(.pointer (some ⟨t12,t12o,none⟩)),(.slice t13 t13l 0),(.int .i64 t14),(.bool true),t16,t17,t18,t19,t20,t21,t22,t23,t24,t25,t26,t27,t28,t29,t30,t31,t32,t33,t34,t35,t36,t37,t38,t39,t40,t41,t42,t43,t44,t45,t46,t47,t48,t49,t50,t51,t52,t53,t54,t55,t56,t57,t58,t59,undef] H [(X.exit 2,K0)]:=by
 refine LA_rule (Z:=[]) (λm xs H'=>AS.asInt .u64 (xs.getD 4 undef) λt4=>AS.asBool (xs.getD 5 undef) λt5=>AS.asInt .i64 (xs.getD 6 undef) λt6=>I m t4 t5 t6 H') ?_ n H ?_
 ·intro n H
  suffices hs:∀s16:Value,∀s17:Value,∀s18:Value,∀s19:Value,∀s20:Value,∀s21:Value,∀s22:Value,∀s25:Value,∀s26:Value,∀s27:Value,∀s28:Value,∀s29:Value,∀s30:Value,∀s31:Value,∀s32:Value,∀s7:Value,∀s33:Value,∀s34:Value,∀s35:Value,∀s36:Value,∀s37:Value,∀s38:Value,∀s39:Value,∀s40:Value,∀s41:Value,∀s42:Value,∀s43:Value,∀s44:Value,∀s45:Value,∀s46:Value,∀s47:Value,∀s48:Value,∀s49:Value,∀s50:Value,∀s51:Value,∀s52:Value,∀s53:Value,∀s54:Value,∀s55:Value,∀s4:Value,∀s5:Value,∀s23:Value,∀s24:Value,∀s6:Value,((AS.asInt .u64 s4 λt4=>AS.asBool s5 λt5=>AS.asInt .i64 s6 λt6=>I n t4 t5 t6 H)->wpCode en L_crossbarref16_Map_Keys_1 [] [(.pointer t0),undef,(.slice none 0 0),(.slice t3 t3l 0),s4,s5,s6,s7,(.slice t8 t8l 0),(.int .i64 t9),(.pointer t10),(.pointer (some ⟨t11,t11o,none⟩)),(.pointer (some ⟨t12,t12o,none⟩)),(.slice t13 t13l 0),(.int .i64 t14),(.bool true),s16,s17,s18,s19,s20,s21,s22,s23,s24,s25,s26,s27,s28,s29,s30,s31,s32,s33,s34,s35,s36,s37,s38,s39,s40,s41,s42,s43,s44,s45,s46,s47,s48,s49,s50,s51,s52,s53,s54,s55,t56,t57,t58,t59,undef] H (loopQ (λm xs H'=>AS.asInt .u64 (xs.getD 4 undef) λt4=>AS.asBool (xs.getD 5 undef) λt5=>AS.asInt .i64 (xs.getD 6 undef) λt6=>I m t4 t5 t6 H') n [(X.exit 2,K0)])) by
   apply turnInto hs
   kernel_rfl
  intro s16 s17 s18 s19 s20 s21 s22 s25 s26 s27 s28 s29 s30 s31 s32 s7 s33 s34 s35 s36 s37 s38 s39 s40 s41 s42 s43 s44 s45 s46 s47 s48 s49 s50 s51 s52 s53 s54 s55 s4 s5 s23 s24 s6 hP;replace hP:=asInt_elim hP;obtain ⟨t4,rfl,hP⟩:=hP;replace hP:=asBool_elim hP;obtain ⟨t5,rfl,hP⟩:=hP;replace hP:=asInt_elim hP;obtain ⟨t6,rfl,hP⟩:=hP;apply turnInto (hstep n t4 t5 t6 [(.pointer t0),undef,(.slice none 0 0),(.slice t3 t3l 0),(.int .u64 t4),(.bool t5),(.int .i64 t6),s7,(.slice t8 t8l 0),(.int .i64 t9),(.pointer t10),(.pointer (some ⟨t11,t11o,none⟩)),(.pointer (some ⟨t12,t12o,none⟩)),(.slice t13 t13l 0),(.int .i64 t14),(.bool true),s16,s17,s18,s19,s20,s21,s22,s23,s24,s25,s26,s27,s28,s29,s30,s31,s32,s33,s34,s35,s36,s37,s38,s39,s40,s41,s42,s43,s44,s45,s46,s47,s48,s49,s50,s51,s52,s53,s54,s55,t56,t57,t58,t59,undef] H hP);kernel_rfl
 ·apply turnInto h0
  kernel_rfl
theorem vc_crossbarref16_Map_Do (x0:Option Addr)(x1_0:Int)(x1_1:Int)(x1_2:Option Addr)(x1_2l:Nat)(x1_3:Int)(x1_4:Int)(H:Heap)(R:Value->Heap->Prop) :
  (
 nwH H (.cells true 0 [(.int .i64 x1_0),(.int .u64 x1_1),(.slice x1_2 x1_2l 0),(.int .i64 x1_3),(.int .i64 x1_4)]) λi1 H2=>
 nwH H2 (.cells true 0 [(.int .i64 0),(.slice none 0 0),(.int .u64 0),(.int .i64 0)]) λi3 H4=>
 ∃n5,H4.cell i1 1=some (.int .u64 n5)/\
 CA en F.crossbarref16_Map_find [(.pointer x0),(.int .u64 n5)] H4 λv6 H7=>
 ∃n8,v6=(.int .i64 n8)/\
 ∃n9,H7.cell i1 0=some (.int .i64 n9)/\
 bif (n9==4) then (
 ∃n10,∃n11,∃a12 i13,∃n14,∃n15,H7.cellsAt i1 0 5=some [(.int .i64 n10),(.int .u64 n11),(.slice a12 i13 0),(.int .i64 n14),(.int .i64 n15)]/\
 CA en F.crossbarref16_Map_next [(.pointer x0),(.agg #[(.int .i64 n10),(.int .u64 n11),(.slice a12 i13 0),(.int .i64 n14),(.int .i64 n15)])] H7 λv16 H17=>
 ∃n18,∃a19 i20,∃n21,∃n22,v16=(.agg #[(.int .i64 n18),(.slice a19 i20 0),(.int .u64 n21),(.int .i64 n22)])/\
 stc H17 i3 0 [(.int .i64 n18),(.slice a19 i20 0),(.int .u64 n21),(.int .i64 n22)] λH23=>
 ∃n24,∃a25 i26,∃n27,∃n28,H23.cellsAt i3 0 4=some [(.int .i64 n24),(.slice a25 i26 0),(.int .u64 n27),(.int .i64 n28)]/\
 R (.agg #[(.int .i64 n24),(.slice a25 i26 0),(.int .u64 n27),(.int .i64 n28)]) H23)
 else (
 ∃n29,H7.cell i1 0=some (.int .i64 n29)/\
 bif (n29==2) then (
 ∃n30,∃n31,∃a32 i33,∃n34,∃n35,H7.cellsAt i1 0 5=some [(.int .i64 n30),(.int .u64 n31),(.slice a32 i33 0),(.int .i64 n34),(.int .i64 n35)]/\
 CA en F.crossbarref16_Map_update [(.pointer x0),(.agg #[(.int .i64 n30),(.int .u64 n31),(.slice a32 i33 0),(.int .i64 n34),(.int .i64 n35)]),(.int .i64 n8)] H7 λv36 H37=>
 ∃n38,∃a39 i40,∃n41,∃n42,v36=(.agg #[(.int .i64 n38),(.slice a39 i40 0),(.int .u64 n41),(.int .i64 n42)])/\
 stc H37 i3 0 [(.int .i64 n38),(.slice a39 i40 0),(.int .u64 n41),(.int .i64 n42)] λH43=>
 ∃n44,∃a45 i46,∃n47,∃n48,H43.cellsAt i3 0 4=some [(.int .i64 n44),(.slice a45 i46 0),(.int .u64 n47),(.int .i64 n48)]/\
 R (.agg #[(.int .i64 n44),(.slice a45 i46 0),(.int .u64 n47),(.int .i64 n48)]) H43)
 else (
 bif (decide (n8<0)) then (
 stc H7 i3 0 [(.int .i64 2),(.slice none 0 0),(.int .u64 0),(.int .i64 0)] λH49=>
 ∃n50,∃a51 i52,∃n53,∃n54,H49.cellsAt i3 0 4=some [(.int .i64 n50),(.slice a51 i52 0),(.int .u64 n53),(.int .i64 n54)]/\
 R (.agg #[(.int .i64 n50),(.slice a51 i52 0),(.int .u64 n53),(.int .i64 n54)]) H49)
 else (
 CA en F.crossbarref16_Map_out [(.pointer x0),(.int .i64 n8)] H7 λv55 H56=>
 ∃n57,∃n58,v55=(.agg #[(.int .u64 n57),(.int .i64 n58)])/\
 nwH H56 (.cells true 0 [(.int .u64 0),(.int .i64 0)]) λi59 H60=>
 stc H60 i59 0 [(.int .u64 n57),(.int .i64 n58)] λH61=>
 AS.asAddr (.pointer x0) λi62 i63=>
 ∃a64 i65,(H61.bump 10).cell i62 (i63+6)=some (.slice a64 i65 0)/\
 ∃n66,(H61.bump 10).cell i59 1=some (.int .i64 n66)/\
 inB (IntKind.i64.wrap (n66 - 1)) i65/\
 asRow a64 λi67 i68=>
 ∃n69,(H61.bump 10).cell i67 (i68+((IntKind.i64.wrap (n66 - 1)).toNat*1))=some (.int .u64 n69)/\
 (
 ∃n70,(H61.bump 10).cell i1 0=some (.int .i64 n70)/\
 bif (n70==1) then (
 AS.asAddr (.pointer x0) λi71 i72=>
 ∃a73 i74,((H61.bump 10).bump 11).cell i71 (i72+5)=some (.slice a73 i74 0)/\
 ∃n75,∃n76,((H61.bump 10).bump 11).cellsAt i59 0 2=some [(.int .u64 n75),(.int .i64 n76)]/\
 nwH ((H61.bump 10).bump 11) (.cells true 2 [(.int .u64 n75),(.int .i64 n76)]) λi77 H78=>
 ∃l79,rowOf H78 2 (some ⟨i77,0,none⟩) 1=some l79/\
 apd H78 16 2 a73 i74 1 l79 λa80 i81 H82=>
 AS.asAddr (.pointer x0) λi83 i84=>
 stc H82 i83 (i84+5) [(.slice a80 i81 0)] λH85=>
 (
 nwH H85 (.cells true 1 [(.int .u64 n69)]) λi90 H91=>
 ∃n92,H91.cell i59 1=some (.int .i64 n92)/\
 stc H91 i3 0 [(.int .i64 0),(.slice (some ⟨i90,0,none⟩) 1 0),(.int .u64 0),(.int .i64 n92)] λH93=>
 ∃n94,∃a95 i96,∃n97,∃n98,H93.cellsAt i3 0 4=some [(.int .i64 n94),(.slice a95 i96 0),(.int .u64 n97),(.int .i64 n98)]/\
 R (.agg #[(.int .i64 n94),(.slice a95 i96 0),(.int .u64 n97),(.int .i64 n98)]) H93)/\
 ((∃a88 i89,((H61.bump 10).bump 11).cell i71 (i72+5)=some (.slice a88 i89 0)/\
 (a73=a88/\i74=i89/\0=0))/\(∃a86 i87,H78.cell i71 (i72+5)=some (.slice a86 i87 0)/\
 (a73=a86/\i74=i87/\0=0))/\True)/\
 True)
 else (
 bif (n70==5) then (
 nwH (H61.bump 10) (.cells true 1 [(.int .u64 n69)]) λi99 H100=>
 stc H100 i3 0 [(.int .i64 0),(.slice (some ⟨i99,0,none⟩) 1 0),(.int .u64 0),(.int .i64 0)] λH101=>
 ∃n102,∃a103 i104,∃n105,∃n106,H101.cellsAt i3 0 4=some [(.int .i64 n102),(.slice a103 i104 0),(.int .u64 n105),(.int .i64 n106)]/\
 R (.agg #[(.int .i64 n102),(.slice a103 i104 0),(.int .u64 n105),(.int .i64 n106)]) H101)
 else (
 stc (H61.bump 10) i3 0 [(.int .i64 0),(.slice none 0 0),(.int .u64 0),(.int .i64 0)] λH107=>
 ∃n108,∃a109 i110,∃n111,∃n112,H107.cellsAt i3 0 4=some [(.int .i64 n108),(.slice a109 i110 0),(.int .u64 n111),(.int .i64 n112)]/\
 R (.agg #[(.int .i64 n108),(.slice a109 i110 0),(.int .u64 n111),(.int .i64 n112)]) H107)))/\
 True))))->
  CA en F.crossbarref16_Map_Do [(.pointer x0),(.agg #[(.int .i64 x1_0),(.int .u64 x1_1),(.slice x1_2 x1_2l 0),(.int .i64 x1_3),(.int .i64 x1_4)])] H R:=by
 intro h;refine wpFn_ok (Z:=[]) (fn:=Go.Proofs.Tryz.f235) ?_ ?_ ?_
 ·kernel_rfl
 ·kernel_rfl
 ·apply turnInto h
  kernel_rfl
noncomputable def L_crossbarref16_Map_find_0:Code:=loopAt Go.Proofs.Tryz.f285 0
theorem vc_crossbarref16_Map_find (x0:Option Addr)(x1:Int)(H:Heap)(R:Value->Heap->Prop) :
  (
 LA en L_crossbarref16_Map_find_0 [(.pointer x0),(.int .u64 x1),undef,undef,(.int .i64 0),(.int .i64 0),undef,undef,undef,undef,undef,undef,undef,undef,undef,undef,undef,undef,undef,undef,undef,undef,undef,undef,undef,undef] H [(X.exit 0,λ(y1:Fr)(H2:Heap)=>
 AS.asInt .i64 (y1.getD 4 undef) λn3=>
 R (.int .i64 (-1)) H2),
 (X.ret,λ(y4:Fr)(H5:Heap)=>
 AS.asInt .i64 (y4.getD 4 undef) λn6=>
 R (.int .i64 n6) H5)])->
  CA en F.crossbarref16_Map_find [(.pointer x0),(.int .u64 x1)] H R:=by
 intro h;refine wpFn_ok (Z:=[[(4,(.int .i64 0))]]) (fn:=Go.Proofs.Tryz.f285) ?_ ?_ ?_
 ·kernel_rfl
 ·kernel_rfl
 ·apply turnInto h
  kernel_rfl
theorem use_crossbarref16_Map_find_0 {t0:Option Addr}{t1:Int}{K0:Fr->Heap->Prop}{K1:Fr->Heap->Prop}{t4:Int}{t5:Int}{t6:Value}{t7:Value}{t8:Value}{t9:Value}{t10:Value}{t11:Value}{t12:Value}{t13:Value}{t14:Value}{t15:Value}{t16:Value}{t17:Value}{t18:Value}{t19:Value}{t20:Value}{t21:Value}{t22:Value}{t23:Value}{t24:Value}{t25:Value}{H:Heap}(I:Nat->Int->Int->Heap->Prop)(n:Nat)(h0:I n t4 t5 H)
  (hstep:∀(n:Nat)(t4:Int)(t5:Int)(ys:Fr)(H:Heap),I n t4 t5 H->
  (
 AS.asAddr (.pointer t0) λi1 i2=>
 ∃a3 i4,H.cell i1 (i2+5)=some (.slice a3 i4 0)/\
 bif (decide (t5<((i4:Nat):Int))) then (
 AS.asAddr (.pointer t0) λi5 i6=>
 ∃a7 i8,H.cell i5 (i6+5)=some (.slice a7 i8 0)/\
 inB t5 i8/\
 asRow a7 λi9 i10=>
 ∃n11,H.cell i9 (i10+(t5.toNat*2))=some (.int .u64 n11)/\
 bif (n11==t1) then (
 K1 [(.pointer t0),(.int .u64 t1),undef,undef,(.int .i64 t5),(.int .i64 t5),(.int .i64 t5),(.pointer t0),(.pointer (some ⟨i1,i2,none⟩)),(.pointer (some ⟨i1,(i2+5),none⟩)),(.slice a3 i4 0),(.int .i64 ((i4:Nat):Int)),(.bool true),(ys.getD 13 undef),(ys.getD 14 undef),(.pointer t0),(.pointer (some ⟨i5,i6,none⟩)),(.pointer (some ⟨i5,(i6+5),none⟩)),(.slice a7 i8 0),(.int .i64 t5),(.pointer (some ⟨i9,(i10+(t5.toNat*2)),none⟩)),(.pointer (some ⟨i9,(i10+(t5.toNat*2)),none⟩)),(.int .u64 n11),(.int .u64 t1),(.bool true),(.int .i64 t5)] H)
 else (
 ∃k12,k12<n/\
 I k12 t4 (IntKind.i64.wrap (t5+1)) H))
 else (
 K0 [(.pointer t0),(.int .u64 t1),undef,undef,(.int .i64 t4),(.int .i64 t5),(.int .i64 t5),(.pointer t0),(.pointer (some ⟨i1,i2,none⟩)),(.pointer (some ⟨i1,(i2+5),none⟩)),(.slice a3 i4 0),(.int .i64 ((i4:Nat):Int)),(.bool false),(ys.getD 13 undef),(ys.getD 14 undef),(ys.getD 15 undef),(ys.getD 16 undef),(ys.getD 17 undef),(ys.getD 18 undef),(ys.getD 19 undef),(ys.getD 20 undef),(ys.getD 21 undef),(ys.getD 22 undef),(ys.getD 23 undef),(ys.getD 24 undef),(ys.getD 25 undef)] H))) :
  LA en L_crossbarref16_Map_find_0 [(.pointer t0),(.int .u64 t1),undef,undef,(.int .i64 t4),(.int .i64 t5),t6,t7,t8,t9,t10,t11,t12,t13,t14,t15,t16,t17,t18,t19,t20,t21,t22,t23,t24,t25] H [(X.exit 0,K0),(X.ret,K1)]:=by
 refine LA_rule (Z:=[]) (λm xs H'=>AS.asInt .i64 (xs.getD 4 undef) λt4=>AS.asInt .i64 (xs.getD 5 undef) λt5=>I m t4 t5 H') ?_ n H ?_
 ·intro n H
  suffices hs:∀s6:Value,∀s7:Value,∀s8:Value,∀s9:Value,∀s10:Value,∀s11:Value,∀s12:Value,∀s15:Value,∀s16:Value,∀s17:Value,∀s18:Value,∀s19:Value,∀s20:Value,∀s21:Value,∀s22:Value,∀s23:Value,∀s24:Value,∀s25:Value,∀s4:Value,∀s13:Value,∀s14:Value,∀s5:Value,((AS.asInt .i64 s4 λt4=>AS.asInt .i64 s5 λt5=>I n t4 t5 H)->wpCode en L_crossbarref16_Map_find_0 [] [(.pointer t0),(.int .u64 t1),undef,undef,s4,s5,s6,s7,s8,s9,s10,s11,s12,s13,s14,s15,s16,s17,s18,s19,s20,s21,s22,s23,s24,s25] H (loopQ (λm xs H'=>AS.asInt .i64 (xs.getD 4 undef) λt4=>AS.asInt .i64 (xs.getD 5 undef) λt5=>I m t4 t5 H') n [(X.exit 0,K0),(X.ret,K1)])) by
   apply turnInto hs
   kernel_rfl
  intro s6 s7 s8 s9 s10 s11 s12 s15 s16 s17 s18 s19 s20 s21 s22 s23 s24 s25 s4 s13 s14 s5 hP;replace hP:=asInt_elim hP;obtain ⟨t4,rfl,hP⟩:=hP;replace hP:=asInt_elim hP;obtain ⟨t5,rfl,hP⟩:=hP;apply turnInto (hstep n t4 t5 [(.pointer t0),(.int .u64 t1),undef,undef,(.int .i64 t4),(.int .i64 t5),s6,s7,s8,s9,s10,s11,s12,s13,s14,s15,s16,s17,s18,s19,s20,s21,s22,s23,s24,s25] H hP);kernel_rfl
 ·apply turnInto h0
  kernel_rfl
noncomputable def L_crossbarref16_Map_next_0:Code:=loopAt Go.Proofs.Tryz.f286 0
theorem vc_crossbarref16_Map_next (x0:Option Addr)(x1_0:Int)(x1_1:Int)(x1_2:Option Addr)(x1_2l:Nat)(x1_3:Int)(x1_4:Int)(H:Heap)(R:Value->Heap->Prop) :
  (
 nwH H (.cells true 0 [(.int .i64 x1_0),(.int .u64 x1_1),(.slice x1_2 x1_2l 0),(.int .i64 x1_3),(.int .i64 x1_4)]) λi1 H2=>
 nwH H2 (.cells true 0 [(.int .i64 0),(.slice none 0 0),(.int .u64 0),(.int .i64 0)]) λi3 H4=>
 CA en F.crossbarref16_Map_Keys [(.pointer x0)] H4 λv5 H6=>
 ∃a7 i8,v5=(.slice a7 i8 0)/\
 LA en L_crossbarref16_Map_next_0 [(.pointer x0),(.agg #[(.int .i64 x1_0),(.int .u64 x1_1),(.slice x1_2 x1_2l 0),(.int .i64 x1_3),(.int .i64 x1_4)]),undef,(.pointer (some ⟨i1,0,none⟩)),(.pointer (some ⟨i3,0,none⟩)),(.slice a7 i8 0),(.int .i64 0),(.pointer x0),(.slice a7 i8 0),undef,undef,undef,undef,undef,undef,undef,undef,undef,undef,undef,undef,undef,undef,undef,undef,undef,undef,undef,undef,undef,undef,undef,undef] H6 [(X.exit 0,λ(y9:Fr)(H10:Heap)=>
 stc H10 i3 0 [(.int .i64 2),(.slice none 0 0),(.int .u64 0),(.int .i64 0)] λH11=>
 ∃n12,∃a13 i14,∃n15,∃n16,H11.cellsAt i3 0 4=some [(.int .i64 n12),(.slice a13 i14 0),(.int .u64 n15),(.int .i64 n16)]/\
 R (.agg #[(.int .i64 n12),(.slice a13 i14 0),(.int .u64 n15),(.int .i64 n16)]) H11),
 (X.ret,λ(y17:Fr)(H18:Heap)=>
 ∃n19,∃a20 i21,∃n22,∃n23,H18.cellsAt i3 0 4=some [(.int .i64 n19),(.slice a20 i21 0),(.int .u64 n22),(.int .i64 n23)]/\
 R (.agg #[(.int .i64 n19),(.slice a20 i21 0),(.int .u64 n22),(.int .i64 n23)]) H18)])->
  CA en F.crossbarref16_Map_next [(.pointer x0),(.agg #[(.int .i64 x1_0),(.int .u64 x1_1),(.slice x1_2 x1_2l 0),(.int .i64 x1_3),(.int .i64 x1_4)])] H R:=by
 intro h;refine wpFn_ok (Z:=[[]]) (fn:=Go.Proofs.Tryz.f286) ?_ ?_ ?_
 ·kernel_rfl
 ·kernel_rfl
 ·apply turnInto h
  kernel_rfl
theorem use_crossbarref16_Map_next_0 {t0:Option Addr}{t1_0:Int}{t1_1:Int}{t1_2:Option Addr}{t1_2l:Nat}{t1_3:Int}{t1_4:Int}{t3:Nat}{t4:Nat}{t5:Option Addr}{t5l:Nat}{t7:Option Addr}{t8:Option Addr}{t8l:Nat}{K0:Fr->Heap->Prop}{K1:Fr->Heap->Prop}{t6:Int}{t9:Value}{t10:Value}{t11:Value}{t12:Value}{t13:Value}{t14:Value}{t15:Value}{t16:Value}{t17:Value}{t18:Value}{t19:Value}{t20:Value}{t21:Value}{t22:Value}{t23:Value}{t24:Value}{t25:Value}{t26:Value}{t27:Value}{t28:Value}{t29:Value}{t30:Value}{t31:Value}{H:Heap}(I:Nat->Int->Heap->Prop)(n:Nat)(h0:I n t6 H)
  (hstep:∀(n:Nat)(t6:Int)(ys:Fr)(H:Heap),I n t6 H->
  (
 bif (decide (t6<((t5l:Nat):Int))) then (
 ∃n1,(H.bump 12).cell t3 3=some (.int .i64 n1)/\
 bif (n1==1) then (
 (
 inB t6 t5l/\
 asRow t5 λi2 i3=>
 ∃n4,(H.bump 12).cell i2 (i3+(t6.toNat*1))=some (.int .u64 n4)/\
 stc (H.bump 12) t4 0 [(.int .i64 0),(.slice none 0 0),(.int .u64 n4),(.int .i64 0)] λH5=>
 K1 [(.pointer t0),(.agg #[(.int .i64 t1_0),(.int .u64 t1_1),(.slice t1_2 t1_2l 0),(.int .i64 t1_3),(.int .i64 t1_4)]),undef,(.pointer (some ⟨t3,0,none⟩)),(.pointer (some ⟨t4,0,none⟩)),(.slice t5 t5l 0),(.int .i64 t6),(.pointer t7),(.slice t8 t8l 0),(.int .i64 t6),(.slice t5 t5l 0),(.int .i64 ((t5l:Nat):Int)),(.bool true),(ys.getD 13 undef),(ys.getD 14 undef),(.pointer (some ⟨t3,3,none⟩)),(.int .i64 n1),(.bool (n1==1)),(.bool true),undef,undef,undef,undef,undef,undef,undef,(.bool true),(.slice t5 t5l 0),(.int .i64 t6),(.pointer (some ⟨i2,(i3+(t6.toNat*1)),none⟩)),(.int .u64 n4),(.agg #[(.int .i64 0),(.slice none 0 0),(.int .u64 n4),(.int .i64 0)]),undef] H5)/\
 True)
 else (
 inB t6 t5l/\
 asRow t5 λi6 i7=>
 ∃n8,(H.bump 12).cell i6 (i7+(t6.toNat*1))=some (.int .u64 n8)/\
 ∃n9,(H.bump 12).cell t3 1=some (.int .u64 n9)/\
 (
 bif (decide (n8>n9)) then (
 inB t6 t5l/\
 asRow t5 λi10 i11=>
 ∃n12,(H.bump 12).cell i10 (i11+(t6.toNat*1))=some (.int .u64 n12)/\
 stc (H.bump 12) t4 0 [(.int .i64 0),(.slice none 0 0),(.int .u64 n12),(.int .i64 0)] λH13=>
 K1 [(.pointer t0),(.agg #[(.int .i64 t1_0),(.int .u64 t1_1),(.slice t1_2 t1_2l 0),(.int .i64 t1_3),(.int .i64 t1_4)]),undef,(.pointer (some ⟨t3,0,none⟩)),(.pointer (some ⟨t4,0,none⟩)),(.slice t5 t5l 0),(.int .i64 t6),(.pointer t7),(.slice t8 t8l 0),(.int .i64 t6),(.slice t5 t5l 0),(.int .i64 ((t5l:Nat):Int)),(.bool true),(ys.getD 13 undef),(ys.getD 14 undef),(.pointer (some ⟨t3,3,none⟩)),(.int .i64 n1),(.bool (n1==1)),(.bool false),(.slice t5 t5l 0),(.int .i64 t6),(.pointer (some ⟨i6,(i7+(t6.toNat*1)),none⟩)),(.int .u64 n8),(.pointer (some ⟨t3,1,none⟩)),(.int .u64 n9),(.bool (decide (n8>n9))),(.bool true),(.slice t5 t5l 0),(.int .i64 t6),(.pointer (some ⟨i10,(i11+(t6.toNat*1)),none⟩)),(.int .u64 n12),(.agg #[(.int .i64 0),(.slice none 0 0),(.int .u64 n12),(.int .i64 0)]),undef] H13)
 else (
 ∃k14,k14<n/\
 I k14 (IntKind.i64.wrap (t6+1)) (H.bump 12)))/\
 True))
 else (
 K0 [(.pointer t0),(.agg #[(.int .i64 t1_0),(.int .u64 t1_1),(.slice t1_2 t1_2l 0),(.int .i64 t1_3),(.int .i64 t1_4)]),undef,(.pointer (some ⟨t3,0,none⟩)),(.pointer (some ⟨t4,0,none⟩)),(.slice t5 t5l 0),(.int .i64 t6),(.pointer t7),(.slice t8 t8l 0),(.int .i64 t6),(.slice t5 t5l 0),(.int .i64 ((t5l:Nat):Int)),(.bool false),(ys.getD 13 undef),(ys.getD 14 undef),(ys.getD 15 undef),(ys.getD 16 undef),(ys.getD 17 undef),(ys.getD 18 undef),(ys.getD 19 undef),(ys.getD 20 undef),(ys.getD 21 undef),(ys.getD 22 undef),(ys.getD 23 undef),(ys.getD 24 undef),(ys.getD 25 undef),(ys.getD 26 undef),(ys.getD 27 undef),(ys.getD 28 undef),(ys.getD 29 undef),(ys.getD 30 undef),(ys.getD 31 undef),undef] H))) :
  LA en L_crossbarref16_Map_next_0 [(.pointer t0),(.agg #[(.int .i64 t1_0),(.int .u64 t1_1),(.slice t1_2 t1_2l 0),(.int .i64 t1_3),(.int .i64 t1_4)]),undef,(.pointer (some ⟨t3,0,none⟩)),(.pointer (some ⟨t4,0,none⟩)),(.slice t5 t5l 0),(.int .i64 t6),(.pointer t7),(.slice t8 t8l 0),t9,t10,t11,t12,t13,t14,t15,t16,t17,t18,t19,t20,t21,t22,t23,t24,t25,t26,t27,t28,t29,t30,t31,undef] H [(X.exit 0,K0),(X.ret,K1)]:=by
 refine LA_rule (Z:=[]) (λm xs H'=>AS.asInt .i64 (xs.getD 6 undef) λt6=>I m t6 H') ?_ n H ?_
 ·intro n H
  suffices hs:∀s9:Value,∀s10:Value,∀s11:Value,∀s12:Value,∀s15:Value,∀s16:Value,∀s17:Value,∀s18:Value,∀s19:Value,∀s20:Value,∀s21:Value,∀s22:Value,∀s23:Value,∀s24:Value,∀s25:Value,∀s26:Value,∀s27:Value,∀s28:Value,∀s29:Value,∀s30:Value,∀s31:Value,∀s13:Value,∀s14:Value,∀s6:Value,((AS.asInt .i64 s6 λt6=>I n t6 H)->wpCode en L_crossbarref16_Map_next_0 [] [(.pointer t0),(.agg #[(.int .i64 t1_0),(.int .u64 t1_1),(.slice t1_2 t1_2l 0),(.int .i64 t1_3),(.int .i64 t1_4)]),undef,(.pointer (some ⟨t3,0,none⟩)),(.pointer (some ⟨t4,0,none⟩)),(.slice t5 t5l 0),s6,(.pointer t7),(.slice t8 t8l 0),s9,s10,s11,s12,s13,s14,s15,s16,s17,s18,s19,s20,s21,s22,s23,s24,s25,s26,s27,s28,s29,s30,s31,undef] H (loopQ (λm xs H'=>AS.asInt .i64 (xs.getD 6 undef) λt6=>I m t6 H') n [(X.exit 0,K0),(X.ret,K1)])) by
   apply turnInto hs
   kernel_rfl
  intro s9 s10 s11 s12 s15 s16 s17 s18 s19 s20 s21 s22 s23 s24 s25 s26 s27 s28 s29 s30 s31 s13 s14 s6 hP;replace hP:=asInt_elim hP;obtain ⟨t6,rfl,hP⟩:=hP;apply turnInto (hstep n t6 [(.pointer t0),(.agg #[(.int .i64 t1_0),(.int .u64 t1_1),(.slice t1_2 t1_2l 0),(.int .i64 t1_3),(.int .i64 t1_4)]),undef,(.pointer (some ⟨t3,0,none⟩)),(.pointer (some ⟨t4,0,none⟩)),(.slice t5 t5l 0),(.int .i64 t6),(.pointer t7),(.slice t8 t8l 0),s9,s10,s11,s12,s13,s14,s15,s16,s17,s18,s19,s20,s21,s22,s23,s24,s25,s26,s27,s28,s29,s30,s31,undef] H hP);kernel_rfl
 ·apply turnInto h0
  kernel_rfl
theorem vc_crossbarref16_Map_update (x0:Option Addr)(x1_0:Int)(x1_1:Int)(x1_2:Option Addr)(x1_2l:Nat)(x1_3:Int)(x1_4:Int)(x2:Int)(H:Heap)(R:Value->Heap->Prop) :
  (
 nwH H (.cells true 0 [(.int .i64 x1_0),(.int .u64 x1_1),(.slice x1_2 x1_2l 0),(.int .i64 x1_3),(.int .i64 x1_4)]) λi1 H2=>
 nwH H2 (.cells true 0 [(.int .i64 0),(.slice none 0 0),(.int .u64 0),(.int .i64 0)]) λi3 H4=>
 bif (decide (x2≥0)) then (
 ∃n5,H4.cell i1 3=some (.int .i64 n5)/\
 bif (n5==1) then (
 stc H4 i3 0 [(.int .i64 3),(.slice none 0 0),(.int .u64 0),(.int .i64 0)] λH6=>
 ∃n7,∃a8 i9,∃n10,∃n11,H6.cellsAt i3 0 4=some [(.int .i64 n7),(.slice a8 i9 0),(.int .u64 n10),(.int .i64 n11)]/\
 R (.agg #[(.int .i64 n7),(.slice a8 i9 0),(.int .u64 n10),(.int .i64 n11)]) H6)
 else (
 CA en F.crossbarref16_Map_out [(.pointer x0),(.int .i64 x2)] H4 λv12 H13=>
 ∃n14,∃n15,v12=(.agg #[(.int .u64 n14),(.int .i64 n15)])/\
 nwH H13 (.cells true 0 [(.int .u64 0),(.int .i64 0)]) λi16 H17=>
 stc H17 i16 0 [(.int .u64 n14),(.int .i64 n15)] λH18=>
 AS.asAddr (.pointer x0) λi19 i20=>
 ∃a21 i22,(H18.bump 11).cell i19 (i20+5)=some (.slice a21 i22 0)/\
 ∃n23,∃n24,(H18.bump 11).cellsAt i16 0 2=some [(.int .u64 n23),(.int .i64 n24)]/\
 nwH (H18.bump 11) (.cells true 2 [(.int .u64 n23),(.int .i64 n24)]) λi25 H26=>
 ∃l27,rowOf H26 2 (some ⟨i25,0,none⟩) 1=some l27/\
 apd H26 16 2 a21 i22 1 l27 λa28 i29 H30=>
 AS.asAddr (.pointer x0) λi31 i32=>
 stc H30 i31 (i32+5) [(.slice a28 i29 0)] λH33=>
 (
 AS.asAddr (.pointer x0) λi38 i39=>
 ∃a40 i41,(H33.bump 13).cell i38 (i39+6)=some (.slice a40 i41 0)/\
 ∃n42,(H33.bump 13).cell i16 1=some (.int .i64 n42)/\
 ∃a43 i44,(H33.bump 13).cell i1 2=some (.slice a43 i44 0)/\
 inB 0 i44/\
 asRow a43 λi45 i46=>
 ∃n47,(H33.bump 13).cell i45 i46=some (.int .u64 n47)/\
 inB (IntKind.i64.wrap (n42 - 1)) i41/\
 asRow a40 λi48 i49=>
 stc (H33.bump 13) i48 (i49+((IntKind.i64.wrap (n42 - 1)).toNat*1)) [(.int .u64 n47)] λH50=>
 (
 stc H50 i3 0 [(.int .i64 0),(.slice none 0 0),(.int .u64 0),(.int .i64 0)] λH51=>
 ∃n52,∃a53 i54,∃n55,∃n56,H51.cellsAt i3 0 4=some [(.int .i64 n52),(.slice a53 i54 0),(.int .u64 n55),(.int .i64 n56)]/\
 R (.agg #[(.int .i64 n52),(.slice a53 i54 0),(.int .u64 n55),(.int .i64 n56)]) H51)/\
 True)/\
 ((∃a36 i37,(H18.bump 11).cell i19 (i20+5)=some (.slice a36 i37 0)/\
 (a21=a36/\i22=i37/\0=0))/\(∃a34 i35,H26.cell i19 (i20+5)=some (.slice a34 i35 0)/\
 (a21=a34/\i22=i35/\0=0))/\True)/\
 True))
 else (
 ∃n57,H4.cell i1 3=some (.int .i64 n57)/\
 bif (n57==2) then (
 stc H4 i3 0 [(.int .i64 2),(.slice none 0 0),(.int .u64 0),(.int .i64 0)] λH58=>
 ∃n59,∃a60 i61,∃n62,∃n63,H58.cellsAt i3 0 4=some [(.int .i64 n59),(.slice a60 i61 0),(.int .u64 n62),(.int .i64 n63)]/\
 R (.agg #[(.int .i64 n59),(.slice a60 i61 0),(.int .u64 n62),(.int .i64 n63)]) H58)
 else (
 AS.asAddr (.pointer x0) λi64 i65=>
 ∃a66 i67,(H4.bump 11).cell i64 (i65+5)=some (.slice a66 i67 0)/\
 AS.asAddr (.pointer x0) λi68 i69=>
 ∃n70,(H4.bump 11).cell i68 (i69+1)=some (.int .i64 n70)/\
 (
 bif (((i67:Nat):Int)==n70) then (
 CA en F.crossbarref16_Map_out [(.pointer x0),(.int .i64 0)] (H4.bump 11) λv71 H72=>
 ∃n73,∃n74,v71=(.agg #[(.int .u64 n73),(.int .i64 n74)])/\
 AS.asAddr (.pointer x0) λi75 i76=>
 ∃a77 i78,(H72.bump 14).cell i75 (i76+6)=some (.slice a77 i78 0)/\
 ∃a79 i80,(H72.bump 14).cell i1 2=some (.slice a79 i80 0)/\
 inB 0 i80/\
 asRow a79 λi81 i82=>
 ∃n83,(H72.bump 14).cell i81 i82=some (.int .u64 n83)/\
 nwH (H72.bump 14) (.cells true 1 [(.int .u64 n83)]) λi84 H85=>
 ∃l86,rowOf H85 1 (some ⟨i84,0,none⟩) 1=some l86/\
 apd H85 8 1 a77 i78 1 l86 λa87 i88 H89=>
 AS.asAddr (.pointer x0) λi90 i91=>
 stc H89 i90 (i91+6) [(.slice a87 i88 0)] λH92=>
 (
 AS.asAddr (.pointer x0) λi97 i98=>
 ∃a99 i100,(H92.bump 18).cell i97 (i98+5)=some (.slice a99 i100 0)/\
 ∃n101,(H92.bump 18).cell i1 1=some (.int .u64 n101)/\
 AS.asAddr (.pointer x0) λi102 i103=>
 ∃a104 i105,(H92.bump 18).cell i102 (i103+6)=some (.slice a104 i105 0)/\
 nwH (H92.bump 18) (.cells true 2 [(.int .u64 n101),(.int .i64 ((i105:Nat):Int))]) λi106 H107=>
 ∃l108,rowOf H107 2 (some ⟨i106,0,none⟩) 1=some l108/\
 apd H107 16 2 a99 i100 1 l108 λa109 i110 H111=>
 AS.asAddr (.pointer x0) λi112 i113=>
 stc H111 i112 (i113+5) [(.slice a109 i110 0)] λH114=>
 (
 stc H114 i3 0 [(.int .i64 0),(.slice none 0 0),(.int .u64 0),(.int .i64 0)] λH119=>
 ∃n120,∃a121 i122,∃n123,∃n124,H119.cellsAt i3 0 4=some [(.int .i64 n120),(.slice a121 i122 0),(.int .u64 n123),(.int .i64 n124)]/\
 R (.agg #[(.int .i64 n120),(.slice a121 i122 0),(.int .u64 n123),(.int .i64 n124)]) H119)/\
 ((∃a117 i118,(H92.bump 18).cell i97 (i98+5)=some (.slice a117 i118 0)/\
 (a99=a117/\i100=i118/\0=0))/\(∃a115 i116,H107.cell i97 (i98+5)=some (.slice a115 i116 0)/\
 (a99=a115/\i100=i116/\0=0))/\True)/\
 True)/\
 ((∃a95 i96,(H72.bump 14).cell i75 (i76+6)=some (.slice a95 i96 0)/\
 (a77=a95/\i78=i96/\0=0))/\(∃a93 i94,H85.cell i75 (i76+6)=some (.slice a93 i94 0)/\
 (a77=a93/\i78=i94/\0=0))/\True)/\
 True)
 else (
 AS.asAddr (.pointer x0) λi125 i126=>
 ∃a127 i128,((H4.bump 11).bump 14).cell i125 (i126+6)=some (.slice a127 i128 0)/\
 ∃a129 i130,((H4.bump 11).bump 14).cell i1 2=some (.slice a129 i130 0)/\
 inB 0 i130/\
 asRow a129 λi131 i132=>
 ∃n133,((H4.bump 11).bump 14).cell i131 i132=some (.int .u64 n133)/\
 nwH ((H4.bump 11).bump 14) (.cells true 1 [(.int .u64 n133)]) λi134 H135=>
 ∃l136,rowOf H135 1 (some ⟨i134,0,none⟩) 1=some l136/\
 apd H135 8 1 a127 i128 1 l136 λa137 i138 H139=>
 AS.asAddr (.pointer x0) λi140 i141=>
 stc H139 i140 (i141+6) [(.slice a137 i138 0)] λH142=>
 (
 AS.asAddr (.pointer x0) λi147 i148=>
 ∃a149 i150,(H142.bump 18).cell i147 (i148+5)=some (.slice a149 i150 0)/\
 ∃n151,(H142.bump 18).cell i1 1=some (.int .u64 n151)/\
 AS.asAddr (.pointer x0) λi152 i153=>
 ∃a154 i155,(H142.bump 18).cell i152 (i153+6)=some (.slice a154 i155 0)/\
 nwH (H142.bump 18) (.cells true 2 [(.int .u64 n151),(.int .i64 ((i155:Nat):Int))]) λi156 H157=>
 ∃l158,rowOf H157 2 (some ⟨i156,0,none⟩) 1=some l158/\
 apd H157 16 2 a149 i150 1 l158 λa159 i160 H161=>
 AS.asAddr (.pointer x0) λi162 i163=>
 stc H161 i162 (i163+5) [(.slice a159 i160 0)] λH164=>
 (
 stc H164 i3 0 [(.int .i64 0),(.slice none 0 0),(.int .u64 0),(.int .i64 0)] λH169=>
 ∃n170,∃a171 i172,∃n173,∃n174,H169.cellsAt i3 0 4=some [(.int .i64 n170),(.slice a171 i172 0),(.int .u64 n173),(.int .i64 n174)]/\
 R (.agg #[(.int .i64 n170),(.slice a171 i172 0),(.int .u64 n173),(.int .i64 n174)]) H169)/\
 ((∃a167 i168,(H142.bump 18).cell i147 (i148+5)=some (.slice a167 i168 0)/\
 (a149=a167/\i150=i168/\0=0))/\(∃a165 i166,H157.cell i147 (i148+5)=some (.slice a165 i166 0)/\
 (a149=a165/\i150=i166/\0=0))/\True)/\
 True)/\
 ((∃a145 i146,((H4.bump 11).bump 14).cell i125 (i126+6)=some (.slice a145 i146 0)/\
 (a127=a145/\i128=i146/\0=0))/\(∃a143 i144,H135.cell i125 (i126+6)=some (.slice a143 i144 0)/\
 (a127=a143/\i128=i144/\0=0))/\True)/\
 True))/\
 True)))->
  CA en F.crossbarref16_Map_update [(.pointer x0),(.agg #[(.int .i64 x1_0),(.int .u64 x1_1),(.slice x1_2 x1_2l 0),(.int .i64 x1_3),(.int .i64 x1_4)]),(.int .i64 x2)] H R:=by
 intro h;refine wpFn_ok (Z:=[]) (fn:=Go.Proofs.Tryz.f287) ?_ ?_ ?_
 ·kernel_rfl
 ·kernel_rfl
 ·apply turnInto h
  kernel_rfl
noncomputable def L_crossbarref16_Map_out_0:Code:=loopAt Go.Proofs.Tryz.f288 0
theorem vc_crossbarref16_Map_out (x0:Option Addr)(x1:Int)(H:Heap)(R:Value->Heap->Prop) :
  (
 nwH H (.cells true 0 [(.int .u64 0),(.int .i64 0)]) λi1 H2=>
 AS.asAddr (.pointer x0) λi3 i4=>
 ∃a5 i6,H2.cell i3 (i4+5)=some (.slice a5 i6 0)/\
 inB x1 i6/\
 asRow a5 λi7 i8=>
 ∃n9,∃n10,H2.cellsAt i7 (i8+(x1.toNat*2)) 2=some [(.int .u64 n9),(.int .i64 n10)]/\
 nwH H2 (.cells true 0 [(.int .u64 0),(.int .i64 0)]) λi11 H12=>
 stc H12 i11 0 [(.int .u64 n9),(.int .i64 n10)] λH13=>
 LA en L_crossbarref16_Map_out_0 [(.pointer x0),(.int .i64 x1),undef,undef,(.pointer (some ⟨i1,0,none⟩)),(.pointer (some ⟨i11,0,none⟩)),(.slice none 0 0),(.int .i64 0),(.pointer x0),(.pointer (some ⟨i3,i4,none⟩)),(.pointer (some ⟨i3,(i4+5),none⟩)),(.slice a5 i6 0),(.int .i64 x1),(.pointer (some ⟨i7,(i8+(x1.toNat*2)),none⟩)),(.agg #[(.int .u64 n9),(.int .i64 n10)]),undef,undef,undef,undef,undef,undef,undef,undef,undef,undef,undef,undef,undef,undef,undef,undef,undef,undef,undef,undef,undef,undef,undef,undef,undef,undef,undef] H13 [(X.exit 0,λ(y14:Fr)(H15:Heap)=>
 asSl (y14.getD 6 undef) λa16 i17=>
 AS.asAddr (.pointer x0) λi18 i19=>
 stc H15 i18 (i19+5) [(.slice a16 i17 0)] λH20=>
 ∃n21,∃n22,H20.cellsAt i11 0 2=some [(.int .u64 n21),(.int .i64 n22)]/\
 stc H20 i1 0 [(.int .u64 n21),(.int .i64 n22)] λH23=>
 ∃n24,∃n25,H23.cellsAt i1 0 2=some [(.int .u64 n24),(.int .i64 n25)]/\
 R (.agg #[(.int .u64 n24),(.int .i64 n25)]) H23)])->
  CA en F.crossbarref16_Map_out [(.pointer x0),(.int .i64 x1)] H R:=by
 intro h;refine wpFn_ok (Z:=[[(6,(.slice none 0 0))]]) (fn:=Go.Proofs.Tryz.f288) ?_ ?_ ?_
 ·kernel_rfl
 ·kernel_rfl
 ·apply turnInto h
  kernel_rfl
theorem use_crossbarref16_Map_out_0 {t0:Option Addr}{t1:Int}{t4:Nat}{t5:Nat}{t8:Option Addr}{t9:Nat}{t9o:Nat}{t10:Nat}{t10o:Nat}{t11:Option Addr}{t11l:Nat}{t12:Int}{t13:Nat}{t13o:Nat}{t14_0:Int}{t14_1:Int}{K0:Fr->Heap->Prop}{t6:Option Addr}{t6l:Nat}{t7:Int}{t15:Value}{t16:Value}{t17:Value}{t18:Value}{t19:Value}{t20:Value}{t21:Value}{t22:Value}{t23:Value}{t24:Value}{t25:Value}{t26:Value}{t27:Value}{t28:Value}{t29:Value}{t30:Value}{t31:Value}{t32:Value}{t33:Value}{t34:Value}{t35:Value}{t36:Value}{H:Heap}(I:Nat->Option Addr->Nat->Int->Heap->Prop)(n:Nat)(h0:I n t6 t6l t7 H)
  (hstep:∀(n:Nat)(t6:Option Addr)(t6l:Nat)(t7:Int)(ys:Fr)(H:Heap),I n t6 t6l t7 H->
  (
 AS.asAddr (.pointer t0) λi1 i2=>
 ∃a3 i4,H.cell i1 (i2+5)=some (.slice a3 i4 0)/\
 bif (decide (t7<((i4:Nat):Int))) then (
 bif (t7 !=t1) then (
 AS.asAddr (.pointer t0) λi5 i6=>
 ∃a7 i8,H.cell i5 (i6+5)=some (.slice a7 i8 0)/\
 inB t7 i8/\
 asRow a7 λi9 i10=>
 ∃n11,∃n12,H.cellsAt i9 (i10+(t7.toNat*2)) 2=some [(.int .u64 n11),(.int .i64 n12)]/\
 nwH H (.cells true 2 [(.int .u64 n11),(.int .i64 n12)]) λi13 H14=>
 ∃l15,rowOf H14 2 (some ⟨i13,0,none⟩) 1=some l15/\
 apd H14 16 2 t6 t6l 1 l15 λa16 i17 H18=>
 ∃k19,k19<n/\
 I k19 a16 i17 (IntKind.i64.wrap (t7+1)) H18)
 else (
 ∃k20,k20<n/\
 I k20 t6 t6l (IntKind.i64.wrap (t7+1)) H))
 else (
 K0 [(.pointer t0),(.int .i64 t1),undef,undef,(.pointer (some ⟨t4,0,none⟩)),(.pointer (some ⟨t5,0,none⟩)),(.slice t6 t6l 0),(.int .i64 t7),(.pointer t8),(.pointer (some ⟨t9,t9o,none⟩)),(.pointer (some ⟨t10,t10o,none⟩)),(.slice t11 t11l 0),(.int .i64 t12),(.pointer (some ⟨t13,t13o,none⟩)),(.agg #[(.int .u64 t14_0),(.int .i64 t14_1)]),(.int .i64 t7),(.pointer t0),(.pointer (some ⟨i1,i2,none⟩)),(.pointer (some ⟨i1,(i2+5),none⟩)),(.slice a3 i4 0),(.int .i64 ((i4:Nat):Int)),(.bool false),(ys.getD 22 undef),(ys.getD 23 undef),(ys.getD 24 undef),(ys.getD 25 undef),(ys.getD 26 undef),(ys.getD 27 undef),(ys.getD 28 undef),(ys.getD 29 undef),(ys.getD 30 undef),(ys.getD 31 undef),(ys.getD 32 undef),(ys.getD 33 undef),(ys.getD 34 undef),(ys.getD 35 undef),(ys.getD 36 undef),undef,undef,undef,undef,undef] H))) :
  LA en L_crossbarref16_Map_out_0 [(.pointer t0),(.int .i64 t1),undef,undef,(.pointer (some ⟨t4,0,none⟩)),(.pointer (some ⟨t5,0,none⟩)),(.slice t6 t6l 0),(.int .i64 t7),(.pointer t8),(.pointer (some ⟨t9,t9o,none⟩)),(.pointer (some ⟨t10,t10o,none⟩)),(.slice t11 t11l 0),(.int .i64 t12),(.pointer (some ⟨t13,t13o,none⟩)),(.agg #[(.int .u64 t14_0),(.int .i64 t14_1)]),t15,t16,t17,t18,t19,t20,t21,t22,t23,t24,t25,t26,t27,t28,t29,t30,t31,t32,t33,t34,t35,t36,undef,undef,undef,undef,undef] H [(X.exit 0,K0)]:=by
 refine LA_rule (Z:=[]) (λm xs H'=>asSl (xs.getD 6 undef) λt6 t6l=>AS.asInt .i64 (xs.getD 7 undef) λt7=>I m t6 t6l t7 H') ?_ n H ?_
 ·intro n H
  suffices hs:∀s15:Value,∀s16:Value,∀s17:Value,∀s18:Value,∀s19:Value,∀s20:Value,∀s21:Value,∀s24:Value,∀s25:Value,∀s26:Value,∀s27:Value,∀s28:Value,∀s29:Value,∀s30:Value,∀s31:Value,∀s32:Value,∀s33:Value,∀s34:Value,∀s35:Value,∀s36:Value,∀s6:Value,∀s22:Value,∀s23:Value,∀s7:Value,((asSl s6 λt6 t6l=>AS.asInt .i64 s7 λt7=>I n t6 t6l t7 H)->wpCode en L_crossbarref16_Map_out_0 [] [(.pointer t0),(.int .i64 t1),undef,undef,(.pointer (some ⟨t4,0,none⟩)),(.pointer (some ⟨t5,0,none⟩)),s6,s7,(.pointer t8),(.pointer (some ⟨t9,t9o,none⟩)),(.pointer (some ⟨t10,t10o,none⟩)),(.slice t11 t11l 0),(.int .i64 t12),(.pointer (some ⟨t13,t13o,none⟩)),(.agg #[(.int .u64 t14_0),(.int .i64 t14_1)]),s15,s16,s17,s18,s19,s20,s21,s22,s23,s24,s25,s26,s27,s28,s29,s30,s31,s32,s33,s34,s35,s36,undef,undef,undef,undef,undef] H (loopQ (λm xs H'=>asSl (xs.getD 6 undef) λt6 t6l=>AS.asInt .i64 (xs.getD 7 undef) λt7=>I m t6 t6l t7 H') n [(X.exit 0,K0)])) by
   apply turnInto hs
   kernel_rfl
  intro s15 s16 s17 s18 s19 s20 s21 s24 s25 s26 s27 s28 s29 s30 s31 s32 s33 s34 s35 s36 s6 s22 s23 s7 hP;replace hP:=asSl_elim hP;obtain ⟨t6,t6l,rfl,hP⟩:=hP;replace hP:=asInt_elim hP;obtain ⟨t7,rfl,hP⟩:=hP;apply turnInto (hstep n t6 t6l t7 [(.pointer t0),(.int .i64 t1),undef,undef,(.pointer (some ⟨t4,0,none⟩)),(.pointer (some ⟨t5,0,none⟩)),(.slice t6 t6l 0),(.int .i64 t7),(.pointer t8),(.pointer (some ⟨t9,t9o,none⟩)),(.pointer (some ⟨t10,t10o,none⟩)),(.slice t11 t11l 0),(.int .i64 t12),(.pointer (some ⟨t13,t13o,none⟩)),(.agg #[(.int .u64 t14_0),(.int .i64 t14_1)]),s15,s16,s17,s18,s19,s20,s21,s22,s23,s24,s25,s26,s27,s28,s29,s30,s31,s32,s33,s34,s35,s36,undef,undef,undef,undef,undef] H hP);kernel_rfl
 ·apply turnInto h0
  kernel_rfl
end
section
variable {H H':Heap} {R:Value->Heap->Prop} {L:List Asr} {y:Nat} {lb wb:Option Nat} {key:Wd} {D:Dq} {p:Wd×Nat}
structure D5 where
 a:Int
 b:Int
 c:Int
 d:Int
 e:Int
abbrev prow (p:Wd×Nat):List Value:=[W p.1,I p.2]
abbrev prows (l:List (Wd×Nat)):List (List Value):=l.map prow
abbrev y16 (y:Nat)(d:D5)(lb wb:Option Nat)(D:Dq):Asr:=bx y (.cells true 0 [I d.a,I d.b,I d.c,I d.d,I d.e,.slice (addr lb) D.L.length 0,.slice (addr wb) D.ws.length 0])
abbrev l16 (lb:Option Nat)(D:Dq):Asr:=gl 2 lb (prows D.L).flatten
abbrev w16 (wb:Option Nat)(D:Dq):Asr:=gl 1 wb (D.ws.map W)
structure Ok16 (E:Int)(lb wb:Option Nat)(D:Dq):Prop where
 n1:lb=none->D.L=[]
 n2:wb=none->D.ws=[]
 le:(D.L.length:Int)<=E
 e1:1<=E
 e2:E<=64
 lv:D.ws.length<=1000000
 el:∀p∈D.L,1<=p.2/\p.2<=D.ws.length
 nd:(D.L.map (·.1)).Nodup
variable {d:D5} {E:Int}
theorem Ok16.short (o:Ok16 E lb wb D):D.L.length<=64:=by have:=o.le;have:=o.e2;omega
theorem prow_len (l:List (Wd×Nat)):∀c∈prows l,c.length=2:=by
 intro c hc;obtain ⟨q,_,rfl⟩:=List.mem_map.1 hc;rfl
theorem prows_flat (l:List (Wd×Nat)):(prows l).flatten.length=l.length*2:=by rw [rowsFlat_len _ (prow_len l),List.length_map]
theorem prows_snoc (l:List (Wd×Nat))(p:Wd×Nat):(prows (l++[p])).flatten=(prows l).flatten++prow p:=by
 show ((l++[p]).map prow).flatten=(l.map prow).flatten++prow p;rw [List.map_append,List.flatten_append];simp
theorem prow_cell {l:List (Wd×Nat)}{j:Nat}{p:Wd×Nat}(h:l[j]? =some p):(prows l).flatten[j*2]? =some (W p.1):=by
 have hj:=(List.getElem?_eq_some_iff.1 h).1;have h2:(prows l)[j]? =some (prow p):=by rw [List.getElem?_map,h];rfl
 have h3:=(List.getElem?_eq_some_iff.1 h2).2;rw [show j*2=j*2+0 from rfl,rowsFlat_cell (prow_len l) (by rw [List.length_map];exact hj) (by decide),h3];rfl
theorem prow_row {l:List (Wd×Nat)}{j:Nat}{p:Wd×Nat}(h:l[j]? =some p):takeAt (prows l).flatten (j*2) 2=some (prow p):=by
 have hj:=(List.getElem?_eq_some_iff.1 h).1;have h2:(prows l)[j]? =some (prow p):=by rw [List.getElem?_map,h];rfl
 have h3:=(List.getElem?_eq_some_iff.1 h2).2;rw [rowsFlat_takeAt (prow_len l) (by rw [List.length_map];exact hj),h3]
theorem n16 {lb:Option Nat}{l:List (Wd×Nat)}(h:lb=none->l=[]):lb=none->(prows l).flatten=[]:=λe=>by rw [h e];rfl
theorem find_at {l:List (Wd×Nat)}{i:Nat}(h:l[i]? =some p)(hk:p.1=key)(hno:∀x∈l.take i,x.1≠key):l.find? (λp=>p.1==key)=some p:=by
 have⟨hl,hg⟩:=List.getElem?_eq_some_iff.1 h;have e:l=l.take i++(p::l.drop (i+1)):=by rw [<-hg,<-List.drop_eq_getElem_cons hl,List.take_append_drop]
 rw [e,List.find?_append,List.find?_eq_none.2 (by simpa using hno),Option.none_or,List.find?_cons_of_pos (by simpa using hk)]
theorem dfind_s (o:Ok16 E lb wb D)(h:Sep H (y16 y d lb wb D::l16 lb D::L))
  (h1:∀(i:Nat) p,D.L[i]? =some p->p.1=key->D.find key=some p->R (I i) H)(h2:D.find key=none->R (I (-1)) H) :
  CA en F.crossbarref16_Map_find [P y,W key] H R:=by
 apply vc_crossbarref16_Map_find;have hle:=o.short;refine use_crossbarref16_Map_find_0 (λk t4 t5 H'=>H=H'/\∃j:Nat,j<=D.L.length/\k=D.L.length - j/\t5=(j:Int)/\∀x∈D.L.take j,x.1≠key) D.L.length ⟨rfl,0,Nat.zero_le _,rfl,rfl,λx hx=>by simp at hx⟩ ?_;rintro k t4 t5 ys _ ⟨rfl,j,hj,rfl,rfl,hno⟩;refine asAddr_in ⟨_,_,Sep.ld0 h rfl,cond_of (λz=>?_) λz=>?_⟩
 ·have z:j<D.L.length:=by have:=of_decide_eq_true z;omega
  have⟨e,he⟩:∃e,D.L[j]? =some e:=⟨_,List.getElem?_eq_getElem z⟩;have ht:D.L.take (j+1)=D.L.take j++[e]:=by rw [List.take_add_one,he];rfl
  refine asAddr_in ⟨_,_,Sep.ld0 h rfl,⟨by omega,by omega⟩,gl_ld (Sep.up1 h) (n16 o.n1) (prow_cell he) λi hc=>⟨_,by rw [Int.toNat_natCast];exact hc,cond_of (λw=>?_) λw=>?_⟩⟩
  ·have w:e.1=key:=by
    have w:(e.1.toNat:Int)=(key.toNat:Int):=by simpa using w
    exact BitVec.eq_of_toNat_eq (by omega)
   exact h1 j e he w (find_at he w hno)
  ·have w:e.1≠key:=λe2=>by rw [e2] at w;simp at w
   refine ⟨D.L.length - (j+1),by omega,rfl,j+1,z,rfl,by rw [wrap_i64 (by omega)];omega,λx hx=>?_⟩;rw [ht] at hx;rcases List.mem_append.1 hx with hx|hx
   ·exact hno x hx
   ·simp only [List.mem_singleton] at hx;subst hx;exact w
 ·have z:j=D.L.length:=by have:=of_decide_eq_false z;omega
  subst z;rw [List.take_length] at hno;exact asInt_in (h2 (List.find?_eq_none.2 (by simpa using hno)))
def Dq.cut (D:Dq)(a:Nat):Dq:={D with L:=D.L.eraseIdx a}
theorem Ok16.cut (o:Ok16 E lb wb D){lb':Option Nat}{a:Nat}(hn:lb'=none->D.L.eraseIdx a=[]):Ok16 E lb' wb (D.cut a):=
 ⟨hn,o.n2,by have:=o.le;have:=List.length_eraseIdx_le D.L a;show ((D.L.eraseIdx a).length:Int)<=E;omega,o.e1,o.e2,o.lv,λp hp=>o.el p (List.mem_of_mem_eraseIdx hp),by
  show ((D.L.eraseIdx a).map (·.1)).Nodup
  exact o.nd.sublist ((List.eraseIdx_sublist ..).map _)⟩
theorem dout_s {a:Nat}(o:Ok16 E lb wb D)(h:Sep H (y16 y d lb wb D::l16 lb D::L))(ha:D.L[a]? =some p)
  (hR:∀H' lb',Ok16 E lb' wb (D.cut a)->Sep H' (y16 y d lb' wb (D.cut a)::l16 lb' (D.cut a)::L)->R (.agg #[W p.1,I p.2]) H') :
  CA en F.crossbarref16_Map_out [P y,I a] H R:=by
 apply vc_crossbarref16_Map_out;have hle:=o.short;have hal:a<D.L.length:=(List.getElem?_eq_some_iff.1 ha).1;refine Sep.nw h λi1 H2 h2=>?_
 refine asAddr_in ⟨_,_,Sep.ld1 h2 rfl,(by show inB (a:Int) D.L.length;unfold inB;omega),gl_lds (Sep.up2 h2) (n16 o.n1) (prow_row ha) (by decide) λi hc=>⟨_,_,by rw [Int.toNat_natCast];exact hc,?_⟩⟩;refine Sep.nw h2 λi11 H12 h12=>Sep.st0 h12 (Nat.le_of_ble_eq_true rfl) λH13 h13=>?_
 have h0:Sep H13 (gl 2 none (prows ((D.L.take 0).eraseIdx a)).flatten::bx i11 (.cells true 0 [W p.1,I p.2])::bx i1 (.cells true 0 [.int .u64 0,I 0])::y16 y d lb wb D::l16 lb D::L):=gl_none.2 h13;clear h13 h12 h2 h hc;refine use_crossbarref16_Map_out_0 (λk g n t H'=>∃(j:Nat)(ob:Option Nat),j<=D.L.length/\k=D.L.length - j/\t=(j:Int)/\g=addr ob/\n=((D.L.take j).eraseIdx a).length/\(ob=none->(D.L.take j).eraseIdx a=[])/\
  Sep H' (gl 2 ob (prows ((D.L.take j).eraseIdx a)).flatten::bx i11 (.cells true 0 [W p.1,I p.2])::bx i1 (.cells true 0 [.int .u64 0,I 0])::y16 y d lb wb D::l16 lb D::L)) D.L.length ⟨0,none,Nat.zero_le _,rfl,rfl,rfl,by simp,λ_=>by simp,h0⟩ ?_
 clear h0;rintro k g n t ys H ⟨j,ob,hj,rfl,rfl,rfl,rfl,ho,h⟩;refine asAddr_in ⟨_,_,Sep.ld3 h rfl,cond_of (λz=>?_) λz=>?_⟩
 ·have z:j<D.L.length:=by have:=of_decide_eq_true z;omega
  have⟨q,hq⟩:∃q,D.L[j]? =some q:=⟨_,List.getElem?_eq_getElem z⟩;have ew:IntKind.i64.wrap ((j:Int)+1)=((j+1:Nat):Int):=by rw [wrap_i64 (by omega)];omega
  refine cond_of (λz2=>?_) λz2=>?_
  ·have z2:j≠a:=by
    have:(j:Int)≠(a:Int):=by simpa using z2
    omega
   refine asAddr_in ⟨_,_,Sep.ld3 h rfl,(by show inB (j:Int) D.L.length;unfold inB;omega),gl_lds (Sep.up4 h) (n16 o.n1) (prow_row hq) (by decide) λi hc=>⟨_,_,by rw [Int.toNat_natCast];exact hc,?_⟩⟩;refine Sep.nw h λi13 H14 h14=>⟨prow q,rowOf_bx (es:=2) (Sep.get0 h14) (by decide) rfl,?_⟩
   have hel:=er_len' (a:=a) hj (by omega:D.L.length<=1000);refine apd_gl (b:=ob) (cs:=(prows ((D.L.take j).eraseIdx a)).flatten) (new:=prow q) (Sep.up1 h14) (λe=>by rw [ho e];rfl) (by decide) (prows_flat _) (by decide) rfl (by omega) λH18 q' h18=>?_
   have e1:=er_ne' hq z2;refine ⟨D.L.length - (j+1),by omega,j+1,some q',z,rfl,ew,rfl,(by rw [e1,List.length_append];rfl),(λe=>by cases e),?_⟩;have e2:(prows ((D.L.take (j+1)).eraseIdx a)).flatten=(prows ((D.L.take j).eraseIdx a)).flatten++prow q:=by
    rw [e1,prows_snoc]
   rw [e2];exact Sep.rm1 h18
  ·have z2:j=a:=by
    have:(j:Int)=(a:Int):=by simpa using z2
    omega
   subst z2;refine ⟨D.L.length - (j+1),by omega,j+1,ob,z,rfl,ew,rfl,by rw [er_eq'],λe=>by rw [er_eq'];exact ho e,?_⟩;rw [er_eq'];exact h
 ·have z:j=D.L.length:=by have:=of_decide_eq_false z;omega
  subst z;rw [List.take_length] at ho h⊢;refine asSl_in (asAddr_in (Sep.st3 h (Nat.le_of_ble_eq_true rfl) λH20 h20=>⟨_,_,Sep.lds1 h20 rfl,Sep.st2 h20 (Nat.le_of_ble_eq_true rfl) λH23 h23=>⟨_,_,Sep.lds2 h23 rfl,hR H23 ob (o.cut ho) ?_⟩⟩));exact Sep.pick h23 5 [3,0] (by decide)
theorem less_erase:∀{l:List (Wd×Nat)}{a:Nat}{p:Wd×Nat},(l.map (·.1)).Nodup->l[a]? =some p->l.filter (λx=>x.1 !=p.1)=l.eraseIdx a
 |[],a,p,_,h=>by simp at h
 |x::l,0,p,nd,h=>by
  rw [List.getElem?_cons_zero] at h;injection h with h;subst h
  rw [List.map_cons,List.nodup_cons] at nd
  rw [List.filter_cons_of_neg (by simp),List.eraseIdx_cons_zero,List.filter_eq_self]
  intro y hy
  simp only [bne_iff_ne,ne_eq]
  exact λe=>nd.1 (List.mem_map.2 ⟨y,hy,e⟩)
 |x::l,a+1,p,nd,h=>by
  rw [List.getElem?_cons_succ] at h
  rw [List.map_cons,List.nodup_cons] at nd
  have hm:=List.mem_of_getElem? h
  rw [List.filter_cons_of_pos (by simp only [bne_iff_ne,ne_eq];exact λe=>nd.1 (List.mem_map.2 ⟨p,hm,e.symm⟩)),List.eraseIdx_cons_succ,less_erase nd.2 h]
theorem cut_less {a:Nat}(o:Ok16 E lb wb D)(h:D.L[a]? =some p):D.cut a=⟨D.less p.1,D.ws⟩:=by
 show Dq.mk (D.L.eraseIdx a) D.ws=_;rw [<-less_erase o.nd h];rfl
def behind (K:List Wd)(m:Nat)(w:Wd):Prop:=m=0∨(K.getD (m - 1) 0).toNat<w.toNat
theorem keys_nodup (o:Ok16 E lb wb D):D.keys.Nodup:=(srt_perm _).nodup_iff.2 o.nd
theorem keys_len:D.keys.length=D.L.length:=by unfold Dq.keys;rw [(srt_perm _).length_eq,List.length_map]
theorem keys_lt (o:Ok16 E lb wb D):∀{i j:Nat}{x z:Wd},D.keys[i]? =some x->D.keys[j]? =some z->(i<j↔x.toNat<z.toNat):=by
 have h1:=srt_sorted (D.L.map (·.1));have h2:=keys_nodup o;have mono:∀{i j:Nat}{x z:Wd},D.keys[i]? =some x->D.keys[j]? =some z->i<j->x.toNat<z.toNat:=λ{i j x z} hx hz hlt=>by
  have⟨hi,ei⟩:=List.getElem?_eq_some_iff.1 hx;have⟨hj,ej⟩:=List.getElem?_eq_some_iff.1 hz;have h3:=List.pairwise_iff_getElem.1 h1 i j hi hj hlt;have h4:x≠z:=λe=>by
   have:i=j:=(List.getElem?_inj hi h2).1 (by rw [hx,hz,e])
   omega
  have h5:x.toNat≠z.toNat:=λe=>h4 (BitVec.eq_of_toNat_eq e)
  have h3:D.keys[i].toNat<=D.keys[j].toNat:=h3;rw [ei,ej] at h3;omega
 intro i j x z hx hz;refine ⟨mono hx hz,λhlt=>?_⟩;rcases Nat.lt_trichotomy i j with h|h|h
 ·exact h
 ·subst h;rw [hx] at hz;injection hz with hz;subst hz;omega
 ·have:=mono hz hx h;omega
theorem behind_iff (o:Ok16 E lb wb D){m:Nat}{x w:Wd}(hx:D.keys[m]? =some x)(hw:w∈D.keys):behind D.keys m w↔x.toNat<=w.toNat:=by
 have⟨i,hi⟩:=List.mem_iff_getElem?.1 hw;unfold behind;cases m with
 |zero=>
  refine ⟨λ_=>?_,λ_=>.inl rfl⟩;rcases Nat.eq_zero_or_pos i with h|h
  ·subst h;rw [hx] at hi;injection hi with hi;subst hi;exact Nat.le_refl _
  ·exact Nat.le_of_lt ((keys_lt o hx hi).1 h)
 |succ m=>
  have⟨v,hv⟩:∃v,D.keys[m]? =some v:=⟨_,List.getElem?_eq_getElem (by have:=(List.getElem?_eq_some_iff.1 hx).1;omega)⟩;have e:D.keys.getD (m+1 - 1) 0=v:=by rw [Nat.add_sub_cancel,List.getD_eq_getElem?_getD,hv];rfl
  rw [e];have h1:=keys_lt o hv hi;have h2:=keys_lt o hi hx;constructor
  ·rintro (h|h)
   ·omega
   ·have:=h1.2 h
    have:=λhh=>h2.2 hh
    omega
  ·intro h;refine .inr (h1.1 ?_)
   have:¬i<m+1:=λhh=>by have:=h2.1 hh;omega
   omega
def Least (K:List Wd)(m:Nat)(l:List (Wd×Nat))(t:Int)(any:Bool):Prop:=
 (any=false/\t=0/\∀x∈l,¬behind K m x.1)∨(any=true/\∃p∈l,t=(p.1.toNat:Int)/\behind K m p.1/\∀x∈l,behind K m x.1->p.1.toNat<=x.1.toNat)
theorem Least.end (o:Ok16 E lb wb D){m:Nat}{t:Int}{any:Bool}{x:Wd}(hx:D.keys[m]? =some x)(h:Least D.keys m D.L t any):t=(x.toNat:Int):=by
 have hm:∀w,w∈D.keys↔∃p∈D.L,p.1=w:=λw=>by
  unfold Dq.keys;rw [(srt_perm _).mem_iff,List.mem_map]
 have hxm:=List.mem_of_getElem? hx;have⟨px,hpx,ex⟩:=(hm x).1 hxm;have hbx:behind D.keys m px.1:=by rw [ex];exact (behind_iff o hx hxm).2 (Nat.le_refl _)
 rcases h with ⟨_,_,h⟩|⟨_,p,hp,rfl,hb,hmin⟩
 ·exact absurd hbx (h px hpx)
 ·have h1:=(behind_iff o hx ((hm _).2 ⟨p,hp,rfl⟩)).1 hb;have h2:=hmin px hpx hbx;rw [ex] at h2;omega
theorem Least.skip {K:List Wd}{m j:Nat}{t:Int}{any:Bool}{l:List (Wd×Nat)}{e:Wd×Nat}(he:l[j]? =some e)(h:Least K m (l.take j) t any)(hn:¬behind K m e.1∨(any=true/\t<=(e.1.toNat:Int))):Least K m (l.take (j+1)) t any:=by
 have ht:l.take (j+1)=l.take j++[e]:=by rw [List.take_add_one,he];rfl
 rw [ht];rcases h with ⟨h1,h2,h3⟩|⟨h1,p,hp,rfl,hb,hmin⟩
 ·refine .inl ⟨h1,h2,λx hx=>?_⟩;rcases List.mem_append.1 hx with hx|hx
  ·exact h3 x hx
  ·simp only [List.mem_singleton] at hx;subst hx;rcases hn with hn|hn
   ·exact hn
   ·rw [h1] at hn;cases hn.1
 ·refine .inr ⟨h1,p,List.mem_append_left _ hp,rfl,hb,λx hx hbx=>?_⟩;rcases List.mem_append.1 hx with hx|hx
  ·exact hmin x hx hbx
  ·simp only [List.mem_singleton] at hx;subst hx;rcases hn with hn|hn
   ·exact absurd hbx hn
   ·have:=hn.2;omega
theorem Least.take {K:List Wd}{m j:Nat}{t:Int}{any:Bool}{l:List (Wd×Nat)}{e:Wd×Nat}(he:l[j]? =some e)(h:Least K m (l.take j) t any)(hb:behind K m e.1)(hn:any=false∨(e.1.toNat:Int)<t):Least K m (l.take (j+1)) e.1.toNat true:=by
 have ht:l.take (j+1)=l.take j++[e]:=by rw [List.take_add_one,he];rfl
 rw [ht];refine .inr ⟨rfl,e,by simp,rfl,hb,λx hx hbx=>?_⟩;rcases List.mem_append.1 hx with hx|hx
 ·rcases h with ⟨h1,h2,h3⟩|⟨h1,p,hp,rfl,hb,hmin⟩
  ·exact absurd hbx (h3 x hx)
  ·have:=hmin x hx hbx
   rcases hn with hn|hn
   ·rw [h1] at hn;cases hn
   ·omega
 ·simp only [List.mem_singleton] at hx;subst hx;exact Nat.le_refl _
theorem dkeys_s (o:Ok16 E lb wb D)(h:Sep H (y16 y d lb wb D::l16 lb D::L))
  (hR:∀H' q,(q=none->D.keys=[])->Sep H' (gl 1 q (wds D.keys)::y16 y d lb wb D::l16 lb D::L)->R (.slice (addr q) D.keys.length 0) H') :
  CA en F.crossbarref16_Map_Keys [P y] H R:=by
 apply vc_crossbarref16_Map_Keys;have hle:=o.short;have hkl:=keys_len (D:=D);have h0:Sep H (gl 1 none (wds (D.keys.take 0))::y16 y d lb wb D::l16 lb D::L):=gl_none.2 h;refine use_crossbarref16_Map_Keys_0 (λk g n H'=>∃(j:Nat)(ob:Option Nat),j<=D.L.length/\k=D.L.length - j/\g=addr ob/\n=j/\(ob=none->j=0)/\Sep H' (gl 1 ob (wds (D.keys.take j))::y16 y d lb wb D::l16 lb D::L)) D.L.length ⟨0,none,Nat.zero_le _,rfl,rfl,rfl,λ_=>rfl,h0⟩ ?_;clear h0 h;rintro k g n ys H ⟨m,ob,hm,rfl,rfl,rfl,ho,h⟩;refine asAddr_in ⟨_,_,Sep.ld1 h rfl,cond_of (λz=>?_) λz=>?_⟩
 ·have z:n<D.L.length:=by have:=of_decide_eq_true z;omega
  have⟨x,hx⟩:∃x,D.keys[n]? =some x:=⟨_,List.getElem?_eq_getElem (by omega)⟩;have hn1:ob=none->wds (D.keys.take n)=[]:=λe=>by rw [ho e];rfl
  refine use_crossbarref16_Map_Keys_1 (λk t a i H'=>H=H'/\∃j:Nat,j<=D.L.length/\k=D.L.length - j/\i=(j:Int)/\Least D.keys n (D.L.take j) t a) D.L.length ⟨rfl,0,Nat.zero_le _,rfl,rfl,.inl ⟨rfl,rfl,λx hx=>by simp at hx⟩⟩ ?_;rintro k t a i ys2 _ ⟨rfl,j,hj,rfl,rfl,hl⟩;refine asAddr_in ⟨_,_,Sep.ld1 h rfl,cond_of (λz2=>?_) λz2=>?_⟩
  ·have z2:j<D.L.length:=by have:=of_decide_eq_true z2;omega
   have⟨e,he⟩:∃e,D.L[j]? =some e:=⟨_,List.getElem?_eq_getElem z2⟩;have ew:IntKind.i64.wrap ((j:Int)+1)=((j+1:Nat):Int):=by rw [wrap_i64 (by omega)];omega
   have goOn:∀(t':Int)(a':Bool),Least D.keys n (D.L.take (j+1)) t' a'->∃k',k'<D.L.length - j/\(H=H/\∃j':Nat,j'<=D.L.length/\k'=D.L.length - j'/\IntKind.i64.wrap ((j:Int)+1)=(j':Int)/\Least D.keys n (D.L.take j') t' a'):=
    λt' a' hh=>⟨D.L.length - (j+1),by omega,rfl,j+1,z2,rfl,ew,hh⟩
   have rest:behind D.keys n e.1->(bif (!a) then (∃k',k'<D.L.length - j/\(H=H/\∃j':Nat,j'<=D.L.length/\k'=D.L.length - j'/\IntKind.i64.wrap ((j:Int)+1)=(j':Int)/\Least D.keys n (D.L.take j') (e.1.toNat:Int) true))
     else (bif (decide ((e.1.toNat:Int)<t)) then (∃k',k'<D.L.length - j/\(H=H/\∃j':Nat,j'<=D.L.length/\k'=D.L.length - j'/\IntKind.i64.wrap ((j:Int)+1)=(j':Int)/\Least D.keys n (D.L.take j') (e.1.toNat:Int) true))
      else (∃k',k'<D.L.length - j/\(H=H/\∃j':Nat,j'<=D.L.length/\k'=D.L.length - j'/\IntKind.i64.wrap ((j:Int)+1)=(j':Int)/\Least D.keys n (D.L.take j') t a)))):=λhb=>by
    refine cond_of (λw=>?_) λw=>cond_of (λw2=>?_) λw2=>?_
    ·exact goOn _ _ (hl.take he hb (.inl (by simpa using w)))
    ·exact goOn _ _ (hl.take he hb (.inr (of_decide_eq_true w2)))
    ·exact goOn _ _ (hl.skip he (.inr ⟨by simpa using w,by have:=of_decide_eq_false w2;omega⟩))
   refine asAddr_in ⟨_,_,Sep.ld1 h rfl,⟨by omega,by omega⟩,gl_ld (Sep.up2 h) (n16 o.n1) (prow_cell he) λi hc=>⟨_,by rw [Int.toNat_natCast];exact hc,cond_of (λw=>?_) λw=>?_⟩⟩
   ·have w:n=0:=by
     have:(n:Int)=0:=by simpa using w
     omega
    exact rest (.inl w)
   ·have w:n≠0:=λe=>by rw [e] at w;simp at w
    have ew2:IntKind.i64.wrap ((n:Int) - 1)=((n - 1:Nat):Int):=by rw [wrap_i64 (by omega)];omega
    have⟨v,hv⟩:∃v,D.keys[n - 1]? =some v:=⟨_,List.getElem?_eq_getElem (by omega)⟩;have ev:D.keys.getD (n - 1) 0=v:=by rw [List.getD_eq_getElem?_getD,hv];rfl
    rw [ew2];refine ⟨⟨by omega,by omega⟩,gl_ld h hn1 (o:=n - 1) (v:=W v) (by rw [List.getElem?_map,List.getElem?_take,if_pos (by omega),hv];rfl) λi2 hc2=>⟨_,by rw [Int.toNat_natCast,Nat.mul_one];exact hc2,cond_of (λw2=>?_) λw2=>?_⟩⟩
    ·have w2:=of_decide_eq_true w2;exact rest (.inr (by rw [ev];omega))
    ·have w2:=of_decide_eq_false w2;refine goOn _ _ (hl.skip he (.inl λhb=>?_));rcases hb with hb|hb
     ·exact w hb
     ·rw [ev] at hb;omega
  ·have z2:j=D.L.length:=by have:=of_decide_eq_false z2;omega
   subst z2;rw [List.take_length] at hl;have et:=hl.end o hx;refine asInt_in (Sep.nw h λi8 H9 h9=>⟨[.int .u64 t],rowOf_bx (es:=1) (Sep.get0 h9) (by decide) rfl,?_⟩);refine apd_gl (b:=ob) (cs:=wds (D.keys.take n)) (new:=[.int .u64 t]) (Sep.up1 h9) hn1 (by decide) (by rw [List.length_map,List.length_take];omega) (by decide) rfl (by omega) λH13 q h13=>?_
   refine ⟨D.L.length - (n+1),by omega,n+1,some q,z,rfl,rfl,rfl,(λe=>by cases e),?_⟩;have e2:wds (D.keys.take (n+1))=wds (D.keys.take n)++[.int .u64 t]:=by
    rw [List.take_add_one,hx,et];exact List.map_append
   rw [e2];exact Sep.rm1 h13
 ·have z:n=D.L.length:=by have:=of_decide_eq_false z;omega
  subst z;have e3:D.keys.take D.L.length=D.keys:=List.take_of_length_le (by omega);rw [e3] at h;refine asSl_in ?_;rw [<-hkl];exact hR H ob (λe=>List.eq_nil_of_length_eq_zero (by have:=ho e;omega)) h
end
end Go.Proofs.YtjggeoghlicmdaaGreat
